import Derived.Test.YtbajipmhnoakeaaGreatPnKp
set_option linter.unusedVariables false
set_option linter.unusedSimpArgs false
namespace Go.Proofs.YtbajipmhnoakeaaGreat
open Go Go.Zf
noncomputable section
@[simp] def k86:List Nat:=[0,2]
@[simp] def ux86 (e:E) (t:Nat) (v:V):E:=⟨[e.s k86 0,e.s k86 2],t,v⟩
def l86_0 (K:Oracle) (L:Looper) (e:E) (h:H):Out :=
 sq (sq (bd (binK 0 .geq (e.s k86 2) (.int .i64 0)) fun t15 =>
 bd (gl t15 true (some (e.s k86 0))) fun t17 =>
 bd (gl t15 true (nilC t17)) fun t18 =>
 bd (gl t15 true (fa 0 t18)) fun t19 =>
 bd (gl t15 true (ld h t19)) fun t20 =>
 bd (gl t15 true (some (e.s k86 2))) fun t21 =>
 bd (gl t15 true (iaS 1 t20 t21)) fun t22 =>
 bd (gl t15 true (ld h t22)) fun t23 =>
 bd (gl t15 true (binK 0 .eql t23 (.int .u8 255))) fun t24 =>
 bd (pk t15 t24 (.bool false)) fun t25 =>
 some ⟨.nm,ux86 e 25 t25,h⟩) fun e h =>
 br (e.s k86 25) (some ⟨.nm,e,h⟩)
 (some ⟨.ex 0,e,h⟩)) fun e h =>
 blk 1 (sq (bd (nilC (e.s k86 0)) fun t27 =>
 bd (fa 0 t27) fun t28 =>
 bd (ld h t28) fun t29 =>
 bd (iaS 1 t29 (e.s k86 2)) fun t31 =>
 bf (stZ 1 h t31 (.int .u8 0)) fun _ h1 =>
 some ⟨.nm,ux86 e 0 (e.s k86 0),h1⟩) fun e h =>
 bd (binK 0 .sub (e.s k86 2) (.int .i64 1)) fun t33 =>
 some ⟨.nm,(ux86 e 2 t33).st 1 t33,h⟩)
def s86 (K:Oracle) (L:Looper) (e:E) (h:H):Out :=
 sq (sq (bd (nilC (e.s k86 0)) fun t4 =>
 bd (fa 1 t4) fun t5 =>
 bd (ld h t5) fun t6 =>
 bd (binK 0 .geq t6 (.int .u64 4294967296)) fun t7 =>
 some ⟨.nm,ux86 e 7 t7,h⟩) fun e h =>
 br (e.s k86 7) (sq (bd (nilC (e.s k86 0)) fun t9 =>
 bd (fa 0 t9) fun t10 =>
 bd (ld h t10) fun t11 =>
 bd (lnS t11) fun t12 =>
 bd (binK 0 .sub t12 (.int .i64 1)) fun t13 =>
 some ⟨.nm,(ux86 e 2 t13).st 1 t13,h⟩) fun e h =>
 sq (blk 0 (L (l86_0 K L) e h)) fun e h =>
 sq (sq (bd (binK 0 .geq (e.s k86 2) (.int .i64 0)) fun t35 =>
 some ⟨.nm,ux86 e 35 t35,h⟩) fun e h =>
 br (e.s k86 35) (bd (nilC (e.s k86 0)) fun t37 =>
 bd (fa 0 t37) fun t38 =>
 bd (ld h t38) fun t39 =>
 bd (iaS 1 t39 (e.s k86 2)) fun t41 =>
 bd (ld h t41) fun t42 =>
 bd (binK 0 .add t42 (.int .u8 1)) fun t43 =>
 bd (iaS 1 t39 (e.s k86 2)) fun t44 =>
 bf (stZ 1 h t44 t43) fun _ h1 =>
 some ⟨.nm,ux86 e 0 (e.s k86 0),h1⟩)
 (some ⟨.nm,e,h⟩)) fun e h =>
 bd (nilC (e.s k86 0)) fun t47 =>
 bd (fa 1 t47) fun t48 =>
 bd (ld h t48) fun t49 =>
 bd (binK 0 .sub t49 (.int .u64 4294967296)) fun t50 =>
 bd (nilC (e.s k86 0)) fun t51 =>
 bd (fa 1 t51) fun t52 =>
 bf (stZ 1 h t52 t50) fun _ h1 =>
 some ⟨.nm,ux86 e 0 (e.s k86 0),h1⟩)
 (some ⟨.nm,e,h⟩)) fun e h =>
 sq (bd (nilC (e.s k86 0)) fun t55 =>
 bd (fa 0 t55) fun t56 =>
 bd (ld h t56) fun t57 =>
 bd (nilC (e.s k86 0)) fun t59 =>
 bd (fa 1 t59) fun t60 =>
 bd (ld h t60) fun t61 =>
 bd (binK 0 .quo t61 (.int .u64 16777216)) fun t62 =>
 bd (cv .u8 t62) fun t63 =>
 bf (bs h 5 1 [(.int .u8 0)] [(some (0,1),t63)]) fun t64 h1 =>
 bf (apZ 5 1 1 h1 t57 t64) fun t65 h2 =>
 bd (nilC (e.s k86 0)) fun t66 =>
 bd (fa 0 t66) fun t67 =>
 bf (stZ 1 h2 t67 t65) fun _ h3 =>
 ck (ld h t56) t57 (ck (ld h t60) t61 (some ⟨.nm,ux86 e 0 (e.s k86 0),h3⟩))) fun e h =>
 bd (nilC (e.s k86 0)) fun t70 =>
 bd (fa 1 t70) fun t71 =>
 bd (ld h t71) fun t72 =>
 bd (binK 0 .rem t72 (.int .u64 16777216)) fun t73 =>
 bd (binK 0 .mul t73 (.int .u64 256)) fun t74 =>
 bd (nilC (e.s k86 0)) fun t75 =>
 bd (fa 1 t75) fun t76 =>
 bf (stZ 1 h t76 t74) fun _ h1 =>
 some ⟨.nm,ux86 e 0 (e.s k86 0),h1⟩
def f86 (K:Oracle) (L:Looper) (p0:V) (h:H):Option (Rv × H):=fin Tryz.prog k86 [] (s86 K L ⟨[p0,V.und],0,p0⟩ h)
theorem r86:(fun K L p0 h=>runFF Tryz.prog kp K L 86 [p0] h)=f86:=by kernel_rfl
@[simp] def k87:List Nat:=[0]
def s87 (K:Oracle) (L:Looper) (e:E) (h:H):Out :=
 sq (bd (nilC (e.s k87 0)) fun t3 =>
 bd (fa 1 t3) fun t4 =>
 bd (ld h t4) fun t5 =>
 bd (binK 0 .shl t5 (.int .u64 8)) fun t6 =>
 bd (nilC (e.s k87 0)) fun t7 =>
 bd (fa 1 t7) fun t8 =>
 bf (stZ 1 h t8 t6) fun _ h1 =>
 some ⟨.nm,⟨[e.s k87 0],0,(e.s k87 0)⟩,h1⟩) fun e h =>
 sq (bd (nilC (e.s k87 0)) fun t10 =>
 bd (fa 0 t10) fun t11 =>
 bd (ld h t11) fun t12 =>
 bd (lnS t12) fun t13 =>
 bd (binK 0 .gtr t13 (.int .i64 0)) fun t14 =>
 some ⟨.nm,⟨[e.s k87 0],14,t14⟩,h⟩) fun e h =>
 br (e.s k87 14) (sq (bd (nilC (e.s k87 0)) fun t16 =>
 bd (fa 1 t16) fun t17 =>
 bd (ld h t17) fun t18 =>
 bd (nilC (e.s k87 0)) fun t20 =>
 bd (fa 0 t20) fun t21 =>
 bd (ld h t21) fun t22 =>
 bd (iaS 1 t22 (.int .i64 0)) fun t23 =>
 bd (ld h t23) fun t24 =>
 bd (cv .u32 t24) fun t25 =>
 bd (binK 0 .or t18 t25) fun t26 =>
 bd (nilC (e.s k87 0)) fun t27 =>
 bd (fa 1 t27) fun t28 =>
 bf (stZ 1 h t28 t26) fun _ h1 =>
 ck (ld h t17) t18 (ck (ld h t21) t22 (ck (ld h t23) t24 (some ⟨.nm,⟨[e.s k87 0],0,(e.s k87 0)⟩,h1⟩)))) fun e h =>
 bd (nilC (e.s k87 0)) fun t31 =>
 bd (fa 0 t31) fun t32 =>
 bd (ld h t32) fun t33 =>
 bd (slS 1 t33 (some (.int .i64 1)) none none) fun t34 =>
 bd (nilC (e.s k87 0)) fun t35 =>
 bd (fa 0 t35) fun t36 =>
 bf (stZ 1 h t36 t34) fun _ h1 =>
 some ⟨.nm,⟨[e.s k87 0],0,(e.s k87 0)⟩,h1⟩)
 (some ⟨.nm,e,h⟩)
def f87 (K:Oracle) (L:Looper) (p0:V) (h:H):Option (Rv × H):=fin Tryz.prog k87 [] (s87 K L ⟨[p0],0,p0⟩ h)
theorem r87:(fun K L p0 h=>runFF Tryz.prog kp K L 87 [p0] h)=f87:=by kernel_rfl
@[simp] def k88:List Nat:=[0,2,3]
@[simp] def ux88 (e:E) (t:Nat) (v:V):E:=⟨[e.s k88 0,e.s k88 2,e.s k88 3],t,v⟩
def s88 (K:Oracle) (L:Looper) (e:E) (h:H):Out :=
 sq (some ⟨.nm,(ux88 e 2 (.int .u64 0)).st 1 (.int .u64 0),h⟩) fun e h =>
 sq (bd (nilC (e.s k88 0)) fun t5 =>
 bd (fa 1 t5) fun t6 =>
 bd (ld h t6) fun t7 =>
 some ⟨.nm,(ux88 e 3 t7).st 2 t7,h⟩) fun e h =>
 sq (bd (nilC (e.s k88 0)) fun t9 =>
 bd (fa 1 t9) fun t10 =>
 bd (ld h t10) fun t11 =>
 bd (binK 0 .add t11 (.int .i64 1)) fun t12 =>
 bd (nilC (e.s k88 0)) fun t13 =>
 bd (fa 1 t13) fun t14 =>
 bf (stZ 1 h t14 t12) fun _ h1 =>
 some ⟨.nm,ux88 e 0 (e.s k88 0),h1⟩) fun e h =>
 sq (sq (bd (nilC (e.s k88 0)) fun t17 =>
 bd (fa 0 t17) fun t18 =>
 bd (ld h t18) fun t19 =>
 bd (lnS t19) fun t20 =>
 bd (binK 0 .lss (e.s k88 3) t20) fun t21 =>
 some ⟨.nm,ux88 e 21 t21,h⟩) fun e h =>
 br (e.s k88 21) (sq (bd (nilC (e.s k88 0)) fun t23 =>
 bd (fa 0 t23) fun t24 =>
 bd (ld h t24) fun t25 =>
 bd (iaS 1 t25 (e.s k88 3)) fun t27 =>
 bd (ld h t27) fun t28 =>
 bd (cv .u64 t28) fun t29 =>
 some ⟨.nm,(ux88 e 2 t29).st 1 t29,h⟩) fun e h =>
 some ⟨.rt,e,h⟩)
 (some ⟨.nm,e,h⟩)) fun e h =>
 sq (some ⟨.nm,(ux88 e 2 (.int .u64 0)).st 1 (.int .u64 0),h⟩) fun e h =>
 some ⟨.rt,e,h⟩
def f88 (K:Oracle) (L:Looper) (p0:V) (h:H):Option (Rv × H):=fin Tryz.prog k88 [.tmp 2] (s88 K L ⟨[p0,V.und,V.und],0,p0⟩ h)
theorem r88:(fun K L p0 h=>runFF Tryz.prog kp K L 88 [p0] h)=f88:=by kernel_rfl
@[simp] def k89:List Nat:=[0,2,3,4,5]
@[simp] def ux89 (e:E) (t:Nat) (v:V):E:=⟨[e.s k89 0,e.s k89 2,e.s k89 3,e.s k89 4,e.s k89 5],t,v⟩
def s89 (K:Oracle) (L:Looper) (e:E) (h:H):Out :=
 sq (some ⟨.nm,(((ux89 e 4 (.int .i64 0)).st 1 (.int .i64 0)).st 2 (.int .i64 0)).st 3 (.int .i64 0),h⟩) fun e h =>
 sq (sq (bd (binK 0 .lss (e.s k89 0) (.int .i64 0)) fun t7 =>
 bd (gl t7 false (some (e.s k89 0))) fun t9 =>
 bd (gl t7 false (binK 0 .geq t9 (.int .i64 32))) fun t10 =>
 bd (pk t7 (.bool true) t10) fun t11 =>
 some ⟨.nm,ux89 e 11 t11,h⟩) fun e h =>
 br (e.s k89 11) (sq (some ⟨.nm,(((ux89 e 4 (.int .i64 41)).st 1 (.int .i64 0)).st 2 (.int .i64 0)).st 3 (.int .i64 41),h⟩) fun e h =>
 some ⟨.rt,e,h⟩)
 (some ⟨.nm,e,h⟩)) fun e h =>
 sq (bc k89 [12,13,14,5] e (K 29 [] h) fun t12 h1 =>
 bd (ixN 32 3 t12 (e.s k89 0)) fun t14 =>
 bf (nw h1 69 [(.int .i64 0),(.int .i64 0),(.bool false)]) fun t5 h2 =>
 bf (stZ 3 h2 t5 t14) fun _ h3 =>
 some ⟨.nm,(ux89 e 0 (e.s k89 0)).st 4 t5,h3⟩) fun e h =>
 sq (bd (fa 0 (e.s k89 5)) fun t15 =>
 bd (ld h t15) fun t16 =>
 bd (fa 1 (e.s k89 5)) fun t17 =>
 bd (ld h t17) fun t18 =>
 ck (ld h t15) t16 (ck (ld h t17) t18 (some ⟨.nm,(((ux89 e 4 (.int .i64 0)).st 1 t16).st 2 t18).st 3 (.int .i64 0),h⟩))) fun e h =>
 some ⟨.rt,e,h⟩
def f89 (K:Oracle) (L:Looper) (p0:V) (h:H):Option (Rv × H):=fin Tryz.prog k89 [.tmp 2,.tmp 3,.tmp 4] (s89 K L ⟨[p0,V.und,V.und,V.und,V.und],0,p0⟩ h)
theorem r89:(fun K L p0 h=>runFF Tryz.prog kp K L 89 [p0] h)=f89:=by kernel_rfl
@[simp] def k90:List Nat:=[0,1,2,4,6,7,8,9,10,11,12]
@[simp] def ux90 (e:E) (t:Nat) (v:V):E:=⟨[e.s k90 0,e.s k90 1,e.s k90 2,e.s k90 4,e.s k90 6,e.s k90 7,e.s k90 8,e.s k90 9,e.s k90 10,e.s k90 11,e.s k90 12],t,v⟩
def s90 (K:Oracle) (L:Looper) (e:E) (h:H):Out :=
 sq (bf (bx h 76 (e.s k90 1)) fun t4 h1 =>
 some ⟨.nm,(((ux90 e 7 (.int .i64 0)).st 3 t4).st 4 (.int .i64 0)).st 5 (.int .i64 0),h1⟩) fun e h =>
 sq (sq (bc k90 [13,14,15] e (K 40 [e.s k90 0] h) fun t14 h1 =>
 bd (unV .not t14) fun t15 =>
 some ⟨.nm,ux90 e 15 t15,h1⟩) fun e h =>
 br (e.s k90 15) (sq (bd (nilC (e.s k90 0)) fun t18 =>
 bd (fa 1 t18) fun t19 =>
 bd (ld h t19) fun t20 =>
 bc k90 [17,18,19,20,21,16,22,23,8,9] e (K 93 [t20] h) fun t21 h1 =>
 bd (exV t21 0) fun t22 =>
 bd (exV t21 1) fun t23 =>
 some ⟨.nm,((ux90 e 9 t23).st 6 t22).st 7 t23,h1⟩) fun e h =>
 sq (sq (bd (binK 0 .neq (e.s k90 9) (.int .i64 0)) fun t25 =>
 some ⟨.nm,ux90 e 25 t25,h⟩) fun e h =>
 br (e.s k90 25) (sq (some ⟨.nm,((ux90 e 7 (e.s k90 9)).st 4 (.int .i64 0)).st 5 (e.s k90 9),h⟩) fun e h =>
 some ⟨.rt,e,h⟩)
 (some ⟨.nm,e,h⟩)) fun e h =>
 sq (bd (ldn 2 h (e.s k90 4)) fun t28 =>
 bc k90 [28,29,30,27,31,32,2,9] e (K 107 [t28,e.s k90 8] h) fun t30 h1 =>
 bd (exV t30 0) fun t31 =>
 bd (exV t30 1) fun t32 =>
 some ⟨.nm,((ux90 e 9 t32).st 2 t31).st 7 t32,h1⟩) fun e h =>
 sq (bd (binK 0 .neq (e.s k90 9) (.int .i64 0)) fun t34 =>
 some ⟨.nm,ux90 e 34 t34,h⟩) fun e h =>
 br (e.s k90 34) (sq (some ⟨.nm,((ux90 e 7 (e.s k90 9)).st 4 (.int .i64 0)).st 5 (e.s k90 9),h⟩) fun e h =>
 some ⟨.rt,e,h⟩)
 (some ⟨.nm,e,h⟩))
 (some ⟨.nm,e,h⟩)) fun e h =>
 sq (bd (ldn 2 h (e.s k90 4)) fun t37 =>
 bc k90 [37,38,39,36,40,41,42,10,11,12] e (K 108 [t37,e.s k90 2] h) fun t39 h1 =>
 bd (exV t39 0) fun t40 =>
 bd (exV t39 1) fun t41 =>
 bd (exV t39 2) fun t42 =>
 some ⟨.nm,(((ux90 e 12 t42).st 8 t40).st 9 t41).st 10 t42,h1⟩) fun e h =>
 sq (sq (bd (binK 0 .neq (e.s k90 12) (.int .i64 0)) fun t44 =>
 some ⟨.nm,ux90 e 44 t44,h⟩) fun e h =>
 br (e.s k90 44) (sq (some ⟨.nm,((ux90 e 7 (e.s k90 12)).st 4 (.int .i64 0)).st 5 (e.s k90 12),h⟩) fun e h =>
 some ⟨.rt,e,h⟩)
 (some ⟨.nm,e,h⟩)) fun e h =>
 sq (sq (bc k90 [46,47] e (K 40 [e.s k90 0] h) fun t47 h1 =>
 some ⟨.nm,ux90 e 47 t47,h1⟩) fun e h =>
 br (e.s k90 47) (sq (bd (nilC (e.s k90 0)) fun t50 =>
 bd (fa 0 t50) fun t51 =>
 bd (ld h t51) fun t52 =>
 bc k90 [48,49,50,51,52,53,54,55,6,7] e (K 94 [t52,e.s k90 10,e.s k90 11] h) fun t55 h1 =>
 some ⟨.nm,((ux90 e 7 t55).st 4 (e.s k90 2)).st 5 t55,h1⟩) fun e h =>
 some ⟨.rt,e,h⟩)
 (some ⟨.nm,e,h⟩)) fun e h =>
 sq (bd (nilC (e.s k90 0)) fun t58 =>
 bd (fa 1 t58) fun t59 =>
 bd (ld h t59) fun t60 =>
 bc k90 [56,57,58,59,60,61,62,63,6,7] e (K 95 [t60,e.s k90 10,e.s k90 11] h) fun t63 h1 =>
 some ⟨.nm,((ux90 e 7 t63).st 4 (e.s k90 2)).st 5 t63,h1⟩) fun e h =>
 some ⟨.rt,e,h⟩
def f90 (K:Oracle) (L:Looper) (p0 p1 p2:V) (h:H):Option (Rv × H):=fin Tryz.prog k90 [.tmp 6,.tmp 7] (s90 K L ⟨[p0,p1,p2,V.und,V.und,V.und,V.und,V.und,V.und,V.und,V.und],0,p0⟩ h)
theorem r90:(fun K L p0 p1 p2 h=>runFF Tryz.prog kp K L 90 [p0,p1,p2] h)=f90:=by kernel_rfl
@[simp] def k91:List Nat:=[0,1,2,4,5,6,7,8,9,31,32,33]
@[simp] def ux91 (e:E) (t:Nat) (v:V):E:=⟨[e.s k91 0,e.s k91 1,e.s k91 2,e.s k91 4,e.s k91 5,e.s k91 6,e.s k91 7,e.s k91 8,e.s k91 9,e.s k91 31,e.s k91 32,e.s k91 33],t,v⟩
def l91_0 (K:Oracle) (L:Looper) (e:E) (h:H):Out :=
 sq (bd (binK 0 .lss (e.s k91 33) (e.s k91 32)) fun t34 =>
 some ⟨.nm,ux91 e 34 t34,h⟩) fun e h =>
 sq (br (e.s k91 34) (some ⟨.nm,e,h⟩)
 (some ⟨.ex 0,e,h⟩)) fun e h =>
 sq (blk 1 (sq (bd (iaS 1 (e.s k91 31) (e.s k91 33)) fun t36 =>
 bd (ld h t36) fun t37 =>
 some ⟨.nm,((ux91 e 9 t37).st 7 (e.s k91 33)).st 8 t37,h⟩) fun e h =>
 sq (bd (binK 0 .lss (e.s k91 8) (e.s k91 1)) fun t40 =>
 some ⟨.nm,ux91 e 40 t40,h⟩) fun e h =>
 br (e.s k91 40) (bd (fa 0 (e.s k91 7)) fun t41 =>
 bd (ld h t41) fun t42 =>
 bd (iaS 1 t42 (e.s k91 8)) fun t44 =>
 bd (ld h t44) fun t45 =>
 bd (binK 0 .shr (e.s k91 9) (e.s k91 6)) fun t48 =>
 bd (binK 0 .sub t45 t48) fun t49 =>
 bd (iaS 1 t42 (e.s k91 8)) fun t50 =>
 bf (stZ 1 h t50 t49) fun _ h1 =>
 ck (ld h t41) t42 (ck (ld h t44) t45 (some ⟨.nm,ux91 e 0 (e.s k91 0),h1⟩)))
 (bd (fa 0 (e.s k91 7)) fun t51 =>
 bd (ld h t51) fun t52 =>
 bd (iaS 1 t52 (e.s k91 8)) fun t54 =>
 bd (ld h t54) fun t55 =>
 bd (binK 0 .sub (.int .u16 32768) (e.s k91 9)) fun t57 =>
 bd (binK 0 .shr t57 (e.s k91 6)) fun t59 =>
 bd (binK 0 .add t55 t59) fun t60 =>
 bd (iaS 1 t52 (e.s k91 8)) fun t61 =>
 bf (stZ 1 h t61 t60) fun _ h1 =>
 ck (ld h t51) t52 (ck (ld h t54) t55 (some ⟨.nm,ux91 e 0 (e.s k91 0),h1⟩))))) fun e h =>
 bd (binK 0 .add (e.s k91 33) (.int .i64 1)) fun t62 =>
 some ⟨.nm,(ux91 e 33 t62).st 11 t62,h⟩
def s91 (K:Oracle) (L:Looper) (e:E) (h:H):Out :=
 sq (bf (bx h 76 (e.s k91 0)) fun t2 h1 =>
 bf (nw h1 76 [.nils,(.int .i64 0)]) fun t4 h2 =>
 some ⟨.nm,(((ux91 e 5 (.int .i64 0)).st 2 t2).st 3 t4).st 4 (.int .i64 0),h2⟩) fun e h =>
 sq (sq (bd (ldn 2 h (e.s k91 2)) fun t10 =>
 bc k91 [10,11,12,13] e (K 109 [t10,e.s k91 1] h) fun t12 h1 =>
 bd (unV .not t12) fun t13 =>
 some ⟨.nm,ux91 e 13 t13,h1⟩) fun e h =>
 br (e.s k91 13) (sq (bd (bl [.nils,(.int .i64 0)] []) fun t14 =>
 bf (stZ 2 h (e.s k91 4) t14) fun _ h1 =>
 some ⟨.nm,(ux91 e 5 (.int .i64 2)).st 4 (.int .i64 2),h1⟩) fun e h =>
 some ⟨.rt,e,h⟩)
 (some ⟨.nm,e,h⟩)) fun e h =>
 sq (bd (ldn 2 h (e.s k91 2)) fun t15 =>
 bc k91 [15,16,6] e (K 110 [t15] h) fun t16 h1 =>
 some ⟨.nm,(ux91 e 6 t16).st 5 t16,h1⟩) fun e h =>
 sq (bd (fa 0 (e.s k91 2)) fun t17 =>
 bd (ld h t17) fun t18 =>
 bn (K 64 [t18] h) fun t19 h1 =>
 bd (fa 1 (e.s k91 2)) fun t20 =>
 bd (ld h1 t20) fun t21 =>
 bd (binK 0 .add t21 (.int .i64 1)) fun t22 =>
 bd (minV [t22,(.int .i64 32)]) fun t23 =>
 bd (bl [.nils,(.int .i64 0)] [(some (0,1),t19),(some (1,1),t23)]) fun t24 =>
 bf (nw h1 76 [.nils,(.int .i64 0)]) fun t7 h2 =>
 bf (stZ 2 h2 t7 t24) fun _ h3 =>
 ck (ld h t17) t18 (ck (ld h t20) t21 (ck (ld h1 t20) t21 (some ⟨.nm,(ux91 e 0 (e.s k91 0)).st 6 t7,h3⟩)))) fun e h =>
 sq (sq (bd (fa 0 (e.s k91 7)) fun t25 =>
 bd (ld h t25) fun t26 =>
 bd (fa 0 (e.s k91 2)) fun t27 =>
 bd (ld h t27) fun t28 =>
 bd (lnS t28) fun t29 =>
 bd (binK 0 .sub t29 (.int .i64 1)) fun t30 =>
 bd (slS 1 t26 none (some t30) none) fun t31 =>
 bd (lnS t31) fun t32 =>
 some ⟨.nm,(((ux91 e 33 (.int .i64 0)).st 9 t31).st 10 t32).st 11 (.int .i64 0),h⟩) fun e h =>
 blk 0 (L (l91_0 K L) e h)) fun e h =>
 sq (bd (ldn 2 h (e.s k91 7)) fun t63 =>
 bf (stZ 2 h (e.s k91 4) t63) fun _ h1 =>
 some ⟨.nm,(ux91 e 5 (.int .i64 0)).st 4 (.int .i64 0),h1⟩) fun e h =>
 some ⟨.rt,e,h⟩
def f91 (K:Oracle) (L:Looper) (p0 p1:V) (h:H):Option (Rv × H):=fin Tryz.prog k91 [.cell 4 76,.tmp 5] (s91 K L ⟨[p0,p1,V.und,V.und,V.und,V.und,V.und,V.und,V.und,V.und,V.und,V.und],0,p0⟩ h)
theorem r91:(fun K L p0 p1 h=>runFF Tryz.prog kp K L 91 [p0,p1] h)=f91:=by kernel_rfl
@[simp] def k92:List Nat:=[0,2,3]
@[simp] def ux92 (e:E) (t:Nat) (v:V):E:=⟨[e.s k92 0,e.s k92 2,e.s k92 3],t,v⟩
def l92_0 (K:Oracle) (L:Looper) (e:E) (h:H):Out :=
 sq (sq (bd (binK 0 .gtr (e.s k92 3) (.int .i64 0)) fun t8 =>
 some ⟨.nm,ux92 e 8 t8,h⟩) fun e h =>
 br (e.s k92 8) (some ⟨.nm,e,h⟩)
 (some ⟨.ex 0,e,h⟩)) fun e h =>
 sq (blk 1 (sq (bd (some (e.s k92 0)) fun t11 =>
 bd (some (e.s k92 3)) fun t12 =>
 bd (iaS 1 t11 t12) fun t13 =>
 bd (ld h t13) fun t14 =>
 bd (some (e.s k92 0)) fun t15 =>
 bd (some (e.s k92 3)) fun t16 =>
 bd (binK 0 .sub t16 (.int .i64 1)) fun t17 =>
 bd (iaS 1 t15 t17) fun t18 =>
 bd (ld h t18) fun t19 =>
 bk (K 111 [t14,t19] h) (fun tp hp =>
 some ⟨.pn tp,fgE k92 [11,12,13,14,15,16,17,18,19,20] e,hp⟩) fun _ _ =>
 bd (iaS 1 (e.s k92 0) (e.s k92 3)) fun t13 =>
 bd (ld h t13) fun t14 =>
 bd (binK 0 .sub (e.s k92 3) (.int .i64 1)) fun t17 =>
 bd (iaS 1 (e.s k92 0) t17) fun t18 =>
 bd (ld h t18) fun t19 =>
 bn (K 111 [t14,t19] h) fun t20 h1 =>
 ck (ld h t13) t14 (ck (ld h t18) t19 (some ⟨.nm,ux92 e 20 t20,h1⟩))) fun e h =>
 br (e.s k92 20) (sq (some ⟨.nm,(ux92 e 2 (.bool false)).st 1 (.bool false),h⟩) fun e h =>
 some ⟨.rt,e,h⟩)
 (some ⟨.nm,e,h⟩))) fun e h =>
 bd (binK 0 .sub (e.s k92 3) (.int .i64 1)) fun t10 =>
 some ⟨.nm,(ux92 e 3 t10).st 2 t10,h⟩
def s92 (K:Oracle) (L:Looper) (e:E) (h:H):Out :=
 sq (some ⟨.nm,(ux92 e 2 (.bool false)).st 1 (.bool false),h⟩) fun e h =>
 sq (sq (bd (lnS (e.s k92 0)) fun t5 =>
 bd (binK 0 .sub t5 (.int .i64 1)) fun t6 =>
 some ⟨.nm,(ux92 e 3 t6).st 2 t6,h⟩) fun e h =>
 blk 0 (L (l92_0 K L) e h)) fun e h =>
 sq (some ⟨.nm,(ux92 e 2 (.bool true)).st 1 (.bool true),h⟩) fun e h =>
 some ⟨.rt,e,h⟩
def f92 (K:Oracle) (L:Looper) (p0:V) (h:H):Option (Rv × H):=fin Tryz.prog k92 [.tmp 2] (s92 K L ⟨[p0,V.und,V.und],0,p0⟩ h)
theorem r92:(fun K L p0 h=>runFF Tryz.prog kp K L 92 [p0] h)=f92:=by kernel_rfl
@[simp] def k93:List Nat:=[0,2,3]
@[simp] def ux93 (e:E) (t:Nat) (v:V):E:=⟨[e.s k93 0,e.s k93 2,e.s k93 3],t,v⟩
def s93 (K:Oracle) (L:Looper) (e:E) (h:H):Out :=
 sq (some ⟨.nm,((ux93 e 3 (.int .i64 0)).st 1 (.int .u32 0)).st 2 (.int .i64 0),h⟩) fun e h =>
 sq (sq (bd (binK 2 .eql (e.s k93 0) .nilp) fun t5 =>
 bd (gl t5 false (some (e.s k93 0))) fun t7 =>
 bd (gl t5 false (nilC t7)) fun t8 =>
 bd (gl t5 false (fa 2 t8)) fun t9 =>
 bd (gl t5 false (ld h t9)) fun t10 =>
 bd (gl t5 false (binK 0 .eql t10 (.int .u32 0))) fun t11 =>
 bd (pk t5 (.bool true) t11) fun t12 =>
 some ⟨.nm,ux93 e 12 t12,h⟩) fun e h =>
 br (e.s k93 12) (sq (some ⟨.nm,((ux93 e 3 (.int .i64 1)).st 1 (.int .u32 0)).st 2 (.int .i64 1),h⟩) fun e h =>
 some ⟨.rt,e,h⟩)
 (some ⟨.nm,e,h⟩)) fun e h =>
 sq (bc k93 [13,14,2,3] e (K 112 [e.s k93 0] h) fun t14 h1 =>
 some ⟨.nm,((ux93 e 3 (.int .i64 0)).st 1 t14).st 2 (.int .i64 0),h1⟩) fun e h =>
 some ⟨.rt,e,h⟩
def f93 (K:Oracle) (L:Looper) (p0:V) (h:H):Option (Rv × H):=fin Tryz.prog k93 [.tmp 2,.tmp 3] (s93 K L ⟨[p0,V.und,V.und],0,p0⟩ h)
theorem r93:(fun K L p0 h=>runFF Tryz.prog kp K L 93 [p0] h)=f93:=by kernel_rfl
@[simp] def k94:List Nat:=[0,1,2,6,7,8]
@[simp] def ux94 (e:E) (t:Nat) (v:V):E:=⟨[e.s k94 0,e.s k94 1,e.s k94 2,e.s k94 6,e.s k94 7,e.s k94 8],t,v⟩
def l94_0 (K:Oracle) (L:Looper) (e:E) (h:H):Out :=
 sq (sq (bd (binK 0 .leq (e.s k94 8) (.int .u32 16777215)) fun t47 =>
 some ⟨.nm,ux94 e 47 t47,h⟩) fun e h =>
 br (e.s k94 47) (some ⟨.nm,e,h⟩)
 (some ⟨.ex 1,e,h⟩)) fun e h =>
 sq (blk 2 (bc k94 [50,51] e (K 85 [e.s k94 0] h) fun t51 h1 =>
 some ⟨.nm,ux94 e 51 t51,h1⟩)) fun e h =>
 bd (binK 0 .shl (e.s k94 8) (.int .u64 8)) fun t49 =>
 some ⟨.nm,(ux94 e 8 t49).st 5 t49,h⟩
def s94 (K:Oracle) (L:Looper) (e:E) (h:H):Out :=
 sq (some ⟨.nm,(ux94 e 6 (.int .i64 0)).st 3 (.int .i64 0),h⟩) fun e h =>
 sq (blk 0 (sq (bd (binK 2 .eql (e.s k94 0) .nilp) fun t11 =>
 bd (gl t11 false (some (e.s k94 0))) fun t13 =>
 bd (gl t11 false (nilC t13)) fun t14 =>
 bd (gl t11 false (fa 2 t14)) fun t15 =>
 bd (gl t11 false (ld h t15)) fun t16 =>
 bd (gl t11 false (binK 0 .eql t16 (.int .u32 0))) fun t17 =>
 bd (pk t11 (.bool true) t17) fun t18 =>
 some ⟨.nm,ux94 e 9 t18,h⟩) fun e h =>
 br (e.s k94 9) (sq (some ⟨.nm,(ux94 e 6 (.int .i64 1)).st 3 (.int .i64 1),h⟩) fun e h =>
 some ⟨.rt,e,h⟩)
 (sq (bd (binK 0 .geq (e.s k94 1) (e.s k94 2)) fun t22 =>
 bd (gl t22 false (some (e.s k94 2))) fun t24 =>
 bd (gl t22 false (binK 0 .gtr t24 (.int .u32 32768))) fun t25 =>
 bd (pk t22 (.bool true) t25) fun t26 =>
 some ⟨.nm,ux94 e 19 t26,h⟩) fun e h =>
 br (e.s k94 19) (sq (some ⟨.nm,(ux94 e 6 (.int .i64 2)).st 3 (.int .i64 2),h⟩) fun e h =>
 some ⟨.rt,e,h⟩)
 (some ⟨.nm,e,h⟩)))) fun e h =>
 sq (bd (nilC (e.s k94 0)) fun t29 =>
 bd (fa 2 t29) fun t30 =>
 bd (ld h t30) fun t31 =>
 bc k94 [28,29,30,31,32,33,34,27,35,36,7,8] e (K 113 [t31,e.s k94 1,e.s k94 2] h) fun t34 h1 =>
 bd (exV t34 0) fun t35 =>
 bd (exV t34 1) fun t36 =>
 some ⟨.nm,((ux94 e 8 t36).st 4 t35).st 5 t36,h1⟩) fun e h =>
 sq (bd (nilC (e.s k94 0)) fun t38 =>
 bd (fa 1 t38) fun t39 =>
 bd (ld h t39) fun t40 =>
 bd (cv .u64 (e.s k94 7)) fun t42 =>
 bd (binK 0 .add t40 t42) fun t43 =>
 bd (nilC (e.s k94 0)) fun t44 =>
 bd (fa 1 t44) fun t45 =>
 bf (stZ 1 h t45 t43) fun _ h1 =>
 some ⟨.nm,ux94 e 0 (e.s k94 0),h1⟩) fun e h =>
 sq (blk 1 (L (l94_0 K L) e h)) fun e h =>
 sq (bd (nilC (e.s k94 0)) fun t54 =>
 bd (fa 2 t54) fun t55 =>
 bf (stZ 1 h t55 (e.s k94 8)) fun _ h1 =>
 some ⟨.nm,ux94 e 0 (e.s k94 0),h1⟩) fun e h =>
 sq (some ⟨.nm,(ux94 e 6 (.int .i64 0)).st 3 (.int .i64 0),h⟩) fun e h =>
 some ⟨.rt,e,h⟩
def f94 (K:Oracle) (L:Looper) (p0 p1 p2:V) (h:H):Option (Rv × H):=fin Tryz.prog k94 [.tmp 6] (s94 K L ⟨[p0,p1,p2,V.und,V.und,V.und],0,p0⟩ h)
theorem r94:(fun K L p0 p1 p2 h=>runFF Tryz.prog kp K L 94 [p0,p1,p2] h)=f94:=by kernel_rfl
@[simp] def k95:List Nat:=[0,1,2,6,7,8,9]
@[simp] def ux95 (e:E) (t:Nat) (v:V):E:=⟨[e.s k95 0,e.s k95 1,e.s k95 2,e.s k95 6,e.s k95 7,e.s k95 8,e.s k95 9],t,v⟩
def l95_0 (K:Oracle) (L:Looper) (e:E) (h:H):Out :=
 sq (sq (bd (binK 0 .leq (e.s k95 9) (.int .u32 16777215)) fun t52 =>
 some ⟨.nm,ux95 e 52 t52,h⟩) fun e h =>
 br (e.s k95 52) (some ⟨.nm,e,h⟩)
 (some ⟨.ex 0,e,h⟩)) fun e h =>
 sq (blk 1 (bc k95 [55,56] e (K 87 [e.s k95 0] h) fun t56 h1 =>
 some ⟨.nm,ux95 e 56 t56,h1⟩)) fun e h =>
 bd (binK 0 .shl (e.s k95 9) (.int .u64 8)) fun t54 =>
 some ⟨.nm,(ux95 e 9 t54).st 6 t54,h⟩
def s95 (K:Oracle) (L:Looper) (e:E) (h:H):Out :=
 sq (some ⟨.nm,(ux95 e 6 (.int .i64 0)).st 3 (.int .i64 0),h⟩) fun e h =>
 sq (sq (bd (binK 2 .eql (e.s k95 0) .nilp) fun t11 =>
 bd (gl t11 false (some (e.s k95 0))) fun t13 =>
 bd (gl t11 false (nilC t13)) fun t14 =>
 bd (gl t11 false (fa 2 t14)) fun t15 =>
 bd (gl t11 false (ld h t15)) fun t16 =>
 bd (gl t11 false (binK 0 .eql t16 (.int .u32 0))) fun t17 =>
 bd (pk t11 (.bool true) t17) fun t18 =>
 some ⟨.nm,ux95 e 18 t18,h⟩) fun e h =>
 br (e.s k95 18) (sq (some ⟨.nm,(ux95 e 6 (.int .i64 1)).st 3 (.int .i64 1),h⟩) fun e h =>
 some ⟨.rt,e,h⟩)
 (some ⟨.nm,e,h⟩)) fun e h =>
 sq (sq (bc k95 [19,20,7] e (K 112 [e.s k95 0] h) fun t20 h1 =>
 some ⟨.nm,(ux95 e 7 t20).st 4 t20,h1⟩) fun e h =>
 sq (bd (binK 0 .gtr (e.s k95 1) (e.s k95 7)) fun t23 =>
 bd (gl t23 false (some (e.s k95 2))) fun t25 =>
 bd (gl t23 false (some (e.s k95 7))) fun t26 =>
 bd (gl t23 false (binK 0 .leq t25 t26)) fun t27 =>
 bd (pk t23 (.bool true) t27) fun t28 =>
 bd (gl t28 false (some (e.s k95 2))) fun t30 =>
 bd (gl t28 false (binK 0 .gtr t30 (.int .u32 32768))) fun t31 =>
 bd (pk t28 (.bool true) t31) fun t32 =>
 some ⟨.nm,ux95 e 32 t32,h⟩) fun e h =>
 br (e.s k95 32) (sq (some ⟨.nm,(ux95 e 6 (.int .i64 2)).st 3 (.int .i64 2),h⟩) fun e h =>
 some ⟨.rt,e,h⟩)
 (some ⟨.nm,e,h⟩)) fun e h =>
 sq (bd (nilC (e.s k95 0)) fun t35 =>
 bd (fa 2 t35) fun t36 =>
 bd (ld h t36) fun t37 =>
 bc k95 [34,35,36,37,38,39,40,33,41,42,8,9] e (K 113 [t37,e.s k95 1,e.s k95 2] h) fun t40 h1 =>
 bd (exV t40 0) fun t41 =>
 bd (exV t40 1) fun t42 =>
 some ⟨.nm,((ux95 e 9 t42).st 5 t41).st 6 t42,h1⟩) fun e h =>
 sq (bd (nilC (e.s k95 0)) fun t44 =>
 bd (fa 1 t44) fun t45 =>
 bd (ld h t45) fun t46 =>
 bd (binK 0 .sub t46 (e.s k95 8)) fun t48 =>
 bd (nilC (e.s k95 0)) fun t49 =>
 bd (fa 1 t49) fun t50 =>
 bf (stZ 1 h t50 t48) fun _ h1 =>
 some ⟨.nm,ux95 e 0 (e.s k95 0),h1⟩) fun e h =>
 sq (blk 0 (L (l95_0 K L) e h)) fun e h =>
 sq (bd (nilC (e.s k95 0)) fun t59 =>
 bd (fa 2 t59) fun t60 =>
 bf (stZ 1 h t60 (e.s k95 9)) fun _ h1 =>
 some ⟨.nm,ux95 e 0 (e.s k95 0),h1⟩) fun e h =>
 sq (some ⟨.nm,(ux95 e 6 (.int .i64 0)).st 3 (.int .i64 0),h⟩) fun e h =>
 some ⟨.rt,e,h⟩
def f95 (K:Oracle) (L:Looper) (p0 p1 p2:V) (h:H):Option (Rv × H):=fin Tryz.prog k95 [.tmp 6] (s95 K L ⟨[p0,p1,p2,V.und,V.und,V.und,V.und],0,p0⟩ h)
theorem r95:(fun K L p0 p1 p2 h=>runFF Tryz.prog kp K L 95 [p0,p1,p2] h)=f95:=by kernel_rfl
@[simp] def k96:List Nat:=[0,1,2,3,8]
@[simp] def ux96 (e:E) (t:Nat) (v:V):E:=⟨[e.s k96 0,e.s k96 1,e.s k96 2,e.s k96 3,e.s k96 8],t,v⟩
def s96 (K:Oracle) (L:Looper) (e:E) (h:H):Out :=
 sq (some ⟨.nm,(ux96 e 8 (.int .i64 0)).st 4 (.int .i64 0),h⟩) fun e h =>
 sq (bd (nilC (e.s k96 0)) fun t10 =>
 bd (fa 0 t10) fun t11 =>
 bd (ld h t11) fun t12 =>
 bc k96 [9,10,11,12,13,14,15,16,17,18,19,8] e (K 61 [t12,e.s k96 1,e.s k96 2,e.s k96 3] h) fun t16 h1 =>
 bd (exV t16 0) fun t17 =>
 bd (exV t16 1) fun t18 =>
 bc k96 [9,10,11,12,13,14,15,16,17,18,19,8] e (K 114 [t17,t18] h1) fun t19 h2 =>
 some ⟨.nm,(ux96 e 8 t19).st 4 t19,h2⟩) fun e h =>
 some ⟨.rt,e,h⟩
def f96 (K:Oracle) (L:Looper) (p0 p1 p2 p3:V) (h:H):Option (Rv × H):=fin Tryz.prog k96 [.tmp 8] (s96 K L ⟨[p0,p1,p2,p3,V.und],0,p0⟩ h)
theorem r96:(fun K L p0 p1 p2 p3 h=>runFF Tryz.prog kp K L 96 [p0,p1,p2,p3] h)=f96:=by kernel_rfl
@[simp] def k97:List Nat:=[0,2]
@[simp] def ux97 (e:E) (t:Nat) (v:V):E:=⟨[e.s k97 0,e.s k97 2],t,v⟩
def s97 (K:Oracle) (L:Looper) (e:E) (h:H):Out :=
 sq (some ⟨.nm,(ux97 e 2 (.int .i64 0)).st 1 (.int .i64 0),h⟩) fun e h =>
 sq (sq (some ⟨.nm,ux97 e 3 (e.s k97 0),h⟩) fun e h =>
 br (e.s k97 3) (sq (some ⟨.nm,(ux97 e 2 (.int .i64 1)).st 1 (.int .i64 1),h⟩) fun e h =>
 some ⟨.rt,e,h⟩)
 (some ⟨.nm,e,h⟩)) fun e h =>
 sq (some ⟨.nm,(ux97 e 2 (.int .i64 0)).st 1 (.int .i64 0),h⟩) fun e h =>
 some ⟨.rt,e,h⟩
def f97 (K:Oracle) (L:Looper) (p0:V) (h:H):Option (Rv × H):=fin Tryz.prog k97 [.tmp 2] (s97 K L ⟨[p0,V.und],0,p0⟩ h)
theorem r97:(fun K L p0 h=>runFF Tryz.prog kp K L 97 [p0] h)=f97:=by kernel_rfl
@[simp] def k98:List Nat:=[0,2,3,4,5]
@[simp] def ux98 (e:E) (t:Nat) (v:V):E:=⟨[e.s k98 0,e.s k98 2,e.s k98 3,e.s k98 4,e.s k98 5],t,v⟩
def s98 (K:Oracle) (L:Looper) (e:E) (h:H):Out :=
 sq (some ⟨.nm,((((ux98 e 5 (.int .i64 0)).st 1 (.int .i64 0)).st 2 (.int .i64 0)).st 3 (.int .i64 0)).st 4 (.int .i64 0),h⟩) fun e h =>
 sq (blk 0 (sq (bd (binK 0 .lss (e.s k98 0) (.int .i64 1)) fun t8 =>
 bd (gl t8 false (some (e.s k98 0))) fun t10 =>
 bd (gl t8 false (binK 0 .gtr t10 (.int .i64 1024))) fun t11 =>
 bd (pk t8 (.bool true) t11) fun t12 =>
 some ⟨.nm,ux98 e 6 t12,h⟩) fun e h =>
 br (e.s k98 6) (sq (some ⟨.nm,((((ux98 e 5 (.int .i64 2)).st 1 (.int .i64 0)).st 2 (.int .i64 0)).st 3 (.int .i64 0)).st 4 (.int .i64 2),h⟩) fun e h =>
 some ⟨.rt,e,h⟩)
 (sq (bd (binK 0 .eql (e.s k98 0) (.int .i64 1)) fun t15 =>
 some ⟨.nm,ux98 e 13 t15,h⟩) fun e h =>
 br (e.s k98 13) (sq (some ⟨.nm,((((ux98 e 5 (.int .i64 0)).st 1 (.int .i64 0)).st 2 (.int .i64 0)).st 3 (.int .i64 0)).st 4 (.int .i64 0),h⟩) fun e h =>
 some ⟨.rt,e,h⟩)
 (some ⟨.nm,e,h⟩)))) fun e h =>
 sq (bd (binK 0 .sub (e.s k98 0) (.int .i64 1)) fun t17 =>
 bd (cv .u64 t17) fun t18 =>
 bc k98 [16,17,18,19,2] e (K 115 [t18] h) fun t19 h1 =>
 some ⟨.nm,(ux98 e 2 t19).st 1 t19,h1⟩) fun e h =>
 sq (bd (binK 0 .sub (e.s k98 2) (.int .i64 1)) fun t22 =>
 bd (binK 0 .sub (e.s k98 2) (.int .i64 1)) fun t25 =>
 bd (binK 0 .shl (.int .i64 1) t25) fun t26 =>
 bd (binK 0 .sub (e.s k98 0) t26) fun t27 =>
 bd (binK 0 .sub t27 (.int .i64 1)) fun t28 =>
 some ⟨.nm,(((ux98 e 5 (.int .i64 0)).st 2 t22).st 3 t28).st 4 (.int .i64 0),h⟩) fun e h =>
 some ⟨.rt,e,h⟩
def f98 (K:Oracle) (L:Looper) (p0:V) (h:H):Option (Rv × H):=fin Tryz.prog k98 [.tmp 2,.tmp 3,.tmp 4,.tmp 5] (s98 K L ⟨[p0,V.und,V.und,V.und,V.und],0,p0⟩ h)
theorem r98:(fun K L p0 h=>runFF Tryz.prog kp K L 98 [p0] h)=f98:=by kernel_rfl
@[simp] def k99:List Nat:=[0,2,3]
@[simp] def ux99 (e:E) (t:Nat) (v:V):E:=⟨[e.s k99 0,e.s k99 2,e.s k99 3],t,v⟩
def s99 (K:Oracle) (L:Looper) (e:E) (h:H):Out :=
 sq (some ⟨.nm,(ux99 e 2 (.int .i64 0)).st 1 (.int .i64 0),h⟩) fun e h =>
 sq (sq (some ⟨.nm,(ux99 e 3 (e.s k99 0)).st 2 (e.s k99 0),h⟩) fun e h =>
 blk 0 (sq (bd (binK 0 .eql (e.s k99 3) (.int .i64 4)) fun t5 =>
 some ⟨.nm,ux99 e 4 t5,h⟩) fun e h =>
 br (e.s k99 4) (sq (some ⟨.nm,(ux99 e 2 (.int .i64 23)).st 1 (.int .i64 23),h⟩) fun e h =>
 some ⟨.rt,e,h⟩)
 (sq (bd (binK 0 .eql (e.s k99 3) (.int .i64 8)) fun t7 =>
 some ⟨.nm,ux99 e 6 t7,h⟩) fun e h =>
 br (e.s k99 6) (sq (some ⟨.nm,(ux99 e 2 (.int .i64 24)).st 1 (.int .i64 24),h⟩) fun e h =>
 some ⟨.rt,e,h⟩)
 (sq (bd (binK 0 .eql (e.s k99 3) (.int .i64 16)) fun t9 =>
 some ⟨.nm,ux99 e 8 t9,h⟩) fun e h =>
 br (e.s k99 8) (sq (some ⟨.nm,(ux99 e 2 (.int .i64 25)).st 1 (.int .i64 25),h⟩) fun e h =>
 some ⟨.rt,e,h⟩)
 (some ⟨.nm,e,h⟩))))) fun e h =>
 sq (some ⟨.nm,(ux99 e 2 (.int .i64 26)).st 1 (.int .i64 26),h⟩) fun e h =>
 some ⟨.rt,e,h⟩
def f99 (K:Oracle) (L:Looper) (p0:V) (h:H):Option (Rv × H):=fin Tryz.prog k99 [.tmp 2] (s99 K L ⟨[p0,V.und,V.und],0,p0⟩ h)
theorem r99:(fun K L p0 h=>runFF Tryz.prog kp K L 99 [p0] h)=f99:=by kernel_rfl
@[simp] def k100:List Nat:=[0,1,2,6]
@[simp] def ux100 (e:E) (t:Nat) (v:V):E:=⟨[e.s k100 0,e.s k100 1,e.s k100 2,e.s k100 6],t,v⟩
def s100 (K:Oracle) (L:Looper) (e:E) (h:H):Out :=
 sq (some ⟨.nm,(ux100 e 6 (.int .i64 0)).st 3 (.int .i64 0),h⟩) fun e h =>
 sq (bd (nilC (e.s k100 0)) fun t8 =>
 bd (fa 0 t8) fun t9 =>
 bd (ld h t9) fun t10 =>
 bc k100 [7,8,9,10,11,12,13,14,15,16,6] e (K 38 [t10,e.s k100 1,e.s k100 2] h) fun t13 h1 =>
 bd (exV t13 0) fun t14 =>
 bd (exV t13 1) fun t15 =>
 bc k100 [7,8,9,10,11,12,13,14,15,16,6] e (K 114 [t14,t15] h1) fun t16 h2 =>
 some ⟨.nm,(ux100 e 6 t16).st 3 t16,h2⟩) fun e h =>
 some ⟨.rt,e,h⟩
def f100 (K:Oracle) (L:Looper) (p0 p1 p2:V) (h:H):Option (Rv × H):=fin Tryz.prog k100 [.tmp 6] (s100 K L ⟨[p0,p1,p2,V.und],0,p0⟩ h)
theorem r100:(fun K L p0 p1 p2 h=>runFF Tryz.prog kp K L 100 [p0,p1,p2] h)=f100:=by kernel_rfl
@[simp] def k101:List Nat:=[0,1,2,6,7]
@[simp] def ux101 (e:E) (t:Nat) (v:V):E:=⟨[e.s k101 0,e.s k101 1,e.s k101 2,e.s k101 6,e.s k101 7],t,v⟩
def s101 (K:Oracle) (L:Looper) (e:E) (h:H):Out :=
 sq (some ⟨.nm,((ux101 e 7 (.int .i64 0)).st 3 (.int .i64 0)).st 4 (.int .i64 0),h⟩) fun e h =>
 sq (bd (bl [(.int .i64 0),(.int .i64 0)] [(some (0,1),(.int .i64 0)),(some (1,1),(.int .i64 1))]) fun t11 =>
 bd (bl [(.int .i64 0),(.int .i64 0)] [(some (0,1),(.int .i64 1)),(some (1,1),(.int .i64 0))]) fun t12 =>
 bd (bl [(.int .i64 0),(.int .i64 0)] [(some (0,1),(.int .i64 1)),(some (1,1),(.int .i64 1))]) fun t13 =>
 bd (bl [(.int .i64 0),(.int .i64 0)] [(some (0,1),(.int .i64 0)),(some (1,1),(.int .i64 2))]) fun t14 =>
 bd (bl [(.int .i64 0),(.int .i64 0)] [(some (0,1),(.int .i64 2)),(some (1,1),(.int .i64 0))]) fun t15 =>
 bf (bs h 151 5 [(.int .i64 0),(.int .i64 0),(.int .i64 0),(.int .i64 0),(.int .i64 0),(.int .i64 0),(.int .i64 0),(.int .i64 0),(.int .i64 0),(.int .i64 0)] [(some (0,2),t11),(some (2,2),t12),(some (4,2),t13),(some (6,2),t14),(some (8,2),t15)]) fun t16 h1 =>
 bc k101 [8,9,10,11,12,13,14,15,16,17,18,19,6,7] e (K 116 [e.s k101 0,e.s k101 1,e.s k101 2,(.int .i64 3),(.int .i64 4),t16] h1) fun t17 h2 =>
 bd (exV t17 0) fun t18 =>
 bd (exV t17 1) fun t19 =>
 some ⟨.nm,((ux101 e 7 t19).st 3 t18).st 4 t19,h2⟩) fun e h =>
 some ⟨.rt,e,h⟩
def f101 (K:Oracle) (L:Looper) (p0 p1 p2:V) (h:H):Option (Rv × H):=fin Tryz.prog k101 [.tmp 6,.tmp 7] (s101 K L ⟨[p0,p1,p2,V.und,V.und],0,p0⟩ h)
theorem r101:(fun K L p0 p1 p2 h=>runFF Tryz.prog kp K L 101 [p0,p1,p2] h)=f101:=by kernel_rfl
@[simp] def k102:List Nat:=[0,1,2,6,7,9,10,11,45]
@[simp] def ux102 (e:E) (t:Nat) (v:V):E:=⟨[e.s k102 0,e.s k102 1,e.s k102 2,e.s k102 6,e.s k102 7,e.s k102 9,e.s k102 10,e.s k102 11,e.s k102 45],t,v⟩
def l102_0 (K:Oracle) (L:Looper) (e:E) (h:H):Out :=
 sq (bd (binK 0 .lss (e.s k102 45) (.int .i64 4)) fun t46 =>
 some ⟨.nm,ux102 e 46 t46,h⟩) fun e h =>
 sq (br (e.s k102 46) (some ⟨.nm,e,h⟩)
 (some ⟨.ex 2,e,h⟩)) fun e h =>
 sq (blk 3 (sq (bd (nilC (e.s k102 0)) fun t49 =>
 bd (fa 2 t49) fun t50 =>
 bd (ld h t50) fun t51 =>
 bd (binK 0 .mul (.int .i64 7) t51) fun t52 =>
 bd (binK 0 .add t52 (e.s k102 7)) fun t54 =>
 bd (binK 0 .sub (e.s k102 9) (e.s k102 10)) fun t57 =>
 bd (maxV [t57,(.int .i64 0)]) fun t58 =>
 bd (minV [t58,(.int .i64 3)]) fun t59 =>
 bc k102 [47,48,49,50,51,52,53,54,55,56,57,58,59,60,11] e (K 96 [e.s k102 0,(.int .i64 29),t54,t59] h) fun t60 h1 =>
 some ⟨.nm,(ux102 e 11 t60).st 7 t60,h1⟩) fun e h =>
 sq (bd (binK 0 .add (e.s k102 10) (e.s k102 11)) fun t63 =>
 some ⟨.nm,(ux102 e 10 t63).st 6 t63,h⟩) fun e h =>
 sq (bd (binK 0 .lss (e.s k102 11) (.int .i64 3)) fun t65 =>
 some ⟨.nm,ux102 e 65 t65,h⟩) fun e h =>
 br (e.s k102 65) (some ⟨.ex 0,e,h⟩)
 (some ⟨.nm,e,h⟩))) fun e h =>
 bd (binK 0 .add (e.s k102 45) (.int .i64 1)) fun t66 =>
 some ⟨.nm,(ux102 e 45 t66).st 8 t66,h⟩
def l102_1 (K:Oracle) (L:Looper) (e:E) (h:H):Out :=
 blk 1 (sq (sq (some ⟨.nm,(ux102 e 45 (.int .i64 0)).st 8 (.int .i64 0),h⟩) fun e h =>
 blk 2 (L (l102_0 K L) e h)) fun e h =>
 sq (bd (binK 0 .sub (e.s k102 9) (e.s k102 10)) fun t71 =>
 bc k102 [67,68,69,70,71,72,73,6] e (K 118 [e.s k102 0,t71] h) fun t72 h1 =>
 bd (binK 0 .add (e.s k102 10) t72) fun t73 =>
 some ⟨.nm,(ux102 e 6 t73).st 3 t73,h1⟩) fun e h =>
 some ⟨.rt,e,h⟩)
def s102 (K:Oracle) (L:Looper) (e:E) (h:H):Out :=
 sq (some ⟨.nm,(ux102 e 6 (.int .i64 0)).st 3 (.int .i64 0),h⟩) fun e h =>
 sq (sq (bd (binK 0 .lss (e.s k102 2) (.int .i64 3)) fun t13 =>
 some ⟨.nm,ux102 e 13 t13,h⟩) fun e h =>
 br (e.s k102 13) (sq (some ⟨.nm,(ux102 e 6 (e.s k102 2)).st 3 (e.s k102 2),h⟩) fun e h =>
 some ⟨.rt,e,h⟩)
 (some ⟨.nm,e,h⟩)) fun e h =>
 sq (bd (some (e.s k102 0)) fun t16 =>
 bd (nilC t16) fun t17 =>
 bd (fa 6 t17) fun t18 =>
 bd (ld h t18) fun t19 =>
 bd (some (e.s k102 0)) fun t20 =>
 bd (nilC t20) fun t21 =>
 bd (fa 1 t21) fun t22 =>
 bd (ld h t22) fun t23 =>
 bd (some (e.s k102 1)) fun t24 =>
 bk (K 117 [t19,t23,t24] h) (fun tp hp =>
 some ⟨.pn tp,fgE k102 [16,17,18,19,20,21,22,23,24,25,15,26,27,7,8] e,hp⟩) fun _ _ =>
 bd (nilC (e.s k102 0)) fun t17 =>
 bd (fa 6 t17) fun t18 =>
 bd (ld h t18) fun t19 =>
 bd (nilC (e.s k102 0)) fun t21 =>
 bd (fa 1 t21) fun t22 =>
 bd (ld h t22) fun t23 =>
 bn (K 117 [t19,t23,e.s k102 1] h) fun t25 h1 =>
 bd (exV t25 0) fun t26 =>
 bd (exV t25 1) fun t27 =>
 ck (ld h t18) t19 (ck (ld h t22) t23 (some ⟨.nm,(ux102 e 8 t27).st 4 t26,h1⟩))) fun e h =>
 sq (bd (nilC (e.s k102 0)) fun t29 =>
 bd (fa 5 t29) fun t30 =>
 bd (ld h t30) fun t31 =>
 bd (iaS 1 t31 (e.s k102 1)) fun t33 =>
 bd (ld h t33) fun t34 =>
 bd (nilC (e.s k102 0)) fun t36 =>
 bd (fa 5 t36) fun t37 =>
 bd (ld h t37) fun t38 =>
 bd (iaS 1 t38 (e.s k102 1)) fun t40 =>
 bd (ld h t40) fun t41 =>
 bd (unV .neg t41) fun t42 =>
 bd (maxV [t34,t42]) fun t43 =>
 ck (ld h t30) t31 (ck (ld h t33) t34 (ck (ld h t37) t38 (ck (ld h t40) t41 (some ⟨.nm,(ux102 e 9 t43).st 5 t43,h⟩))))) fun e h =>
 sq (some ⟨.nm,(ux102 e 10 (e.s k102 2)).st 6 (e.s k102 2),h⟩) fun e h =>
 sq (some ⟨.nm,e,h⟩) fun e h =>
 sq (blk 0 (L (l102_1 K L) e h)) fun e h =>
 sq (some ⟨.nm,(ux102 e 6 (e.s k102 10)).st 3 (e.s k102 10),h⟩) fun e h =>
 some ⟨.rt,e,h⟩
def f102 (K:Oracle) (L:Looper) (p0 p1 p2:V) (h:H):Option (Rv × H):=fin Tryz.prog k102 [.tmp 6] (s102 K L ⟨[p0,p1,p2,V.und,V.und,V.und,V.und,V.und,V.und],0,p0⟩ h)
theorem r102:(fun K L p0 p1 p2 h=>runFF Tryz.prog kp K L 102 [p0,p1,p2] h)=f102:=by kernel_rfl
@[simp] def k103:List Nat:=[0,1,2,4]
@[simp] def ux103 (e:E) (t:Nat) (v:V):E:=⟨[e.s k103 0,e.s k103 1,e.s k103 2,e.s k103 4],t,v⟩
def s103 (K:Oracle) (L:Looper) (e:E) (h:H):Out :=
 sq (bf (bx h 76 (e.s k103 0)) fun t2 h1 =>
 some ⟨.nm,((ux103 e 4 (.int .i64 0)).st 2 t2).st 3 (.int .i64 0),h1⟩) fun e h =>
 sq (sq (bd (binK 0 .lss (e.s k103 1) (.int .i64 0)) fun t6 =>
 some ⟨.nm,ux103 e 6 t6,h⟩) fun e h =>
 br (e.s k103 6) (sq (some ⟨.nm,(ux103 e 4 (.int .i64 0)).st 3 (.int .i64 0),h⟩) fun e h =>
 some ⟨.rt,e,h⟩)
 (some ⟨.nm,e,h⟩)) fun e h =>
 sq (bd (fa 0 (e.s k103 2)) fun t7 =>
 bd (ld h t7) fun t8 =>
 bd (iaS 1 t8 (e.s k103 1)) fun t10 =>
 bd (ld h t10) fun t11 =>
 bd (cv .i64 t11) fun t12 =>
 bd (fa 0 (e.s k103 2)) fun t13 =>
 bd (ld h t13) fun t14 =>
 bd (lnS t14) fun t15 =>
 bd (binK 0 .mul (.int .i64 4) t15) fun t16 =>
 bd (binK 0 .sub (.int .i64 32768) t16) fun t17 =>
 bd (binK 0 .mul t12 t17) fun t18 =>
 bd (binK 0 .quo t18 (.int .i64 32768)) fun t19 =>
 bd (binK 0 .add (e.s k103 1) (.int .i64 1)) fun t21 =>
 bd (binK 0 .mul (.int .i64 4) t21) fun t22 =>
 bd (binK 0 .add t19 t22) fun t23 =>
 ck (ld h t7) t8 (ck (ld h t10) t11 (ck (ld h t13) t14 (some ⟨.nm,(ux103 e 4 t23).st 3 t23,h⟩)))) fun e h =>
 some ⟨.rt,e,h⟩
def f103 (K:Oracle) (L:Looper) (p0 p1:V) (h:H):Option (Rv × H):=fin Tryz.prog k103 [.tmp 4] (s103 K L ⟨[p0,p1,V.und,V.und],0,p0⟩ h)
theorem r103:(fun K L p0 p1 h=>runFF Tryz.prog kp K L 103 [p0,p1] h)=f103:=by kernel_rfl
@[simp] def k104:List Nat:=[0,1,2,6,7,8]
@[simp] def ux104 (e:E) (t:Nat) (v:V):E:=⟨[e.s k104 0,e.s k104 1,e.s k104 2,e.s k104 6,e.s k104 7,e.s k104 8],t,v⟩
def s104 (K:Oracle) (L:Looper) (e:E) (h:H):Out :=
 sq (some ⟨.nm,((ux104 e 7 (.int .u64 0)).st 3 (.int .u64 0)).st 4 (.int .u64 0),h⟩) fun e h =>
 sq (bd (binK 0 .quo (e.s k104 0) (.int .u64 32768)) fun t10 =>
 some ⟨.nm,(ux104 e 8 t10).st 5 t10,h⟩) fun e h =>
 sq (sq (bd (binK 0 .eql (e.s k104 2) (.int .u32 32768)) fun t12 =>
 some ⟨.nm,ux104 e 12 t12,h⟩) fun e h =>
 br (e.s k104 12) (sq (bd (cv .u64 (e.s k104 1)) fun t15 =>
 bd (binK 0 .mul (e.s k104 8) t15) fun t16 =>
 bd (cv .u64 (e.s k104 1)) fun t20 =>
 bd (binK 0 .mul (e.s k104 8) t20) fun t21 =>
 bd (binK 0 .sub (e.s k104 0) t21) fun t22 =>
 some ⟨.nm,((ux104 e 7 t22).st 3 t16).st 4 t22,h⟩) fun e h =>
 some ⟨.rt,e,h⟩)
 (some ⟨.nm,e,h⟩)) fun e h =>
 sq (bd (cv .u64 (e.s k104 1)) fun t25 =>
 bd (binK 0 .mul (e.s k104 8) t25) fun t26 =>
 bd (binK 0 .sub (e.s k104 2) (e.s k104 1)) fun t30 =>
 bd (cv .u64 t30) fun t31 =>
 bd (binK 0 .mul (e.s k104 8) t31) fun t32 =>
 some ⟨.nm,((ux104 e 7 t32).st 3 t26).st 4 t32,h⟩) fun e h =>
 some ⟨.rt,e,h⟩
def f104 (K:Oracle) (L:Looper) (p0 p1 p2:V) (h:H):Option (Rv × H):=fin Tryz.prog k104 [.tmp 6,.tmp 7] (s104 K L ⟨[p0,p1,p2,V.und,V.und,V.und],0,p0⟩ h)
theorem r104:(fun K L p0 p1 p2 h=>runFF Tryz.prog kp K L 104 [p0,p1,p2] h)=f104:=by kernel_rfl
@[simp] def k105:List Nat:=[0,2,3]
@[simp] def ux105 (e:E) (t:Nat) (v:V):E:=⟨[e.s k105 0,e.s k105 2,e.s k105 3],t,v⟩
def l105_0 (K:Oracle) (L:Looper) (e:E) (h:H):Out :=
 sq (sq (bd (binK 0 .gtr (e.s k105 0) (.int .i64 1)) fun t5 =>
 some ⟨.nm,ux105 e 5 t5,h⟩) fun e h =>
 br (e.s k105 5) (some ⟨.nm,e,h⟩)
 (some ⟨.ex 0,e,h⟩)) fun e h =>
 blk 1 (sq (bd (binK 0 .quo (e.s k105 0) (.int .i64 2)) fun t7 =>
 some ⟨.nm,(ux105 e 0 t7).st 0 t7,h⟩) fun e h =>
 bd (binK 0 .add (e.s k105 3) (.int .i64 1)) fun t9 =>
 some ⟨.nm,(ux105 e 3 t9).st 2 t9,h⟩)
def s105 (K:Oracle) (L:Looper) (e:E) (h:H):Out :=
 sq (some ⟨.nm,(ux105 e 2 (.int .i64 0)).st 1 (.int .i64 0),h⟩) fun e h =>
 sq (some ⟨.nm,(ux105 e 3 (.int .i64 0)).st 2 (.int .i64 0),h⟩) fun e h =>
 sq (blk 0 (L (l105_0 K L) e h)) fun e h =>
 sq (some ⟨.nm,(ux105 e 2 (e.s k105 3)).st 1 (e.s k105 3),h⟩) fun e h =>
 some ⟨.rt,e,h⟩
def f105 (K:Oracle) (L:Looper) (p0:V) (h:H):Option (Rv × H):=fin Tryz.prog k105 [.tmp 2] (s105 K L ⟨[p0,V.und,V.und],0,p0⟩ h)
theorem r105:(fun K L p0 h=>runFF Tryz.prog kp K L 105 [p0] h)=f105:=by kernel_rfl
@[simp] def k106:List Nat:=[0,2,28]
@[simp] def ux106 (e:E) (t:Nat) (v:V):E:=⟨[e.s k106 0,e.s k106 2,e.s k106 28],t,v⟩
def l106_0 (K:Oracle) (L:Looper) (e:E) (h:H):Out :=
 sq (sq (bd (binK 0 .geq (e.s k106 2) (.int .i64 0)) fun t10 =>
 some ⟨.nm,ux106 e 10 t10,h⟩) fun e h =>
 br (e.s k106 10) (some ⟨.nm,e,h⟩)
 (some ⟨.ex 0,e,h⟩)) fun e h =>
 sq (blk 1 (sq (bd (nilC (e.s k106 0)) fun t14 =>
 bd (fa 0 t14) fun t15 =>
 bd (ld h t15) fun t16 =>
 bd (iaS 1 t16 (e.s k106 2)) fun t18 =>
 bd (ld h t18) fun t19 =>
 bd (binK 0 .add t19 (.int .u8 1)) fun t20 =>
 bd (iaS 1 t16 (e.s k106 2)) fun t21 =>
 bf (stZ 1 h t21 t20) fun _ h1 =>
 some ⟨.nm,ux106 e 0 (e.s k106 0),h1⟩) fun e h =>
 sq (bd (nilC (e.s k106 0)) fun t23 =>
 bd (fa 0 t23) fun t24 =>
 bd (ld h t24) fun t25 =>
 bd (iaS 1 t25 (e.s k106 2)) fun t27 =>
 bd (ld h t27) fun t28 =>
 some ⟨.nm,(ux106 e 28 t28).st 2 t28,h⟩) fun e h =>
 blk 2 (sq (bd (binK 0 .eql (e.s k106 28) (.int .u8 0)) fun t30 =>
 some ⟨.nm,ux106 e 29 t30,h⟩) fun e h =>
 br (e.s k106 29) (some ⟨.nm,e,h⟩)
 (some ⟨.ex 0,e,h⟩)))) fun e h =>
 bd (binK 0 .sub (e.s k106 2) (.int .i64 1)) fun t12 =>
 some ⟨.nm,(ux106 e 2 t12).st 1 t12,h⟩
def s106 (K:Oracle) (L:Looper) (e:E) (h:H):Out :=
 sq (some ⟨.nm,e,h⟩) fun e h =>
 sq (sq (bd (nilC (e.s k106 0)) fun t4 =>
 bd (fa 0 t4) fun t5 =>
 bd (ld h t5) fun t6 =>
 bd (lnS t6) fun t7 =>
 bd (binK 0 .sub t7 (.int .i64 1)) fun t8 =>
 some ⟨.nm,(ux106 e 2 t8).st 1 t8,h⟩) fun e h =>
 blk 0 (L (l106_0 K L) e h)) fun e h =>
 bd (nilC (e.s k106 0)) fun t32 =>
 bd (fa 1 t32) fun t33 =>
 bd (ld h t33) fun t34 =>
 bd (binK 0 .and t34 (.int .u64 4294967295)) fun t35 =>
 bd (nilC (e.s k106 0)) fun t36 =>
 bd (fa 1 t36) fun t37 =>
 bf (stZ 1 h t37 t35) fun _ h1 =>
 some ⟨.nm,ux106 e 0 (e.s k106 0),h1⟩
def f106 (K:Oracle) (L:Looper) (p0:V) (h:H):Option (Rv × H):=fin Tryz.prog k106 [] (s106 K L ⟨[p0,V.und,V.und],0,p0⟩ h)
theorem r106:(fun K L p0 h=>runFF Tryz.prog kp K L 106 [p0] h)=f106:=by kernel_rfl
@[simp] def k107:List Nat:=[0,1,2,4,5,6]
@[simp] def ux107 (e:E) (t:Nat) (v:V):E:=⟨[e.s k107 0,e.s k107 1,e.s k107 2,e.s k107 4,e.s k107 5,e.s k107 6],t,v⟩
def l107_0 (K:Oracle) (L:Looper) (e:E) (h:H):Out :=
 sq (sq (bd (ldn 2 h (e.s k107 2)) fun t14 =>
 bc k107 [14,15,16,17,18] e (K 119 [t14,e.s k107 6] h) fun t16 h1 =>
 bd (binK 0 .leq t16 (e.s k107 1)) fun t18 =>
 some ⟨.nm,ux107 e 18 t18,h1⟩) fun e h =>
 br (e.s k107 18) (some ⟨.nm,e,h⟩)
 (some ⟨.ex 0,e,h⟩)) fun e h =>
 blk 1 (bd (binK 0 .add (e.s k107 6) (.int .i64 1)) fun t20 =>
 some ⟨.nm,(ux107 e 6 t20).st 5 t20,h⟩)
def s107 (K:Oracle) (L:Looper) (e:E) (h:H):Out :=
 sq (bf (bx h 76 (e.s k107 0)) fun t2 h1 =>
 some ⟨.nm,(((ux107 e 5 (.int .i64 0)).st 2 t2).st 3 (.int .i64 0)).st 4 (.int .i64 0),h1⟩) fun e h =>
 sq (sq (bd (ldn 2 h (e.s k107 2)) fun t7 =>
 bc k107 [7,8,9,10,11,12,13] e (K 62 [t7] h) fun t8 h1 =>
 bd (binK 0 .neq t8 (.int .i64 0)) fun t9 =>
 bd (gl t9 false (some (e.s k107 1))) fun t11 =>
 bd (gl t9 false (binK 0 .geq t11 (.int .u32 32768))) fun t12 =>
 bd (pk t9 (.bool true) t12) fun t13 =>
 some ⟨.nm,ux107 e 13 t13,h1⟩) fun e h =>
 br (e.s k107 13) (sq (some ⟨.nm,((ux107 e 5 (.int .i64 2)).st 3 (.int .i64 0)).st 4 (.int .i64 2),h⟩) fun e h =>
 some ⟨.rt,e,h⟩)
 (some ⟨.nm,e,h⟩)) fun e h =>
 sq (some ⟨.nm,(ux107 e 6 (.int .i64 0)).st 5 (.int .i64 0),h⟩) fun e h =>
 sq (blk 0 (L (l107_0 K L) e h)) fun e h =>
 sq (some ⟨.nm,((ux107 e 5 (.int .i64 0)).st 3 (e.s k107 6)).st 4 (.int .i64 0),h⟩) fun e h =>
 some ⟨.rt,e,h⟩
def f107 (K:Oracle) (L:Looper) (p0 p1:V) (h:H):Option (Rv × H):=fin Tryz.prog k107 [.tmp 4,.tmp 5] (s107 K L ⟨[p0,p1,V.und,V.und,V.und,V.und],0,p0⟩ h)
theorem r107:(fun K L p0 p1 h=>runFF Tryz.prog kp K L 107 [p0,p1] h)=f107:=by kernel_rfl
@[simp] def k108:List Nat:=[0,1,2,4,5,6]
@[simp] def ux108 (e:E) (t:Nat) (v:V):E:=⟨[e.s k108 0,e.s k108 1,e.s k108 2,e.s k108 4,e.s k108 5,e.s k108 6],t,v⟩
def s108 (K:Oracle) (L:Looper) (e:E) (h:H):Out :=
 sq (bf (bx h 76 (e.s k108 0)) fun t2 h1 =>
 some ⟨.nm,((((ux108 e 6 (.int .i64 0)).st 2 t2).st 3 (.int .u32 0)).st 4 (.int .u32 0)).st 5 (.int .i64 0),h1⟩) fun e h =>
 sq (sq (bd (ldn 2 h (e.s k108 2)) fun t7 =>
 bc k108 [7,8,9,10] e (K 109 [t7,e.s k108 1] h) fun t9 h1 =>
 bd (unV .not t9) fun t10 =>
 some ⟨.nm,ux108 e 10 t10,h1⟩) fun e h =>
 br (e.s k108 10) (sq (some ⟨.nm,(((ux108 e 6 (.int .i64 2)).st 3 (.int .u32 0)).st 4 (.int .u32 0)).st 5 (.int .i64 2),h⟩) fun e h =>
 some ⟨.rt,e,h⟩)
 (some ⟨.nm,e,h⟩)) fun e h =>
 sq (bd (ldn 2 h (e.s k108 2)) fun t11 =>
 bd (some (e.s k108 1)) fun t12 =>
 bd (binK 0 .sub t12 (.int .i64 1)) fun t13 =>
 bk (K 119 [t11,t13] h) (fun tp hp =>
 bd (ldn 2 h (e.s k108 2)) fun t15 =>
 bd (some (e.s k108 1)) fun t16 =>
 some ⟨.pn tp,fgE k108 [11,12,13,14,15,16,17,4,5,6] e,hp⟩) fun _ _ =>
 bd (ldn 2 h (e.s k108 2)) fun t11 =>
 bd (binK 0 .sub (e.s k108 1) (.int .i64 1)) fun t13 =>
 bn (K 119 [t11,t13] h) fun t14 h1 =>
 bd (ldn 2 h1 (e.s k108 2)) fun t15 =>
 bn (K 119 [t15,e.s k108 1] h1) fun t17 h2 =>
 ck (ldn 2 h (e.s k108 2)) t11 (ck (ldn 2 h (e.s k108 2)) t15 (ck (ldn 2 h1 (e.s k108 2)) t15 (some ⟨.nm,(((ux108 e 6 (.int .i64 0)).st 3 t14).st 4 t17).st 5 (.int .i64 0),h2⟩)))) fun e h =>
 some ⟨.rt,e,h⟩
def f108 (K:Oracle) (L:Looper) (p0 p1:V) (h:H):Option (Rv × H):=fin Tryz.prog k108 [.tmp 4,.tmp 5,.tmp 6] (s108 K L ⟨[p0,p1,V.und,V.und,V.und,V.und],0,p0⟩ h)
theorem r108:(fun K L p0 p1 h=>runFF Tryz.prog kp K L 108 [p0,p1] h)=f108:=by kernel_rfl
@[simp] def k109:List Nat:=[0,1,2,4]
@[simp] def ux109 (e:E) (t:Nat) (v:V):E:=⟨[e.s k109 0,e.s k109 1,e.s k109 2,e.s k109 4],t,v⟩
def s109 (K:Oracle) (L:Looper) (e:E) (h:H):Out :=
 sq (bf (bx h 76 (e.s k109 0)) fun t2 h1 =>
 some ⟨.nm,((ux109 e 4 (.bool false)).st 2 t2).st 3 (.bool false),h1⟩) fun e h =>
 sq (bd (ldn 2 h (e.s k109 2)) fun t5 =>
 bc k109 [5,6,7,8,9,10,11,12,13,14,15,16,17,18,4] e (K 62 [t5] h) fun t6 h1 =>
 bd (binK 0 .eql t6 (.int .i64 0)) fun t7 =>
 bd (gl t7 true (some (e.s k109 1))) fun t9 =>
 bd (gl t7 true (binK 0 .geq t9 (.int .i64 0))) fun t10 =>
 bd (pk t7 t10 (.bool false)) fun t11 =>
 bd (gl t11 true (some (e.s k109 1))) fun t13 =>
 bd (gl t11 true (fa 0 (e.s k109 2))) fun t14 =>
 bd (gl t11 true (ld h1 t14)) fun t15 =>
 bd (gl t11 true (lnS t15)) fun t16 =>
 bd (gl t11 true (binK 0 .lss t13 t16)) fun t17 =>
 bd (pk t11 t17 (.bool false)) fun t18 =>
 some ⟨.nm,(ux109 e 4 t18).st 3 t18,h1⟩) fun e h =>
 some ⟨.rt,e,h⟩
def f109 (K:Oracle) (L:Looper) (p0 p1:V) (h:H):Option (Rv × H):=fin Tryz.prog k109 [.tmp 4] (s109 K L ⟨[p0,p1,V.und,V.und],0,p0⟩ h)
theorem r109:(fun K L p0 p1 h=>runFF Tryz.prog kp K L 109 [p0,p1] h)=f109:=by kernel_rfl
@[simp] def k110:List Nat:=[0,1,2,3]
@[simp] def ux110 (e:E) (t:Nat) (v:V):E:=⟨[e.s k110 0,e.s k110 1,e.s k110 2,e.s k110 3],t,v⟩
def s110 (K:Oracle) (L:Looper) (e:E) (h:H):Out :=
 sq (bf (bx h 76 (e.s k110 0)) fun t1 h1 =>
 some ⟨.nm,((ux110 e 2 (.int .i64 0)).st 1 t1).st 2 (.int .i64 0),h1⟩) fun e h =>
 sq (bd (fa 0 (e.s k110 1)) fun t4 =>
 bd (ld h t4) fun t5 =>
 bd (lnS t5) fun t6 =>
 bd (cv .u64 t6) fun t7 =>
 bc k110 [4,5,6,7,8,9,10,11,3] e (K 115 [t7] h) fun t8 h1 =>
 bd (binK 0 .sub t8 (.int .i64 1)) fun t9 =>
 bd (minV [t9,(.int .i64 2)]) fun t10 =>
 bd (binK 0 .add (.int .i64 3) t10) fun t11 =>
 some ⟨.nm,(ux110 e 3 t11).st 3 t11,h1⟩) fun e h =>
 sq (sq (bd (fa 1 (e.s k110 1)) fun t12 =>
 bd (ld h t12) fun t13 =>
 bd (binK 0 .gtr t13 (.int .i64 15)) fun t14 =>
 some ⟨.nm,ux110 e 14 t14,h⟩) fun e h =>
 br (e.s k110 14) (bd (binK 0 .add (e.s k110 3) (.int .i64 1)) fun t16 =>
 some ⟨.nm,(ux110 e 3 t16).st 3 t16,h⟩)
 (some ⟨.nm,e,h⟩)) fun e h =>
 sq (sq (bd (fa 1 (e.s k110 1)) fun t17 =>
 bd (ld h t17) fun t18 =>
 bd (binK 0 .gtr t18 (.int .i64 31)) fun t19 =>
 some ⟨.nm,ux110 e 19 t19,h⟩) fun e h =>
 br (e.s k110 19) (bd (binK 0 .add (e.s k110 3) (.int .i64 1)) fun t21 =>
 some ⟨.nm,(ux110 e 3 t21).st 3 t21,h⟩)
 (some ⟨.nm,e,h⟩)) fun e h =>
 sq (some ⟨.nm,(ux110 e 2 (e.s k110 3)).st 2 (e.s k110 3),h⟩) fun e h =>
 some ⟨.rt,e,h⟩
def f110 (K:Oracle) (L:Looper) (p0:V) (h:H):Option (Rv × H):=fin Tryz.prog k110 [.tmp 2] (s110 K L ⟨[p0,V.und,V.und,V.und],0,p0⟩ h)
theorem r110:(fun K L p0 h=>runFF Tryz.prog kp K L 110 [p0] h)=f110:=by kernel_rfl
@[simp] def k111:List Nat:=[0,1,4]
@[simp] def ux111 (e:E) (t:Nat) (v:V):E:=⟨[e.s k111 0,e.s k111 1,e.s k111 4],t,v⟩
def s111 (K:Oracle) (L:Looper) (e:E) (h:H):Out :=
 sq (some ⟨.nm,(ux111 e 4 (.bool false)).st 2 (.bool false),h⟩) fun e h =>
 sq (bc k111 [5,6,7,8,9,10,11,12,13,14,15,16,4] e (K 120 [e.s k111 0] h) fun t6 h1 =>
 bd (gl t6 true (some (e.s k111 1))) fun t8 =>
 bc k111 [5,6,7,8,9,10,11,12,13,14,15,16,4] e (gk t6 true h1 (K 120 [t8] h1)) fun t9 h2 =>
 bd (gl t6 true (unV .not t9)) fun t10 =>
 bd (pk t6 t10 (.bool false)) fun t11 =>
 bd (gl t11 false (some (e.s k111 0))) fun t13 =>
 bd (gl t11 false (some (e.s k111 1))) fun t14 =>
 bd (gl t11 false (binK 0 .lss t13 t14)) fun t15 =>
 bd (pk t11 (.bool true) t15) fun t16 =>
 some ⟨.nm,(ux111 e 4 t16).st 2 t16,h2⟩) fun e h =>
 some ⟨.rt,e,h⟩
def f111 (K:Oracle) (L:Looper) (p0 p1:V) (h:H):Option (Rv × H):=fin Tryz.prog k111 [.tmp 4] (s111 K L ⟨[p0,p1,V.und],0,p0⟩ h)
theorem r111:(fun K L p0 p1 h=>runFF Tryz.prog kp K L 111 [p0,p1] h)=f111:=by kernel_rfl
@[simp] def k112:List Nat:=[0,2]
@[simp] def ux112 (e:E) (t:Nat) (v:V):E:=⟨[e.s k112 0,e.s k112 2],t,v⟩
def s112 (K:Oracle) (L:Looper) (e:E) (h:H):Out :=
 sq (some ⟨.nm,(ux112 e 2 (.int .u32 0)).st 1 (.int .u32 0),h⟩) fun e h =>
 sq (bd (nilC (e.s k112 0)) fun t4 =>
 bd (fa 1 t4) fun t5 =>
 bd (ld h t5) fun t6 =>
 bd (nilC (e.s k112 0)) fun t8 =>
 bd (fa 2 t8) fun t9 =>
 bd (ld h t9) fun t10 =>
 bd (binK 0 .shr t10 (.int .u64 15)) fun t11 =>
 bd (binK 0 .quo t6 t11) fun t12 =>
 bd (minV [t12,(.int .u32 32767)]) fun t13 =>
 ck (ld h t5) t6 (ck (ld h t9) t10 (some ⟨.nm,(ux112 e 2 t13).st 1 t13,h⟩))) fun e h =>
 some ⟨.rt,e,h⟩
def f112 (K:Oracle) (L:Looper) (p0:V) (h:H):Option (Rv × H):=fin Tryz.prog k112 [.tmp 2] (s112 K L ⟨[p0,V.und],0,p0⟩ h)
theorem r112:(fun K L p0 h=>runFF Tryz.prog kp K L 112 [p0] h)=f112:=by kernel_rfl
@[simp] def k113:List Nat:=[0,1,2,6,7,8]
@[simp] def ux113 (e:E) (t:Nat) (v:V):E:=⟨[e.s k113 0,e.s k113 1,e.s k113 2,e.s k113 6,e.s k113 7,e.s k113 8],t,v⟩
def s113 (K:Oracle) (L:Looper) (e:E) (h:H):Out :=
 sq (some ⟨.nm,((ux113 e 7 (.int .u32 0)).st 3 (.int .u32 0)).st 4 (.int .u32 0),h⟩) fun e h =>
 sq (bd (binK 0 .shr (e.s k113 0) (.int .u64 15)) fun t10 =>
 some ⟨.nm,(ux113 e 8 t10).st 5 t10,h⟩) fun e h =>
 sq (bd (binK 0 .mul (e.s k113 8) (e.s k113 1)) fun t13 =>
 some ⟨.nm,(ux113 e 6 t13).st 3 t13,h⟩) fun e h =>
 sq (sq (bd (binK 0 .eql (e.s k113 2) (.int .u32 32768)) fun t15 =>
 some ⟨.nm,ux113 e 15 t15,h⟩) fun e h =>
 br (e.s k113 15) (sq (bd (binK 0 .sub (e.s k113 0) (e.s k113 6)) fun t19 =>
 some ⟨.nm,(ux113 e 7 t19).st 4 t19,h⟩) fun e h =>
 some ⟨.rt,e,h⟩)
 (some ⟨.nm,e,h⟩)) fun e h =>
 sq (bd (binK 0 .sub (e.s k113 2) (e.s k113 1)) fun t24 =>
 bd (binK 0 .mul (e.s k113 8) t24) fun t25 =>
 some ⟨.nm,(ux113 e 7 t25).st 4 t25,h⟩) fun e h =>
 some ⟨.rt,e,h⟩
def f113 (K:Oracle) (L:Looper) (p0 p1 p2:V) (h:H):Option (Rv × H):=fin Tryz.prog k113 [.tmp 6,.tmp 7] (s113 K L ⟨[p0,p1,p2,V.und,V.und,V.und],0,p0⟩ h)
theorem r113:(fun K L p0 p1 p2 h=>runFF Tryz.prog kp K L 113 [p0,p1,p2] h)=f113:=by kernel_rfl
@[simp] def k114:List Nat:=[0,1,4]
@[simp] def ux114 (e:E) (t:Nat) (v:V):E:=⟨[e.s k114 0,e.s k114 1,e.s k114 4],t,v⟩
def s114 (K:Oracle) (L:Looper) (e:E) (h:H):Out :=
 sq (some ⟨.nm,(ux114 e 4 (.int .i64 0)).st 2 (.int .i64 0),h⟩) fun e h =>
 sq (sq (bd (binK 0 .neq (e.s k114 1) (.int .i64 0)) fun t6 =>
 some ⟨.nm,ux114 e 6 t6,h⟩) fun e h =>
 br (e.s k114 6) (bd (bl [(.int .i64 0)] [(some (0,1),(e.s k114 1))]) fun t8 =>
 bd (some (.iface 112 t8)) fun t9 =>
 bc k114 [7,8,9] e (panV t9 h) fun _ h1 =>
 some ⟨.nm,ux114 e 0 (e.s k114 0),h1⟩)
 (some ⟨.nm,e,h⟩)) fun e h =>
 sq (some ⟨.nm,(ux114 e 4 (e.s k114 0)).st 2 (e.s k114 0),h⟩) fun e h =>
 some ⟨.rt,e,h⟩
def f114 (K:Oracle) (L:Looper) (p0 p1:V) (h:H):Option (Rv × H):=fin Tryz.prog k114 [.tmp 4] (s114 K L ⟨[p0,p1,V.und],0,p0⟩ h)
theorem r114:(fun K L p0 p1 h=>runFF Tryz.prog kp K L 114 [p0,p1] h)=f114:=by kernel_rfl
@[simp] def k115:List Nat:=[0,2]
@[simp] def ux115 (e:E) (t:Nat) (v:V):E:=⟨[e.s k115 0,e.s k115 2],t,v⟩
def s115 (K:Oracle) (L:Looper) (e:E) (h:H):Out :=
 sq (some ⟨.nm,(ux115 e 2 (.int .i64 0)).st 1 (.int .i64 0),h⟩) fun e h =>
 sq (br (.bool false) (sq (bd (cv .u32 (e.s k115 0)) fun t4 =>
 bc k115 [3,4,5,2] e (K 121 [t4] h) fun t5 h1 =>
 some ⟨.nm,(ux115 e 2 t5).st 1 t5,h1⟩) fun e h =>
 some ⟨.rt,e,h⟩)
 (some ⟨.nm,e,h⟩)) fun e h =>
 sq (bc k115 [6,7,2] e (K 122 [e.s k115 0] h) fun t7 h1 =>
 some ⟨.nm,(ux115 e 2 t7).st 1 t7,h1⟩) fun e h =>
 some ⟨.rt,e,h⟩
def f115 (K:Oracle) (L:Looper) (p0:V) (h:H):Option (Rv × H):=fin Tryz.prog k115 [.tmp 2] (s115 K L ⟨[p0,V.und],0,p0⟩ h)
theorem r115:(fun K L p0 h=>runFF Tryz.prog kp K L 115 [p0] h)=f115:=by kernel_rfl
@[simp] def k116:List Nat:=[0,1,2,3,4,5,12,13,14,15,17,18,19,20,43,44,45]
@[simp] def ux116 (e:E) (t:Nat) (v:V):E:=⟨[e.s k116 0,e.s k116 1,e.s k116 2,e.s k116 3,e.s k116 4,e.s k116 5,e.s k116 12,e.s k116 13,e.s k116 14,e.s k116 15,e.s k116 17,e.s k116 18,e.s k116 19,e.s k116 20,e.s k116 43,e.s k116 44,e.s k116 45],t,v⟩
def l116_0 (K:Oracle) (L:Looper) (e:E) (h:H):Out :=
 sq (bd (binK 0 .lss (e.s k116 45) (e.s k116 44)) fun t46 =>
 some ⟨.nm,ux116 e 46 t46,h⟩) fun e h =>
 sq (br (e.s k116 46) (some ⟨.nm,e,h⟩)
 (some ⟨.ex 0,e,h⟩)) fun e h =>
 sq (blk 1 (sq (bd (iaS 2 (e.s k116 43) (e.s k116 45)) fun t47 =>
 bd (ldn 2 h t47) fun t48 =>
 bf (nw h 151 [(.int .i64 0),(.int .i64 0)]) fun t17 h1 =>
 bf (stZ 2 h1 t17 t48) fun _ h2 =>
 some ⟨.nm,(ux116 e 0 (e.s k116 0)).st 10 t17,h2⟩) fun e h =>
 sq (bd (binK 0 .quo (e.s k116 2) (e.s k116 14)) fun t51 =>
 bd (fa 0 (e.s k116 17)) fun t52 =>
 bd (ld h t52) fun t53 =>
 bd (binK 0 .add t51 t53) fun t54 =>
 bd (binK 0 .rem (e.s k116 2) (e.s k116 14)) fun t57 =>
 bd (fa 1 (e.s k116 17)) fun t58 =>
 bd (ld h t58) fun t59 =>
 bd (binK 0 .add t57 t59) fun t60 =>
 ck (ld h t52) t53 (ck (ld h t58) t59 (some ⟨.nm,((ux116 e 19 t60).st 11 t54).st 12 t60,h⟩))) fun e h =>
 sq (sq (bd (binK 0 .geq (e.s k116 18) (e.s k116 14)) fun t63 =>
 bd (gl t63 false (some (e.s k116 19))) fun t65 =>
 bd (gl t63 false (some (e.s k116 14))) fun t66 =>
 bd (gl t63 false (binK 0 .geq t65 t66)) fun t67 =>
 bd (pk t63 (.bool true) t67) fun t68 =>
 some ⟨.nm,ux116 e 68 t68,h⟩) fun e h =>
 br (e.s k116 68) (some ⟨.ex 1,e,h⟩)
 (some ⟨.nm,e,h⟩)) fun e h =>
 sq (bd (binK 0 .mul (e.s k116 18) (e.s k116 14)) fun t72 =>
 bd (binK 0 .add t72 (e.s k116 19)) fun t74 =>
 bd (iaS 1 (e.s k116 0) t74) fun t75 =>
 bd (ld h t75) fun t76 =>
 some ⟨.nm,(ux116 e 20 t76).st 13 t76,h⟩) fun e h =>
 sq (bd (binK 0 .geq (e.s k116 20) (.int .i64 0)) fun t78 =>
 some ⟨.nm,ux116 e 78 t78,h⟩) fun e h =>
 br (e.s k116 78) (bd (minV [e.s k116 20,e.s k116 3]) fun t82 =>
 bd (binK 0 .add (e.s k116 15) t82) fun t83 =>
 some ⟨.nm,(ux116 e 15 t83).st 9 t83,h⟩)
 (bd (unV .neg (e.s k116 3)) fun t87 =>
 bd (maxV [e.s k116 20,t87]) fun t88 =>
 bd (unV .neg t88) fun t89 =>
 bd (binK 0 .add (e.s k116 15) t89) fun t90 =>
 some ⟨.nm,(ux116 e 15 t90).st 9 t90,h⟩))) fun e h =>
 bd (binK 0 .add (e.s k116 45) (.int .i64 1)) fun t91 =>
 some ⟨.nm,(ux116 e 45 t91).st 16 t91,h⟩
def s116 (K:Oracle) (L:Looper) (e:E) (h:H):Out :=
 sq (some ⟨.nm,((ux116 e 13 (.int .i64 0)).st 6 (.int .i64 0)).st 7 (.int .i64 0),h⟩) fun e h =>
 sq (bc k116 [21,22,14] e (K 68 [e.s k116 1] h) fun t22 h1 =>
 some ⟨.nm,(ux116 e 14 t22).st 8 t22,h1⟩) fun e h =>
 sq (sq (bd (binK 0 .eql (e.s k116 14) (.int .i64 0)) fun t24 =>
 bd (gl t24 false (some (e.s k116 0))) fun t26 =>
 bd (gl t24 false (lnS t26)) fun t27 =>
 bd (gl t24 false (some (e.s k116 14))) fun t28 =>
 bd (gl t24 false (some (e.s k116 14))) fun t29 =>
 bd (gl t24 false (binK 0 .mul t28 t29)) fun t30 =>
 bd (gl t24 false (binK 0 .neq t27 t30)) fun t31 =>
 bd (pk t24 (.bool true) t31) fun t32 =>
 bd (gl t32 false (some (e.s k116 2))) fun t34 =>
 bd (gl t32 false (binK 0 .lss t34 (.int .i64 0))) fun t35 =>
 bd (pk t32 (.bool true) t35) fun t36 =>
 bd (gl t36 false (some (e.s k116 2))) fun t38 =>
 bd (gl t36 false (some (e.s k116 0))) fun t39 =>
 bd (gl t36 false (lnS t39)) fun t40 =>
 bd (gl t36 false (binK 0 .geq t38 t40)) fun t41 =>
 bd (pk t36 (.bool true) t41) fun t42 =>
 some ⟨.nm,ux116 e 42 t42,h⟩) fun e h =>
 br (e.s k116 42) (sq (some ⟨.nm,((ux116 e 13 (.int .i64 2)).st 6 (.int .i64 0)).st 7 (.int .i64 2),h⟩) fun e h =>
 some ⟨.rt,e,h⟩)
 (some ⟨.nm,e,h⟩)) fun e h =>
 sq (some ⟨.nm,(ux116 e 15 (.int .i64 0)).st 9 (.int .i64 0),h⟩) fun e h =>
 sq (sq (bd (lnS (e.s k116 5)) fun t44 =>
 some ⟨.nm,(((ux116 e 45 (.int .i64 0)).st 14 (e.s k116 5)).st 15 t44).st 16 (.int .i64 0),h⟩) fun e h =>
 blk 0 (L (l116_0 K L) e h)) fun e h =>
 sq (bd (binK 0 .add (e.s k116 15) (.int .i64 1)) fun t93 =>
 bd (binK 0 .quo t93 (.int .i64 2)) fun t94 =>
 bd (minV [t94,e.s k116 4]) fun t96 =>
 some ⟨.nm,((ux116 e 13 (.int .i64 0)).st 6 t96).st 7 (.int .i64 0),h⟩) fun e h =>
 some ⟨.rt,e,h⟩
def f116 (K:Oracle) (L:Looper) (p0 p1 p2 p3 p4 p5:V) (h:H):Option (Rv × H):=fin Tryz.prog k116 [.tmp 12,.tmp 13] (s116 K L ⟨[p0,p1,p2,p3,p4,p5,V.und,V.und,V.und,V.und,V.und,V.und,V.und,V.und,V.und,V.und,V.und],0,p0⟩ h)
theorem r116:(fun K L p0 p1 p2 p3 p4 p5 h=>runFF Tryz.prog kp K L 116 [p0,p1,p2,p3,p4,p5] h)=f116:=by kernel_rfl
@[simp] def k117:List Nat:=[0,1,2,6,7]
@[simp] def ux117 (e:E) (t:Nat) (v:V):E:=⟨[e.s k117 0,e.s k117 1,e.s k117 2,e.s k117 6,e.s k117 7],t,v⟩
def s117 (K:Oracle) (L:Looper) (e:E) (h:H):Out :=
 sq (some ⟨.nm,((ux117 e 7 (.int .i64 0)).st 3 (.int .i64 0)).st 4 (.int .i64 0),h⟩) fun e h =>
 sq (bd (bl [(.int .i64 0),(.int .i64 0)] [(some (0,1),(.int .i64 0)),(some (1,1),(.int .i64 1))]) fun t11 =>
 bd (bl [(.int .i64 0),(.int .i64 0)] [(some (0,1),(.int .i64 1)),(some (1,1),(.int .i64 0))]) fun t12 =>
 bd (bl [(.int .i64 0),(.int .i64 0)] [(some (0,1),(.int .i64 1)),(some (1,1),(.int .i64 1))]) fun t13 =>
 bf (bs h 151 3 [(.int .i64 0),(.int .i64 0),(.int .i64 0),(.int .i64 0),(.int .i64 0),(.int .i64 0)] [(some (0,2),t11),(some (2,2),t12),(some (4,2),t13)]) fun t14 h1 =>
 bc k117 [8,9,10,11,12,13,14,15,16,17,6,7] e (K 116 [e.s k117 0,e.s k117 1,e.s k117 2,(.int .i64 15),(.int .i64 6),t14] h1) fun t15 h2 =>
 bd (exV t15 0) fun t16 =>
 bd (exV t15 1) fun t17 =>
 some ⟨.nm,((ux117 e 7 t17).st 3 t16).st 4 t17,h2⟩) fun e h =>
 some ⟨.rt,e,h⟩
def f117 (K:Oracle) (L:Looper) (p0 p1 p2:V) (h:H):Option (Rv × H):=fin Tryz.prog k117 [.tmp 6,.tmp 7] (s117 K L ⟨[p0,p1,p2,V.und,V.und],0,p0⟩ h)
theorem r117:(fun K L p0 p1 p2 h=>runFF Tryz.prog kp K L 117 [p0,p1,p2] h)=f117:=by kernel_rfl
@[simp] def k118:List Nat:=[0,1,4,5,6,7,8]
@[simp] def ux118 (e:E) (t:Nat) (v:V):E:=⟨[e.s k118 0,e.s k118 1,e.s k118 4,e.s k118 5,e.s k118 6,e.s k118 7,e.s k118 8],t,v⟩
def l118_0 (K:Oracle) (L:Looper) (e:E) (h:H):Out :=
 sq (sq (bd (binK 0 .eql (e.s k118 6) (e.s k118 7)) fun t19 =>
 bc k118 [16,17,18,19,20,21,22] e (K 97 [t19] h) fun t20 h1 =>
 bc k118 [16,17,18,19,20,21,22] e (K 100 [e.s k118 0,(.int .i64 1),t20] h1) fun t21 h2 =>
 bd (binK 0 .eql t21 (.int .i64 0)) fun t22 =>
 some ⟨.nm,ux118 e 22 t22,h2⟩) fun e h =>
 br (e.s k118 22) (some ⟨.nm,e,h⟩)
 (some ⟨.ex 0,e,h⟩)) fun e h =>
 blk 1 (sq (bd (binK 0 .add (e.s k118 6) (.int .i64 1)) fun t24 =>
 some ⟨.nm,(ux118 e 6 t24).st 4 t24,h⟩) fun e h =>
 sq (bd (binK 0 .gtr (e.s k118 6) (.int .i64 20)) fun t26 =>
 some ⟨.nm,ux118 e 26 t26,h⟩) fun e h =>
 br (e.s k118 26) (bd (bl [(.int .i64 0)] [(some (0,1),(.int .i64 4))]) fun t27 =>
 bd (some (.iface 112 t27)) fun t28 =>
 bc k118 [27,28] e (panV t28 h) fun _ h1 =>
 some ⟨.nm,ux118 e 0 (e.s k118 0),h1⟩)
 (some ⟨.nm,e,h⟩))
def s118 (K:Oracle) (L:Looper) (e:E) (h:H):Out :=
 sq (some ⟨.nm,(ux118 e 4 (.int .i64 0)).st 2 (.int .i64 0),h⟩) fun e h =>
 sq (bd (maxV [e.s k118 1,(.int .i64 0)]) fun t10 =>
 bd (binK 0 .add t10 (.int .i64 1)) fun t11 =>
 some ⟨.nm,(ux118 e 5 t11).st 3 t11,h⟩) fun e h =>
 sq (bd (cv .u64 (e.s k118 5)) fun t13 =>
 bc k118 [12,13,14,15,6,7] e (K 115 [t13] h) fun t14 h1 =>
 bd (binK 0 .sub t14 (.int .i64 1)) fun t15 =>
 some ⟨.nm,((ux118 e 7 t15).st 4 (.int .i64 0)).st 5 t15,h1⟩) fun e h =>
 sq (blk 0 (L (l118_0 K L) e h)) fun e h =>
 sq (some ⟨.nm,(ux118 e 8 (.int .i64 0)).st 6 (.int .i64 0),h⟩) fun e h =>
 sq (sq (bd (nilC (e.s k118 0)) fun t30 =>
 bd (fa 0 t30) fun t31 =>
 bd (ld h t31) fun t32 =>
 bc k118 [29,30,31,32,33] e (K 40 [t32] h) fun t33 h1 =>
 some ⟨.nm,ux118 e 33 t33,h1⟩) fun e h =>
 br (e.s k118 33) (bd (binK 0 .shl (.int .i64 1) (e.s k118 6)) fun t36 =>
 bd (binK 0 .sub (e.s k118 5) t36) fun t37 =>
 some ⟨.nm,(ux118 e 8 t37).st 6 t37,h⟩)
 (some ⟨.nm,e,h⟩)) fun e h =>
 sq (bd (some (e.s k118 0)) fun t40 =>
 bd (some (e.s k118 6)) fun t41 =>
 bd (some (e.s k118 8)) fun t42 =>
 bk (K 100 [t40,t41,t42] h) (fun tp hp =>
 bd (some (e.s k118 6)) fun t38 =>
 bd (binK 0 .shl (.int .i64 1) t38) fun t39 =>
 some ⟨.pn tp,fgE k118 [38,39,40,41,42,43,44,45,4] e,hp⟩) fun _ _ =>
 bn (K 100 [e.s k118 0,e.s k118 6,e.s k118 8] h) fun t43 h1 =>
 bd (binK 0 .shl (.int .i64 1) (e.s k118 6)) fun t39 =>
 bd (binK 0 .add t39 t43) fun t44 =>
 bd (binK 0 .sub t44 (.int .i64 1)) fun t45 =>
 some ⟨.nm,(ux118 e 4 t45).st 2 t45,h1⟩) fun e h =>
 some ⟨.rt,e,h⟩
def f118 (K:Oracle) (L:Looper) (p0 p1:V) (h:H):Option (Rv × H):=fin Tryz.prog k118 [.tmp 4] (s118 K L ⟨[p0,p1,V.und,V.und,V.und,V.und,V.und],0,p0⟩ h)
theorem r118:(fun K L p0 p1 h=>runFF Tryz.prog kp K L 118 [p0,p1] h)=f118:=by kernel_rfl
@[simp] def k119:List Nat:=[0,1,2,4]
@[simp] def ux119 (e:E) (t:Nat) (v:V):E:=⟨[e.s k119 0,e.s k119 1,e.s k119 2,e.s k119 4],t,v⟩
def s119 (K:Oracle) (L:Looper) (e:E) (h:H):Out :=
 sq (bf (bx h 76 (e.s k119 0)) fun t2 h1 =>
 some ⟨.nm,((ux119 e 4 (.int .u32 0)).st 2 t2).st 3 (.int .u32 0),h1⟩) fun e h =>
 sq (sq (bd (binK 0 .lss (e.s k119 1) (.int .i64 0)) fun t6 =>
 some ⟨.nm,ux119 e 6 t6,h⟩) fun e h =>
 br (e.s k119 6) (sq (some ⟨.nm,(ux119 e 4 (.int .u32 0)).st 3 (.int .u32 0),h⟩) fun e h =>
 some ⟨.rt,e,h⟩)
 (some ⟨.nm,e,h⟩)) fun e h =>
 sq (bd (fa 0 (e.s k119 2)) fun t7 =>
 bd (ld h t7) fun t8 =>
 bd (iaS 1 t8 (e.s k119 1)) fun t10 =>
 bd (ld h t10) fun t11 =>
 bd (cv .u32 t11) fun t12 =>
 bd (fa 0 (e.s k119 2)) fun t13 =>
 bd (ld h t13) fun t14 =>
 bd (lnS t14) fun t15 =>
 bd (binK 0 .mul (.int .i64 4) t15) fun t16 =>
 bd (binK 0 .sub (.int .i64 32768) t16) fun t17 =>
 bd (cv .u32 t17) fun t18 =>
 bd (binK 0 .mul t12 t18) fun t19 =>
 bd (binK 0 .shr t19 (.int .u64 15)) fun t20 =>
 bd (binK 0 .add (e.s k119 1) (.int .i64 1)) fun t22 =>
 bd (binK 0 .mul (.int .i64 4) t22) fun t23 =>
 bd (cv .u32 t23) fun t24 =>
 bd (binK 0 .add t20 t24) fun t25 =>
 ck (ld h t7) t8 (ck (ld h t10) t11 (ck (ld h t13) t14 (some ⟨.nm,(ux119 e 4 t25).st 3 t25,h⟩)))) fun e h =>
 some ⟨.rt,e,h⟩
def f119 (K:Oracle) (L:Looper) (p0 p1:V) (h:H):Option (Rv × H):=fin Tryz.prog k119 [.tmp 4] (s119 K L ⟨[p0,p1,V.und,V.und],0,p0⟩ h)
theorem r119:(fun K L p0 p1 h=>runFF Tryz.prog kp K L 119 [p0,p1] h)=f119:=by kernel_rfl
@[simp] def k120:List Nat:=[0,2]
@[simp] def ux120 (e:E) (t:Nat) (v:V):E:=⟨[e.s k120 0,e.s k120 2],t,v⟩
def s120 (K:Oracle) (L:Looper) (e:E) (h:H):Out :=
 sq (some ⟨.nm,(ux120 e 2 (.bool false)).st 1 (.bool false),h⟩) fun e h =>
 sq (bd (binK 0 .neq (e.s k120 0) (e.s k120 0)) fun t5 =>
 some ⟨.nm,(ux120 e 2 t5).st 1 t5,h⟩) fun e h =>
 some ⟨.rt,e,h⟩
def f120 (K:Oracle) (L:Looper) (p0:V) (h:H):Option (Rv × H):=fin Tryz.prog k120 [.tmp 2] (s120 K L ⟨[p0,V.und],0,p0⟩ h)
theorem r120:(fun K L p0 h=>runFF Tryz.prog kp K L 120 [p0] h)=f120:=by kernel_rfl
@[simp] def k122:List Nat:=[0,2]
@[simp] def ux122 (e:E) (t:Nat) (v:V):E:=⟨[e.s k122 0,e.s k122 2],t,v⟩
def s122 (K:Oracle) (L:Looper) (e:E) (h:H):Out :=
 sq (some ⟨.nm,(ux122 e 2 (.int .i64 0)).st 1 (.int .i64 0),h⟩) fun e h =>
 sq (sq (bd (binK 0 .geq (e.s k122 0) (.int .u64 4294967296)) fun t4 =>
 some ⟨.nm,ux122 e 4 t4,h⟩) fun e h =>
 br (e.s k122 4) (sq (bd (binK 0 .shr (e.s k122 0) (.int .u64 32)) fun t6 =>
 some ⟨.nm,(ux122 e 0 t6).st 0 t6,h⟩) fun e h =>
 some ⟨.nm,(ux122 e 2 (.int .i64 32)).st 1 (.int .i64 32),h⟩)
 (some ⟨.nm,e,h⟩)) fun e h =>
 sq (sq (bd (binK 0 .geq (e.s k122 0) (.int .u64 65536)) fun t8 =>
 some ⟨.nm,ux122 e 8 t8,h⟩) fun e h =>
 br (e.s k122 8) (sq (bd (binK 0 .shr (e.s k122 0) (.int .u64 16)) fun t10 =>
 some ⟨.nm,(ux122 e 0 t10).st 0 t10,h⟩) fun e h =>
 bd (binK 0 .add (e.s k122 2) (.int .i64 16)) fun t12 =>
 some ⟨.nm,(ux122 e 2 t12).st 1 t12,h⟩)
 (some ⟨.nm,e,h⟩)) fun e h =>
 sq (sq (bd (binK 0 .geq (e.s k122 0) (.int .u64 256)) fun t14 =>
 some ⟨.nm,ux122 e 14 t14,h⟩) fun e h =>
 br (e.s k122 14) (sq (bd (binK 0 .shr (e.s k122 0) (.int .u64 8)) fun t16 =>
 some ⟨.nm,(ux122 e 0 t16).st 0 t16,h⟩) fun e h =>
 bd (binK 0 .add (e.s k122 2) (.int .i64 8)) fun t18 =>
 some ⟨.nm,(ux122 e 2 t18).st 1 t18,h⟩)
 (some ⟨.nm,e,h⟩)) fun e h =>
 sq (bd (cv .u8 (e.s k122 0)) fun t21 =>
 bd (ixS (.str [0,1,2,2,3,3,3,3,4,4,4,4,4,4,4,4,5,5,5,5,5,5,5,5,5,5,5,5,5,5,5,5,6,6,6,6,6,6,6,6,6,6,6,6,6,6,6,6,6,6,6,6,6,6,6,6,6,6,6,6,6,6,6,6,7,7,7,7,7,7,7,7,7,7,7,7,7,7,7,7,7,7,7,7,7,7,7,7,7,7,7,7,7,7,7,7,7,7,7,7,7,7,7,7,7,7,7,7,7,7,7,7,7,7,7,7,7,7,7,7,7,7,7,7,7,7,7,7,8,8,8,8,8,8,8,8,8,8,8,8,8,8,8,8,8,8,8,8,8,8,8,8,8,8,8,8,8,8,8,8,8,8,8,8,8,8,8,8,8,8,8,8,8,8,8,8,8,8,8,8,8,8,8,8,8,8,8,8,8,8,8,8,8,8,8,8,8,8,8,8,8,8,8,8,8,8,8,8,8,8,8,8,8,8,8,8,8,8,8,8,8,8,8,8,8,8,8,8,8,8,8,8,8,8,8,8,8,8,8,8,8,8,8,8,8,8,8,8,8,8,8,8,8,8,8,8]) t21) fun t22 =>
 bd (cv .i64 t22) fun t23 =>
 bd (binK 0 .add (e.s k122 2) t23) fun t24 =>
 some ⟨.nm,(ux122 e 2 t24).st 1 t24,h⟩) fun e h =>
 some ⟨.rt,e,h⟩
def f122 (K:Oracle) (L:Looper) (p0:V) (h:H):Option (Rv × H):=fin Tryz.prog k122 [.tmp 2] (s122 K L ⟨[p0,V.und],0,p0⟩ h)
theorem r122:(fun K L p0 h=>runFF Tryz.prog kp K L 122 [p0] h)=f122:=by kernel_rfl
end
end Go.Proofs.YtbajipmhnoakeaaGreat
