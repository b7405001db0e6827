import Derived.Test.YtbkmdnmncaakdaaGreatPbKp
set_option linter.unusedVariables false
set_option linter.unusedSimpArgs false
namespace Go.Proofs.YtbkmdnmncaakdaaGreat
open Go Go.Zf
noncomputable section
@[simp] def k80:List Nat:=[0,1,2]
@[simp] def ux80 (e:E) (t:Nat) (v:V):E:=⟨[e.s k80 0,e.s k80 1,e.s k80 2],t,v⟩
def s80 (K:Oracle) (L:Looper) (e:E) (h:H):Out :=
 sq (bf (bx h 101 (e.s k80 0)) fun t1 h1 =>
 some ⟨.nm,((ux80 e 2 (.int .i64 0)).st 1 t1).st 2 (.int .i64 0),h1⟩) fun e h =>
 sq (blk 0 (sq (sq (bd (fa 0 (e.s k80 1)) fun t4 =>
 bd (ld h t4) fun t5 =>
 bd (lnS t5) fun t6 =>
 bc k80 [4,5,6,7,8,3] e (K 83 [t6] h) fun t7 h1 =>
 bd (unV .not t7) fun t8 =>
 some ⟨.nm,ux80 e 3 t8,h1⟩) fun e h =>
 br (e.s k80 3) (some ⟨.nm,e,h⟩)
 (sq (bd (fa 1 (e.s k80 1)) fun t9 =>
 bd (ld h t9) fun t10 =>
 bd (binK 0 .lss t10 (.int .i64 0)) fun t11 =>
 some ⟨.nm,ux80 e 3 t11,h⟩) fun e h =>
 br (e.s k80 3) (some ⟨.nm,e,h⟩)
 (bd (fa 1 (e.s k80 1)) fun t12 =>
 bd (ld h t12) fun t13 =>
 bd (binK 0 .gtr t13 (.int .i64 32)) fun t14 =>
 some ⟨.nm,ux80 e 3 t14,h⟩))) fun e h =>
 br (e.s k80 3) (sq (some ⟨.nm,(ux80 e 2 (.int .i64 2)).st 2 (.int .i64 2),h⟩) fun e h =>
 some ⟨.rt,e,h⟩)
 (sq (sq (bd (fa 0 (e.s k80 1)) fun t16 =>
 bd (ld h t16) fun t17 =>
 bc k80 [16,17,18,19,15] e (K 132 [t17] h) fun t18 h1 =>
 bd (unV .not t18) fun t19 =>
 some ⟨.nm,ux80 e 15 t19,h1⟩) fun e h =>
 br (e.s k80 15) (some ⟨.nm,e,h⟩)
 (bd (fa 0 (e.s k80 1)) fun t20 =>
 bd (ld h t20) fun t21 =>
 bd (fa 0 (e.s k80 1)) fun t22 =>
 bd (ld h t22) fun t23 =>
 bd (lnS t23) fun t24 =>
 bd (binK 0 .sub t24 (.int .i64 1)) fun t25 =>
 bd (iaS 1 t21 t25) fun t26 =>
 bd (ld h t26) fun t27 =>
 bd (binK 0 .neq t27 (.int .u16 32768)) fun t28 =>
 some ⟨.nm,ux80 e 15 t28,h⟩)) fun e h =>
 br (e.s k80 15) (sq (some ⟨.nm,(ux80 e 2 (.int .i64 2)).st 2 (.int .i64 2),h⟩) fun e h =>
 some ⟨.rt,e,h⟩)
 (some ⟨.nm,e,h⟩)))) fun e h =>
 sq (some ⟨.nm,(ux80 e 2 (.int .i64 0)).st 2 (.int .i64 0),h⟩) fun e h =>
 some ⟨.rt,e,h⟩
def f80 (K:Oracle) (L:Looper) (p0:V) (h:H):Option (Rv × H):=fin Tryz.prog k80 [.tmp 2] (s80 K L ⟨[p0,V.und,V.und],0,p0⟩ h)
theorem r80:(fun K L p0 h=>runFF Tryz.prog kp K L 80 [p0] h)=f80:=by kernel_rfl
@[simp] def k81:List Nat:=[0,2]
@[simp] def ux81 (e:E) (t:Nat) (v:V):E:=⟨[e.s k81 0,e.s k81 2],t,v⟩
def s81 (K:Oracle) (L:Looper) (e:E) (h:H):Out :=
 sq (some ⟨.nm,(ux81 e 2 .nils).st 1 .nils,h⟩) fun e h =>
 sq (sq (bd (binK 3 .eql (e.s k81 0) .nils) fun t4 =>
 some ⟨.nm,ux81 e 4 t4,h⟩) fun e h =>
 br (e.s k81 4) (sq (some ⟨.nm,(ux81 e 2 .nils).st 1 .nils,h⟩) fun e h =>
 some ⟨.rt,e,h⟩)
 (some ⟨.nm,e,h⟩)) fun e h =>
 sq (bf (bs h 101 0 [] []) fun t5 h1 =>
 bf (apZ 101 2 32 h1 t5 (e.s k81 0)) fun t7 h2 =>
 some ⟨.nm,(ux81 e 2 t7).st 1 t7,h2⟩) fun e h =>
 some ⟨.rt,e,h⟩
def f81 (K:Oracle) (L:Looper) (p0:V) (h:H):Option (Rv × H):=fin Tryz.prog k81 [.tmp 2] (s81 K L ⟨[p0,V.und],0,p0⟩ h)
theorem r81:(fun K L p0 h=>runFF Tryz.prog kp K L 81 [p0] h)=f81:=by kernel_rfl
@[simp] def k82:List Nat:=[0,2]
@[simp] def ux82 (e:E) (t:Nat) (v:V):E:=⟨[e.s k82 0,e.s k82 2],t,v⟩
def s82 (K:Oracle) (L:Looper) (e:E) (h:H):Out :=
 sq (some ⟨.nm,(ux82 e 2 .nils).st 1 .nils,h⟩) fun e h =>
 sq (sq (bd (binK 3 .eql (e.s k82 0) .nils) fun t4 =>
 some ⟨.nm,ux82 e 4 t4,h⟩) fun e h =>
 br (e.s k82 4) (sq (some ⟨.nm,(ux82 e 2 .nils).st 1 .nils,h⟩) fun e h =>
 some ⟨.rt,e,h⟩)
 (some ⟨.nm,e,h⟩)) fun e h =>
 sq (bf (bs h 137 0 [] []) fun t5 h1 =>
 bf (apZ 137 1 2 h1 t5 (e.s k82 0)) fun t7 h2 =>
 some ⟨.nm,(ux82 e 2 t7).st 1 t7,h2⟩) fun e h =>
 some ⟨.rt,e,h⟩
def f82 (K:Oracle) (L:Looper) (p0:V) (h:H):Option (Rv × H):=fin Tryz.prog k82 [.tmp 2] (s82 K L ⟨[p0,V.und],0,p0⟩ h)
theorem r82:(fun K L p0 h=>runFF Tryz.prog kp K L 82 [p0] h)=f82:=by kernel_rfl
@[simp] def k83:List Nat:=[0,2]
@[simp] def ux83 (e:E) (t:Nat) (v:V):E:=⟨[e.s k83 0,e.s k83 2],t,v⟩
def s83 (K:Oracle) (L:Looper) (e:E) (h:H):Out :=
 sq (some ⟨.nm,(ux83 e 2 (.bool false)).st 1 (.bool false),h⟩) fun e h =>
 sq (bd (binK 0 .geq (e.s k83 0) (.int .i64 2)) fun t4 =>
 bd (gl t4 true (some (e.s k83 0))) fun t6 =>
 bd (gl t4 true (binK 0 .leq t6 (.int .i64 16))) fun t7 =>
 bd (pk t4 t7 (.bool false)) fun t8 =>
 some ⟨.nm,(ux83 e 2 t8).st 1 t8,h⟩) fun e h =>
 some ⟨.rt,e,h⟩
def f83 (K:Oracle) (L:Looper) (p0:V) (h:H):Option (Rv × H):=fin Tryz.prog k83 [.tmp 2] (s83 K L ⟨[p0,V.und],0,p0⟩ h)
theorem r83:(fun K L p0 h=>runFF Tryz.prog kp K L 83 [p0] h)=f83:=by kernel_rfl
@[simp] def k84:List Nat:=[0,1,2,6,7,8,9,10,11,36,37]
@[simp] def ux84 (e:E) (t:Nat) (v:V):E:=⟨[e.s k84 0,e.s k84 1,e.s k84 2,e.s k84 6,e.s k84 7,e.s k84 8,e.s k84 9,e.s k84 10,e.s k84 11,e.s k84 36,e.s k84 37],t,v⟩
def l84_0 (K:Oracle) (L:Looper) (e:E) (h:H):Out :=
 sq (bd (binK 0 .lss (e.s k84 37) (e.s k84 36)) fun t38 =>
 some ⟨.nm,ux84 e 38 t38,h⟩) fun e h =>
 sq (br (e.s k84 38) (some ⟨.nm,e,h⟩)
 (some ⟨.ex 1,e,h⟩)) fun e h =>
 sq (blk 2 (sq (some ⟨.nm,(ux84 e 9 (e.s k84 37)).st 6 (e.s k84 37),h⟩) fun e h =>
 sq (bd (binK 0 .sub (e.s k84 1) (.int .i64 1)) fun t44 =>
 bd (binK 0 .sub t44 (e.s k84 9)) fun t46 =>
 bd (binK 0 .shr (e.s k84 2) t46) fun t47 =>
 bd (binK 0 .and t47 (.int .i64 1)) fun t48 =>
 bc k84 [41,42,43,44,45,46,47,48,49,40,50,51,10,11] e (K 133 [e.s k84 0,t48] h) fun t49 h1 =>
 bd (exV t49 0) fun t50 =>
 bd (exV t49 1) fun t51 =>
 some ⟨.nm,((ux84 e 11 t51).st 7 t50).st 8 t51,h1⟩) fun e h =>
 sq (sq (bd (binK 0 .neq (e.s k84 11) (.int .i64 0)) fun t53 =>
 some ⟨.nm,ux84 e 53 t53,h⟩) fun e h =>
 br (e.s k84 53) (sq (some ⟨.nm,((ux84 e 7 (e.s k84 11)).st 3 (.int .i64 0)).st 4 (e.s k84 11),h⟩) fun e h =>
 some ⟨.rt,e,h⟩)
 (some ⟨.nm,e,h⟩)) fun e h =>
 bd (binK 0 .shl (e.s k84 8) (.int .u64 1)) fun t56 =>
 bd (binK 0 .or t56 (e.s k84 10)) fun t58 =>
 some ⟨.nm,(ux84 e 8 t58).st 5 t58,h⟩)) fun e h =>
 bd (binK 0 .add (e.s k84 37) (.int .i64 1)) fun t59 =>
 some ⟨.nm,(ux84 e 37 t59).st 10 t59,h⟩
def s84 (K:Oracle) (L:Looper) (e:E) (h:H):Out :=
 sq (some ⟨.nm,((ux84 e 7 (.int .i64 0)).st 3 (.int .i64 0)).st 4 (.int .i64 0),h⟩) fun e h =>
 sq (blk 0 (sq (bc k84 [13,14,12] e (K 45 [e.s k84 0] h) fun t14 h1 =>
 some ⟨.nm,ux84 e 12 t14,h1⟩) fun e h =>
 br (e.s k84 12) (sq (some ⟨.nm,((ux84 e 7 (.int .i64 1)).st 3 (.int .i64 0)).st 4 (.int .i64 1),h⟩) fun e h =>
 some ⟨.rt,e,h⟩)
 (sq (bd (binK 0 .lss (e.s k84 1) (.int .i64 0)) fun t17 =>
 bd (gl t17 false (some (e.s k84 1))) fun t19 =>
 bd (gl t17 false (binK 0 .gtr t19 (.int .i64 30))) fun t20 =>
 bd (pk t17 (.bool true) t20) fun t21 =>
 bd (gl t21 false (some (e.s k84 0))) fun t23 =>
 bc k84 [16,17,18,19,20,21,22,23,24,25,26,27,28,29,30,31,32,33,34,35,15] e (gk t21 false h (K 42 [t23] h)) fun t24 h1 =>
 bd (gl t21 false (some t24)) fun t25 =>
 bd (gl t25 true (some (e.s k84 2))) fun t26 =>
 bd (gl t25 true (binK 0 .lss t26 (.int .i64 0))) fun t27 =>
 bd (gl t25 true (some t27)) fun t28 =>
 bd (gl t28 false (some (e.s k84 2))) fun t29 =>
 bd (gl t28 false (some (e.s k84 1))) fun t30 =>
 bd (gl t28 false (binK 0 .shr t29 t30)) fun t31 =>
 bd (gl t28 false (binK 0 .neq t31 (.int .i64 0))) fun t32 =>
 bd (gl t25 true (pk t28 (.bool true) t32)) fun t33 =>
 bd (gl t21 false (pk t25 t33 (.bool false))) fun t34 =>
 bd (pk t21 (.bool true) t34) fun t35 =>
 some ⟨.nm,ux84 e 15 t35,h1⟩) fun e h =>
 br (e.s k84 15) (sq (some ⟨.nm,((ux84 e 7 (.int .i64 2)).st 3 (.int .i64 0)).st 4 (.int .i64 2),h⟩) fun e h =>
 some ⟨.rt,e,h⟩)
 (some ⟨.nm,e,h⟩)))) fun e h =>
 sq (some ⟨.nm,(ux84 e 8 (.int .i64 0)).st 5 (.int .i64 0),h⟩) fun e h =>
 sq (sq (some ⟨.nm,((ux84 e 37 (.int .i64 0)).st 9 (e.s k84 1)).st 10 (.int .i64 0),h⟩) fun e h =>
 blk 1 (L (l84_0 K L) e h)) fun e h =>
 sq (bd (nilC (e.s k84 0)) fun t61 =>
 bd (fa 4 t61) fun t62 =>
 bd (ld h t62) fun t63 =>
 bd (binK 0 .add t63 (e.s k84 1)) fun t65 =>
 bd (nilC (e.s k84 0)) fun t66 =>
 bd (fa 4 t66) fun t67 =>
 bf (stZ 1 h t67 t65) fun _ h1 =>
 some ⟨.nm,ux84 e 0 (e.s k84 0),h1⟩) fun e h =>
 sq (some ⟨.nm,((ux84 e 7 (.int .i64 0)).st 3 (e.s k84 8)).st 4 (.int .i64 0),h⟩) fun e h =>
 some ⟨.rt,e,h⟩
def f84 (K:Oracle) (L:Looper) (p0 p1 p2:V) (h:H):Option (Rv × H):=fin Tryz.prog k84 [.tmp 6,.tmp 7] (s84 K L ⟨[p0,p1,p2,V.und,V.und,V.und,V.und,V.und,V.und,V.und,V.und],0,p0⟩ h)
theorem r84:(fun K L p0 p1 p2 h=>runFF Tryz.prog kp K L 84 [p0,p1,p2] h)=f84:=by kernel_rfl
@[simp] def k85:List Nat:=[0,1,2,6,7,8,9]
@[simp] def ux85 (e:E) (t:Nat) (v:V):E:=⟨[e.s k85 0,e.s k85 1,e.s k85 2,e.s k85 6,e.s k85 7,e.s k85 8,e.s k85 9],t,v⟩
def s85 (K:Oracle) (L:Looper) (e:E) (h:H):Out :=
 sq (bf (nw h 42 [(.int .i64 0),(.int .i64 0),(.int .i64 0),(.int .i64 0),(.bool false),(.bool false),(.int .i64 0),(.int .i64 0),(.int .i64 0),(.int .i64 0),(.int .i64 0),(.int .i64 0),(.int .i64 0),(.bool false),(.int .i64 0),(.int .i64 0),(.int .i64 0),(.int .i64 0),(.int .i64 0),(.int .i64 0),(.int .i64 0),(.int .i64 0),(.bool false)]) fun t6 h1 =>
 some ⟨.nm,((ux85 e 7 (.bool false)).st 3 t6).st 4 (.bool false),h1⟩) fun e h =>
 sq (sq (bc k85 [10,11,12,13,14,15,16,17,18] e (K 58 [e.s k85 0] h) fun t11 h1 =>
 bd (gl t11 false (some (e.s k85 0))) fun t13 =>
 bd (gl t11 false (some (e.s k85 1))) fun t14 =>
 bd (gl t11 false (some (e.s k85 2))) fun t15 =>
 bc k85 [10,11,12,13,14,15,16,17,18] e (gk t11 false h1 (K 60 [t13,t14,t15] h1)) fun t16 h2 =>
 bd (gl t11 false (unV .not t16)) fun t17 =>
 bd (pk t11 (.bool true) t17) fun t18 =>
 some ⟨.nm,ux85 e 18 t18,h2⟩) fun e h =>
 br (e.s k85 18) (sq (bd (bl [(.int .i64 0),(.int .i64 0),(.int .i64 0),(.int .i64 0),(.bool false),(.bool false),(.int .i64 0),(.int .i64 0),(.int .i64 0),(.int .i64 0),(.int .i64 0),(.int .i64 0),(.int .i64 0),(.bool false),(.int .i64 0),(.int .i64 0),(.int .i64 0),(.int .i64 0),(.int .i64 0),(.int .i64 0),(.int .i64 0),(.int .i64 0),(.bool false)] []) fun t19 =>
 bf (stZ 23 h (e.s k85 6) t19) fun _ h1 =>
 some ⟨.nm,(ux85 e 7 (.bool false)).st 4 (.bool false),h1⟩) fun e h =>
 some ⟨.rt,e,h⟩)
 (some ⟨.nm,e,h⟩)) fun e h =>
 sq (bd (some (e.s k85 1)) fun t25 =>
 bd (some (e.s k85 2)) fun t26 =>
 bk (K 61 [t25,t26] h) (fun tp hp =>
 bd (some (e.s k85 0)) fun t21 =>
 bd (nilC t21) fun t22 =>
 bd (fa 6 t22) fun t23 =>
 bd (ld h t23) fun t24 =>
 some ⟨.pn tp,fgE k85 [21,22,23,24,25,26,27,28,20,29,30,8,9] e,hp⟩) fun _ _ =>
 bn (K 61 [e.s k85 1,e.s k85 2] h) fun t27 h1 =>
 bd (nilC (e.s k85 0)) fun t22 =>
 bd (fa 6 t22) fun t23 =>
 bd (ld h1 t23) fun t24 =>
 bf (lkM [.i .i64,.i .i64] (.int .i64 0) true h1 t24 t27) fun t28 h2 =>
 bd (exV t28 0) fun t29 =>
 bd (exV t28 1) fun t30 =>
 ck (ld h t23) t24 (ck (ld h1 t23) t24 (some ⟨.nm,((ux85 e 9 t30).st 5 t29).st 6 t30,h2⟩))) fun e h =>
 sq (sq (bd (unV .not (e.s k85 9)) fun t32 =>
 some ⟨.nm,ux85 e 32 t32,h⟩) fun e h =>
 br (e.s k85 32) (sq (bd (bl [(.int .i64 0),(.int .i64 0),(.int .i64 0),(.int .i64 0),(.bool false),(.bool false),(.int .i64 0),(.int .i64 0),(.int .i64 0),(.int .i64 0),(.int .i64 0),(.int .i64 0),(.int .i64 0),(.bool false),(.int .i64 0),(.int .i64 0),(.int .i64 0),(.int .i64 0),(.int .i64 0),(.int .i64 0),(.int .i64 0),(.int .i64 0),(.bool false)] []) fun t33 =>
 bf (stZ 23 h (e.s k85 6) t33) fun _ h1 =>
 some ⟨.nm,(ux85 e 7 (.bool false)).st 4 (.bool false),h1⟩) fun e h =>
 some ⟨.rt,e,h⟩)
 (some ⟨.nm,e,h⟩)) fun e h =>
 sq (bd (nilC (e.s k85 0)) fun t35 =>
 bd (fa 5 t35) fun t36 =>
 bd (ld h t36) fun t37 =>
 bd (iaS 23 t37 (e.s k85 8)) fun t39 =>
 bd (ldn 23 h t39) fun t40 =>
 bf (stZ 23 h (e.s k85 6) t40) fun _ h1 =>
 some ⟨.nm,(ux85 e 7 (.bool true)).st 4 (.bool true),h1⟩) fun e h =>
 some ⟨.rt,e,h⟩
def f85 (K:Oracle) (L:Looper) (p0 p1 p2:V) (h:H):Option (Rv × H):=fin Tryz.prog k85 [.cell 6 42,.tmp 7] (s85 K L ⟨[p0,p1,p2,V.und,V.und,V.und,V.und],0,p0⟩ h)
theorem r85:(fun K L p0 p1 p2 h=>runFF Tryz.prog kp K L 85 [p0,p1,p2] h)=f85:=by kernel_rfl
@[simp] def k86:List Nat:=[0,2,3,4,5]
@[simp] def ux86 (e:E) (t:Nat) (v:V):E:=⟨[e.s k86 0,e.s k86 2,e.s k86 3,e.s k86 4,e.s k86 5],t,v⟩
def s86 (K:Oracle) (L:Looper) (e:E) (h:H):Out :=
 sq (some ⟨.nm,(((ux86 e 4 (.int .i64 0)).st 1 (.int .i64 0)).st 2 (.int .i64 0)).st 3 (.int .i64 0),h⟩) fun e h =>
 sq (sq (bd (binK 0 .lss (e.s k86 0) (.int .i64 0)) fun t7 =>
 bd (gl t7 false (some (e.s k86 0))) fun t9 =>
 bd (gl t7 false (binK 0 .geq t9 (.int .i64 32))) fun t10 =>
 bd (pk t7 (.bool true) t10) fun t11 =>
 some ⟨.nm,ux86 e 11 t11,h⟩) fun e h =>
 br (e.s k86 11) (sq (some ⟨.nm,(((ux86 e 4 (.int .i64 41)).st 1 (.int .i64 0)).st 2 (.int .i64 0)).st 3 (.int .i64 41),h⟩) fun e h =>
 some ⟨.rt,e,h⟩)
 (some ⟨.nm,e,h⟩)) fun e h =>
 sq (bc k86 [12,13,14,5] e (K 36 [] h) fun t12 h1 =>
 bd (ixN 32 3 t12 (e.s k86 0)) fun t14 =>
 bf (nw h1 94 [(.int .i64 0),(.int .i64 0),(.bool false)]) fun t5 h2 =>
 bf (stZ 3 h2 t5 t14) fun _ h3 =>
 some ⟨.nm,(ux86 e 0 (e.s k86 0)).st 4 t5,h3⟩) fun e h =>
 sq (bd (fa 0 (e.s k86 5)) fun t15 =>
 bd (ld h t15) fun t16 =>
 bd (fa 1 (e.s k86 5)) fun t17 =>
 bd (ld h t17) fun t18 =>
 ck (ld h t15) t16 (ck (ld h t17) t18 (some ⟨.nm,(((ux86 e 4 (.int .i64 0)).st 1 t16).st 2 t18).st 3 (.int .i64 0),h⟩))) fun e h =>
 some ⟨.rt,e,h⟩
def f86 (K:Oracle) (L:Looper) (p0:V) (h:H):Option (Rv × H):=fin Tryz.prog k86 [.tmp 2,.tmp 3,.tmp 4] (s86 K L ⟨[p0,V.und,V.und,V.und,V.und],0,p0⟩ h)
theorem r86:(fun K L p0 h=>runFF Tryz.prog kp K L 86 [p0] h)=f86:=by kernel_rfl
@[simp] def k87:List Nat:=[0,1,2,4,6,7,8,9,10,11,12]
@[simp] def ux87 (e:E) (t:Nat) (v:V):E:=⟨[e.s k87 0,e.s k87 1,e.s k87 2,e.s k87 4,e.s k87 6,e.s k87 7,e.s k87 8,e.s k87 9,e.s k87 10,e.s k87 11,e.s k87 12],t,v⟩
def s87 (K:Oracle) (L:Looper) (e:E) (h:H):Out :=
 sq (bf (bx h 101 (e.s k87 1)) fun t4 h1 =>
 some ⟨.nm,(((ux87 e 7 (.int .i64 0)).st 3 t4).st 4 (.int .i64 0)).st 5 (.int .i64 0),h1⟩) fun e h =>
 sq (sq (bc k87 [13,14,15] e (K 42 [e.s k87 0] h) fun t14 h1 =>
 bd (unV .not t14) fun t15 =>
 some ⟨.nm,ux87 e 15 t15,h1⟩) fun e h =>
 br (e.s k87 15) (sq (bd (nilC (e.s k87 0)) fun t18 =>
 bd (fa 1 t18) fun t19 =>
 bd (ld h t19) fun t20 =>
 bc k87 [17,18,19,20,21,16,22,23,8,9] e (K 134 [t20] h) fun t21 h1 =>
 bd (exV t21 0) fun t22 =>
 bd (exV t21 1) fun t23 =>
 some ⟨.nm,((ux87 e 9 t23).st 6 t22).st 7 t23,h1⟩) fun e h =>
 sq (sq (bd (binK 0 .neq (e.s k87 9) (.int .i64 0)) fun t25 =>
 some ⟨.nm,ux87 e 25 t25,h⟩) fun e h =>
 br (e.s k87 25) (sq (some ⟨.nm,((ux87 e 7 (e.s k87 9)).st 4 (.int .i64 0)).st 5 (e.s k87 9),h⟩) fun e h =>
 some ⟨.rt,e,h⟩)
 (some ⟨.nm,e,h⟩)) fun e h =>
 sq (bd (ldn 2 h (e.s k87 4)) fun t28 =>
 bc k87 [28,29,30,27,31,32,2,9] e (K 135 [t28,e.s k87 8] h) fun t30 h1 =>
 bd (exV t30 0) fun t31 =>
 bd (exV t30 1) fun t32 =>
 some ⟨.nm,((ux87 e 9 t32).st 2 t31).st 7 t32,h1⟩) fun e h =>
 sq (bd (binK 0 .neq (e.s k87 9) (.int .i64 0)) fun t34 =>
 some ⟨.nm,ux87 e 34 t34,h⟩) fun e h =>
 br (e.s k87 34) (sq (some ⟨.nm,((ux87 e 7 (e.s k87 9)).st 4 (.int .i64 0)).st 5 (e.s k87 9),h⟩) fun e h =>
 some ⟨.rt,e,h⟩)
 (some ⟨.nm,e,h⟩))
 (some ⟨.nm,e,h⟩)) fun e h =>
 sq (bd (ldn 2 h (e.s k87 4)) fun t37 =>
 bc k87 [37,38,39,36,40,41,42,10,11,12] e (K 136 [t37,e.s k87 2] h) fun t39 h1 =>
 bd (exV t39 0) fun t40 =>
 bd (exV t39 1) fun t41 =>
 bd (exV t39 2) fun t42 =>
 some ⟨.nm,(((ux87 e 12 t42).st 8 t40).st 9 t41).st 10 t42,h1⟩) fun e h =>
 sq (sq (bd (binK 0 .neq (e.s k87 12) (.int .i64 0)) fun t44 =>
 some ⟨.nm,ux87 e 44 t44,h⟩) fun e h =>
 br (e.s k87 44) (sq (some ⟨.nm,((ux87 e 7 (e.s k87 12)).st 4 (.int .i64 0)).st 5 (e.s k87 12),h⟩) fun e h =>
 some ⟨.rt,e,h⟩)
 (some ⟨.nm,e,h⟩)) fun e h =>
 sq (sq (bc k87 [46,47] e (K 42 [e.s k87 0] h) fun t47 h1 =>
 some ⟨.nm,ux87 e 47 t47,h1⟩) fun e h =>
 br (e.s k87 47) (sq (bd (nilC (e.s k87 0)) fun t50 =>
 bd (fa 0 t50) fun t51 =>
 bd (ld h t51) fun t52 =>
 bc k87 [48,49,50,51,52,53,54,55,6,7] e (K 137 [t52,e.s k87 10,e.s k87 11] h) fun t55 h1 =>
 some ⟨.nm,((ux87 e 7 t55).st 4 (e.s k87 2)).st 5 t55,h1⟩) fun e h =>
 some ⟨.rt,e,h⟩)
 (some ⟨.nm,e,h⟩)) fun e h =>
 sq (bd (nilC (e.s k87 0)) fun t58 =>
 bd (fa 1 t58) fun t59 =>
 bd (ld h t59) fun t60 =>
 bc k87 [56,57,58,59,60,61,62,63,6,7] e (K 138 [t60,e.s k87 10,e.s k87 11] h) fun t63 h1 =>
 some ⟨.nm,((ux87 e 7 t63).st 4 (e.s k87 2)).st 5 t63,h1⟩) fun e h =>
 some ⟨.rt,e,h⟩
def f87 (K:Oracle) (L:Looper) (p0 p1 p2:V) (h:H):Option (Rv × H):=fin Tryz.prog k87 [.tmp 6,.tmp 7] (s87 K L ⟨[p0,p1,p2,V.und,V.und,V.und,V.und,V.und,V.und,V.und,V.und],0,p0⟩ h)
theorem r87:(fun K L p0 p1 p2 h=>runFF Tryz.prog kp K L 87 [p0,p1,p2] h)=f87:=by kernel_rfl
@[simp] def k88:List Nat:=[0,1,2,4,5,6,7,8,9,31,32,33]
@[simp] def ux88 (e:E) (t:Nat) (v:V):E:=⟨[e.s k88 0,e.s k88 1,e.s k88 2,e.s k88 4,e.s k88 5,e.s k88 6,e.s k88 7,e.s k88 8,e.s k88 9,e.s k88 31,e.s k88 32,e.s k88 33],t,v⟩
def l88_0 (K:Oracle) (L:Looper) (e:E) (h:H):Out :=
 sq (bd (binK 0 .lss (e.s k88 33) (e.s k88 32)) fun t34 =>
 some ⟨.nm,ux88 e 34 t34,h⟩) fun e h =>
 sq (br (e.s k88 34) (some ⟨.nm,e,h⟩)
 (some ⟨.ex 0,e,h⟩)) fun e h =>
 sq (blk 1 (sq (bd (iaS 1 (e.s k88 31) (e.s k88 33)) fun t36 =>
 bd (ld h t36) fun t37 =>
 some ⟨.nm,((ux88 e 9 t37).st 7 (e.s k88 33)).st 8 t37,h⟩) fun e h =>
 sq (bd (binK 0 .lss (e.s k88 8) (e.s k88 1)) fun t40 =>
 some ⟨.nm,ux88 e 40 t40,h⟩) fun e h =>
 br (e.s k88 40) (bd (fa 0 (e.s k88 7)) fun t41 =>
 bd (ld h t41) fun t42 =>
 bd (iaS 1 t42 (e.s k88 8)) fun t44 =>
 bd (ld h t44) fun t45 =>
 bd (binK 0 .shr (e.s k88 9) (e.s k88 6)) fun t48 =>
 bd (binK 0 .sub t45 t48) fun t49 =>
 bd (iaS 1 t42 (e.s k88 8)) fun t50 =>
 bf (stZ 1 h t50 t49) fun _ h1 =>
 ck (ld h t41) t42 (ck (ld h t44) t45 (some ⟨.nm,ux88 e 0 (e.s k88 0),h1⟩)))
 (bd (fa 0 (e.s k88 7)) fun t51 =>
 bd (ld h t51) fun t52 =>
 bd (iaS 1 t52 (e.s k88 8)) fun t54 =>
 bd (ld h t54) fun t55 =>
 bd (binK 0 .sub (.int .u16 32768) (e.s k88 9)) fun t57 =>
 bd (binK 0 .shr t57 (e.s k88 6)) fun t59 =>
 bd (binK 0 .add t55 t59) fun t60 =>
 bd (iaS 1 t52 (e.s k88 8)) fun t61 =>
 bf (stZ 1 h t61 t60) fun _ h1 =>
 ck (ld h t51) t52 (ck (ld h t54) t55 (some ⟨.nm,ux88 e 0 (e.s k88 0),h1⟩))))) fun e h =>
 bd (binK 0 .add (e.s k88 33) (.int .i64 1)) fun t62 =>
 some ⟨.nm,(ux88 e 33 t62).st 11 t62,h⟩
def s88 (K:Oracle) (L:Looper) (e:E) (h:H):Out :=
 sq (bf (bx h 101 (e.s k88 0)) fun t2 h1 =>
 bf (nw h1 101 [.nils,(.int .i64 0)]) fun t4 h2 =>
 some ⟨.nm,(((ux88 e 5 (.int .i64 0)).st 2 t2).st 3 t4).st 4 (.int .i64 0),h2⟩) fun e h =>
 sq (sq (bd (ldn 2 h (e.s k88 2)) fun t10 =>
 bc k88 [10,11,12,13] e (K 139 [t10,e.s k88 1] h) fun t12 h1 =>
 bd (unV .not t12) fun t13 =>
 some ⟨.nm,ux88 e 13 t13,h1⟩) fun e h =>
 br (e.s k88 13) (sq (bd (bl [.nils,(.int .i64 0)] []) fun t14 =>
 bf (stZ 2 h (e.s k88 4) t14) fun _ h1 =>
 some ⟨.nm,(ux88 e 5 (.int .i64 2)).st 4 (.int .i64 2),h1⟩) fun e h =>
 some ⟨.rt,e,h⟩)
 (some ⟨.nm,e,h⟩)) fun e h =>
 sq (bd (ldn 2 h (e.s k88 2)) fun t15 =>
 bc k88 [15,16,6] e (K 140 [t15] h) fun t16 h1 =>
 some ⟨.nm,(ux88 e 6 t16).st 5 t16,h1⟩) fun e h =>
 sq (bd (fa 0 (e.s k88 2)) fun t17 =>
 bd (ld h t17) fun t18 =>
 bn (K 82 [t18] h) fun t19 h1 =>
 bd (fa 1 (e.s k88 2)) fun t20 =>
 bd (ld h1 t20) fun t21 =>
 bd (binK 0 .add t21 (.int .i64 1)) fun t22 =>
 bd (minV [t22,(.int .i64 32)]) fun t23 =>
 bd (bl [.nils,(.int .i64 0)] [(some (0,1),t19),(some (1,1),t23)]) fun t24 =>
 bf (nw h1 101 [.nils,(.int .i64 0)]) fun t7 h2 =>
 bf (stZ 2 h2 t7 t24) fun _ h3 =>
 ck (ld h t17) t18 (ck (ld h t20) t21 (ck (ld h1 t20) t21 (some ⟨.nm,(ux88 e 0 (e.s k88 0)).st 6 t7,h3⟩)))) fun e h =>
 sq (sq (bd (fa 0 (e.s k88 7)) fun t25 =>
 bd (ld h t25) fun t26 =>
 bd (fa 0 (e.s k88 2)) fun t27 =>
 bd (ld h t27) fun t28 =>
 bd (lnS t28) fun t29 =>
 bd (binK 0 .sub t29 (.int .i64 1)) fun t30 =>
 bd (slS 1 t26 none (some t30) none) fun t31 =>
 bd (lnS t31) fun t32 =>
 some ⟨.nm,(((ux88 e 33 (.int .i64 0)).st 9 t31).st 10 t32).st 11 (.int .i64 0),h⟩) fun e h =>
 blk 0 (L (l88_0 K L) e h)) fun e h =>
 sq (bd (ldn 2 h (e.s k88 7)) fun t63 =>
 bf (stZ 2 h (e.s k88 4) t63) fun _ h1 =>
 some ⟨.nm,(ux88 e 5 (.int .i64 0)).st 4 (.int .i64 0),h1⟩) fun e h =>
 some ⟨.rt,e,h⟩
def f88 (K:Oracle) (L:Looper) (p0 p1:V) (h:H):Option (Rv × H):=fin Tryz.prog k88 [.cell 4 101,.tmp 5] (s88 K L ⟨[p0,p1,V.und,V.und,V.und,V.und,V.und,V.und,V.und,V.und,V.und,V.und],0,p0⟩ h)
theorem r88:(fun K L p0 p1 h=>runFF Tryz.prog kp K L 88 [p0,p1] h)=f88:=by kernel_rfl
@[simp] def k89:List Nat:=[0,1,2,3,8,9,10,12,13,14,42,43]
@[simp] def ux89 (e:E) (t:Nat) (v:V):E:=⟨[e.s k89 0,e.s k89 1,e.s k89 2,e.s k89 3,e.s k89 8,e.s k89 9,e.s k89 10,e.s k89 12,e.s k89 13,e.s k89 14,e.s k89 42,e.s k89 43],t,v⟩
def l89_0 (K:Oracle) (L:Looper) (e:E) (h:H):Out :=
 sq (bd (binK 0 .lss (e.s k89 43) (.int .i64 2)) fun t44 =>
 some ⟨.nm,ux89 e 44 t44,h⟩) fun e h =>
 sq (br (e.s k89 44) (some ⟨.nm,e,h⟩)
 (some ⟨.ex 1,e,h⟩)) fun e h =>
 sq (blk 2 (sq (bd (ixN 2 2 (e.s k89 42) (e.s k89 43)) fun t45 =>
 bf (nw h 37 [(.int .i64 0),(.int .i64 0)]) fun t12 h1 =>
 bf (stZ 2 h1 t12 t45) fun _ h2 =>
 some ⟨.nm,(ux89 e 0 (e.s k89 0)).st 7 t12,h2⟩) fun e h =>
 sq (bd (iaA 2 1 (e.s k89 12) (.int .i64 0)) fun t48 =>
 bd (ld h t48) fun t49 =>
 bd (iaA 2 1 (e.s k89 12) (.int .i64 1)) fun t50 =>
 bd (ld h t50) fun t51 =>
 bc k89 [47,48,49,50,51,52,46,53,54,13,14] e (K 85 [e.s k89 0,t49,t51] h) fun t52 h1 =>
 bd (exV t52 0) fun t53 =>
 bd (exV t52 1) fun t54 =>
 bf (nw h1 42 [(.int .i64 0),(.int .i64 0),(.int .i64 0),(.int .i64 0),(.bool false),(.bool false),(.int .i64 0),(.int .i64 0),(.int .i64 0),(.int .i64 0),(.int .i64 0),(.int .i64 0),(.int .i64 0),(.bool false),(.int .i64 0),(.int .i64 0),(.int .i64 0),(.int .i64 0),(.int .i64 0),(.int .i64 0),(.int .i64 0),(.int .i64 0),(.bool false)]) fun t13 h2 =>
 bf (stZ 23 h2 t13 t53) fun _ h3 =>
 some ⟨.nm,((ux89 e 14 t54).st 8 t13).st 9 t54,h3⟩) fun e h =>
 sq (bd (gl (e.s k89 14) true (some (e.s k89 3))) fun t57 =>
 bd (gl (e.s k89 14) true (ldn 23 h (e.s k89 13))) fun t58 =>
 bc k89 [55,56,57,58,59,60] e (gk (e.s k89 14) true h (cdy K t57 [t58] h)) fun t59 h1 =>
 bd (pk (e.s k89 14) t59 (.bool false)) fun t60 =>
 some ⟨.nm,ux89 e 60 t60,h1⟩) fun e h =>
 br (e.s k89 60) (bd (binK 0 .add (e.s k89 10) (.int .i64 1)) fun t62 =>
 some ⟨.nm,(ux89 e 10 t62).st 6 t62,h⟩)
 (some ⟨.nm,e,h⟩))) fun e h =>
 bd (binK 0 .add (e.s k89 43) (.int .i64 1)) fun t63 =>
 some ⟨.nm,(ux89 e 43 t63).st 11 t63,h⟩
def s89 (K:Oracle) (L:Looper) (e:E) (h:H):Out :=
 sq (some ⟨.nm,((ux89 e 9 (.int .i64 0)).st 4 (.int .i64 0)).st 5 (.int .i64 0),h⟩) fun e h =>
 sq (blk 0 (sq (bc k89 [16,17,15] e (K 58 [e.s k89 0] h) fun t17 h1 =>
 some ⟨.nm,ux89 e 15 t17,h1⟩) fun e h =>
 br (e.s k89 15) (sq (some ⟨.nm,((ux89 e 9 (.int .i64 1)).st 4 (.int .i64 0)).st 5 (.int .i64 1),h⟩) fun e h =>
 some ⟨.rt,e,h⟩)
 (sq (bd (binK 0 .rem (e.s k89 1) (.int .i64 8)) fun t20 =>
 bd (binK 0 .neq t20 (.int .i64 0)) fun t21 =>
 bd (gl t21 false (some (e.s k89 2))) fun t23 =>
 bd (gl t21 false (binK 0 .rem t23 (.int .i64 8))) fun t24 =>
 bd (gl t21 false (binK 0 .neq t24 (.int .i64 0))) fun t25 =>
 bd (pk t21 (.bool true) t25) fun t26 =>
 bd (gl t26 false (some (e.s k89 0))) fun t28 =>
 bd (gl t26 false (some (e.s k89 1))) fun t29 =>
 bd (gl t26 false (some (e.s k89 2))) fun t30 =>
 bc k89 [19,20,21,22,23,24,25,26,27,28,29,30,31,32,33,18] e (gk t26 false h (K 60 [t28,t29,t30] h)) fun t31 h1 =>
 bd (gl t26 false (unV .not t31)) fun t32 =>
 bd (pk t26 (.bool true) t32) fun t33 =>
 some ⟨.nm,ux89 e 18 t33,h1⟩) fun e h =>
 br (e.s k89 18) (sq (some ⟨.nm,((ux89 e 9 (.int .i64 2)).st 4 (.int .i64 0)).st 5 (.int .i64 2),h⟩) fun e h =>
 some ⟨.rt,e,h⟩)
 (some ⟨.nm,e,h⟩)))) fun e h =>
 sq (some ⟨.nm,(ux89 e 10 (.int .i64 0)).st 6 (.int .i64 0),h⟩) fun e h =>
 sq (sq (bd (binK 0 .sub (e.s k89 1) (.int .i64 1)) fun t35 =>
 bd (bl [(.int .i64 0),(.int .i64 0)] [(some (0,1),t35),(some (1,1),(e.s k89 2))]) fun t37 =>
 bd (binK 0 .sub (e.s k89 2) (.int .i64 1)) fun t40 =>
 bd (bl [(.int .i64 0),(.int .i64 0)] [(some (0,1),(e.s k89 1)),(some (1,1),t40)]) fun t41 =>
 bd (bl [(.int .i64 0),(.int .i64 0),(.int .i64 0),(.int .i64 0)] [(some (0,2),t37),(some (2,2),t41)]) fun t42 =>
 some ⟨.nm,((ux89 e 43 (.int .i64 0)).st 10 t42).st 11 (.int .i64 0),h⟩) fun e h =>
 blk 1 (L (l89_0 K L) e h)) fun e h =>
 sq (some ⟨.nm,((ux89 e 9 (.int .i64 0)).st 4 (e.s k89 10)).st 5 (.int .i64 0),h⟩) fun e h =>
 some ⟨.rt,e,h⟩
def f89 (K:Oracle) (L:Looper) (p0 p1 p2 p3:V) (h:H):Option (Rv × H):=fin Tryz.prog k89 [.tmp 8,.tmp 9] (s89 K L ⟨[p0,p1,p2,p3,V.und,V.und,V.und,V.und,V.und,V.und,V.und,V.und],0,p0⟩ h)
theorem r89:(fun K L p0 p1 p2 p3 h=>runFF Tryz.prog kp K L 89 [p0,p1,p2,p3] h)=f89:=by kernel_rfl
@[simp] def k90:List Nat:=[0,1,2]
@[simp] def ux90 (e:E) (t:Nat) (v:V):E:=⟨[e.s k90 0,e.s k90 1,e.s k90 2],t,v⟩
def s90 (K:Oracle) (L:Looper) (e:E) (h:H):Out :=
 sq (bf (bx h 42 (e.s k90 0)) fun t1 h1 =>
 some ⟨.nm,((ux90 e 2 (.bool false)).st 1 t1).st 2 (.bool false),h1⟩) fun e h =>
 sq (bd (fa 4 (e.s k90 1)) fun t3 =>
 bd (ld h t3) fun t4 =>
 some ⟨.nm,(ux90 e 2 t4).st 2 t4,h⟩) fun e h =>
 some ⟨.rt,e,h⟩
def f90 (K:Oracle) (L:Looper) (p0:V) (h:H):Option (Rv × H):=fin Tryz.prog k90 [.tmp 2] (s90 K L ⟨[p0,V.und,V.und],0,p0⟩ h)
theorem r90:(fun K L p0 h=>runFF Tryz.prog kp K L 90 [p0] h)=f90:=by kernel_rfl
@[simp] def k91:List Nat:=[0,1,2]
@[simp] def ux91 (e:E) (t:Nat) (v:V):E:=⟨[e.s k91 0,e.s k91 1,e.s k91 2],t,v⟩
def s91 (K:Oracle) (L:Looper) (e:E) (h:H):Out :=
 sq (bf (bx h 42 (e.s k91 0)) fun t1 h1 =>
 some ⟨.nm,((ux91 e 2 (.bool false)).st 1 t1).st 2 (.bool false),h1⟩) fun e h =>
 sq (bd (fa 5 (e.s k91 1)) fun t3 =>
 bd (ld h t3) fun t4 =>
 some ⟨.nm,(ux91 e 2 t4).st 2 t4,h⟩) fun e h =>
 some ⟨.rt,e,h⟩
def f91 (K:Oracle) (L:Looper) (p0:V) (h:H):Option (Rv × H):=fin Tryz.prog k91 [.tmp 2] (s91 K L ⟨[p0,V.und,V.und],0,p0⟩ h)
theorem r91:(fun K L p0 h=>runFF Tryz.prog kp K L 91 [p0] h)=f91:=by kernel_rfl
@[simp] def k92:List Nat:=[0,2]
@[simp] def ux92 (e:E) (t:Nat) (v:V):E:=⟨[e.s k92 0,e.s k92 2],t,v⟩
def s92 (K:Oracle) (L:Looper) (e:E) (h:H):Out :=
 sq (some ⟨.nm,(ux92 e 2 (.bool false)).st 1 (.bool false),h⟩) fun e h =>
 sq (bc k92 [3,4,5,6,7,8,9,2] e (K 43 [e.s k92 0,(.int .i64 0),(.int .i64 248)] h) fun t4 h1 =>
 bd (gl t4 true (some (e.s k92 0))) fun t6 =>
 bd (gl t4 true (binK 0 .rem t6 (.int .i64 8))) fun t7 =>
 bd (gl t4 true (binK 0 .eql t7 (.int .i64 0))) fun t8 =>
 bd (pk t4 t8 (.bool false)) fun t9 =>
 some ⟨.nm,(ux92 e 2 t9).st 1 t9,h1⟩) fun e h =>
 some ⟨.rt,e,h⟩
def f92 (K:Oracle) (L:Looper) (p0:V) (h:H):Option (Rv × H):=fin Tryz.prog k92 [.tmp 2] (s92 K L ⟨[p0,V.und],0,p0⟩ h)
theorem r92:(fun K L p0 h=>runFF Tryz.prog kp K L 92 [p0] h)=f92:=by kernel_rfl
@[simp] def k93:List Nat:=[0,2]
@[simp] def ux93 (e:E) (t:Nat) (v:V):E:=⟨[e.s k93 0,e.s k93 2],t,v⟩
def s93 (K:Oracle) (L:Looper) (e:E) (h:H):Out :=
 sq (some ⟨.nm,(ux93 e 2 (.bool false)).st 1 (.bool false),h⟩) fun e h =>
 sq (bf (bs h 3 4 [(.int .i64 0),(.int .i64 0),(.int .i64 0),(.int .i64 0)] [(some (0,1),(.int .i64 8)),(some (1,1),(.int .i64 16)),(some (2,1),(.int .i64 32)),(some (3,1),(.int .i64 64))]) fun t3 h1 =>
 bc k93 [3,4,5,2] e (K 108 [t3,e.s k93 0] h1) fun t5 h2 =>
 some ⟨.nm,(ux93 e 2 t5).st 1 t5,h2⟩) fun e h =>
 some ⟨.rt,e,h⟩
def f93 (K:Oracle) (L:Looper) (p0:V) (h:H):Option (Rv × H):=fin Tryz.prog k93 [.tmp 2] (s93 K L ⟨[p0,V.und],0,p0⟩ h)
theorem r93:(fun K L p0 h=>runFF Tryz.prog kp K L 93 [p0] h)=f93:=by kernel_rfl
@[simp] def k94:List Nat:=[0,1,2]
@[simp] def ux94 (e:E) (t:Nat) (v:V):E:=⟨[e.s k94 0,e.s k94 1,e.s k94 2],t,v⟩
def s94 (K:Oracle) (L:Looper) (e:E) (h:H):Out :=
 sq (bf (bx h 42 (e.s k94 0)) fun t1 h1 =>
 some ⟨.nm,((ux94 e 2 (.int .i64 0)).st 1 t1).st 2 (.int .i64 0),h1⟩) fun e h =>
 sq (sq (bd (fa 13 (e.s k94 1)) fun t3 =>
 bd (ld h t3) fun t4 =>
 some ⟨.nm,ux94 e 4 t4,h⟩) fun e h =>
 br (e.s k94 4) (sq (some ⟨.nm,(ux94 e 2 (.int .i64 2)).st 2 (.int .i64 2),h⟩) fun e h =>
 some ⟨.rt,e,h⟩)
 (some ⟨.nm,e,h⟩)) fun e h =>
 sq (some ⟨.nm,(ux94 e 2 (.int .i64 1)).st 2 (.int .i64 1),h⟩) fun e h =>
 some ⟨.rt,e,h⟩
def f94 (K:Oracle) (L:Looper) (p0:V) (h:H):Option (Rv × H):=fin Tryz.prog k94 [.tmp 2] (s94 K L ⟨[p0,V.und,V.und],0,p0⟩ h)
theorem r94:(fun K L p0 h=>runFF Tryz.prog kp K L 94 [p0] h)=f94:=by kernel_rfl
@[simp] def k95:List Nat:=[0,1,2,4,6,7,8,9,10,12,13,15,16,94,95]
@[simp] def ux95 (e:E) (t:Nat) (v:V):E:=⟨[e.s k95 0,e.s k95 1,e.s k95 2,e.s k95 4,e.s k95 6,e.s k95 7,e.s k95 8,e.s k95 9,e.s k95 10,e.s k95 12,e.s k95 13,e.s k95 15,e.s k95 16,e.s k95 94,e.s k95 95],t,v⟩
def l95_0 (K:Oracle) (L:Looper) (e:E) (h:H):Out :=
 sq (bd (binK 0 .lss (e.s k95 95) (.int .i64 4)) fun t96 =>
 some ⟨.nm,ux95 e 96 t96,h⟩) fun e h =>
 sq (br (e.s k95 96) (some ⟨.nm,e,h⟩)
 (some ⟨.ex 1,e,h⟩)) fun e h =>
 sq (blk 2 (sq (bd (ixN 4 2 (e.s k95 94) (e.s k95 95)) fun t97 =>
 bf (nw h 37 [(.int .i64 0),(.int .i64 0)]) fun t12 h1 =>
 bf (stZ 2 h1 t12 t97) fun _ h2 =>
 some ⟨.nm,(ux95 e 0 (e.s k95 0)).st 9 t12,h2⟩) fun e h =>
 sq (bd (iaA 2 1 (e.s k95 12) (.int .i64 0)) fun t100 =>
 bd (ld h t100) fun t101 =>
 bd (iaA 2 1 (e.s k95 12) (.int .i64 1)) fun t102 =>
 bd (ld h t102) fun t103 =>
 bc k95 [99,100,101,102,103,104,98,105,106,13,14] e (K 85 [e.s k95 0,t101,t103] h) fun t104 h1 =>
 bd (exV t104 0) fun t105 =>
 bd (exV t104 1) fun t106 =>
 bf (nw h1 42 [(.int .i64 0),(.int .i64 0),(.int .i64 0),(.int .i64 0),(.bool false),(.bool false),(.int .i64 0),(.int .i64 0),(.int .i64 0),(.int .i64 0),(.int .i64 0),(.int .i64 0),(.int .i64 0),(.bool false),(.int .i64 0),(.int .i64 0),(.int .i64 0),(.int .i64 0),(.int .i64 0),(.int .i64 0),(.int .i64 0),(.int .i64 0),(.bool false)]) fun t13 h2 =>
 bf (stZ 23 h2 t13 t105) fun _ h3 =>
 some ⟨.nm,(ux95 e 14 t106).st 10 t13,h3⟩) fun e h =>
 sq (bd (ldn 23 h (e.s k95 13)) fun t108 =>
 bc k95 [108,109,110,107,111,112,15,16] e (K 141 [t108,e.s k95 2] h) fun t110 h1 =>
 bd (exV t110 0) fun t111 =>
 bd (exV t110 1) fun t112 =>
 bf (nw h1 39 [(.int .i64 0),(.int .i64 0)]) fun t15 h2 =>
 bf (stZ 2 h2 t15 t111) fun _ h3 =>
 some ⟨.nm,((ux95 e 16 t112).st 11 t15).st 12 t112,h3⟩) fun e h =>
 sq (bd (gl (e.s k95 16) true (some (e.s k95 10))) fun t115 =>
 bd (gl (e.s k95 16) true (binK 0 .lss t115 (.int .i64 2))) fun t116 =>
 bd (pk (e.s k95 16) t116 (.bool false)) fun t117 =>
 bd (gl t117 true (some (e.s k95 10))) fun t119 =>
 bd (gl t117 true (slA 2 2 (e.s k95 9) none (some t119) none)) fun t120 =>
 bd (gl t117 true (ldn 2 h (e.s k95 15))) fun t121 =>
 bn (gk t117 true h (K 142 [t120,t121] h)) fun t122 h1 =>
 bd (gl t117 true (unV .not t122)) fun t123 =>
 bd (pk t117 t123 (.bool false)) fun t124 =>
 ck (gl t117 true (ldn 2 h (e.s k95 15))) t121 (some ⟨.nm,ux95 e 124 t124,h1⟩)) fun e h =>
 br (e.s k95 124) (sq (bd (ldn 2 h (e.s k95 15)) fun t126 =>
 bd (iaA 2 2 (e.s k95 9) (e.s k95 10)) fun t127 =>
 bf (stZ 2 h t127 t126) fun _ h1 =>
 some ⟨.nm,ux95 e 0 (e.s k95 0),h1⟩) fun e h =>
 bd (binK 0 .add (e.s k95 10) (.int .i64 1)) fun t129 =>
 some ⟨.nm,(ux95 e 10 t129).st 8 t129,h⟩)
 (some ⟨.nm,e,h⟩))) fun e h =>
 bd (binK 0 .add (e.s k95 95) (.int .i64 1)) fun t130 =>
 some ⟨.nm,(ux95 e 95 t130).st 14 t130,h⟩
def s95 (K:Oracle) (L:Looper) (e:E) (h:H):Out :=
 sq (bf (bx h 36 (e.s k95 1)) fun t4 h1 =>
 bf (nw h1 40 [(.int .i64 0),(.int .i64 0),(.int .i64 0),(.int .i64 0)]) fun t6 h2 =>
 some ⟨.nm,((((ux95 e 8 (.int .i64 0)).st 3 t4).st 4 t6).st 5 (.int .i64 0)).st 6 (.int .i64 0),h2⟩) fun e h =>
 sq (bf (nw h 40 [(.int .i64 0),(.int .i64 0),(.int .i64 0),(.int .i64 0)]) fun t9 h1 =>
 some ⟨.nm,(ux95 e 9 t9).st 7 t9,h1⟩) fun e h =>
 sq (blk 0 (sq (bc k95 [18,19,17] e (K 58 [e.s k95 0] h) fun t19 h1 =>
 some ⟨.nm,ux95 e 17 t19,h1⟩) fun e h =>
 br (e.s k95 17) (sq (bd (ldn 4 h (e.s k95 9)) fun t20 =>
 bf (stZ 4 h (e.s k95 6) t20) fun _ h1 =>
 some ⟨.nm,((ux95 e 8 (.int .i64 1)).st 5 (.int .i64 0)).st 6 (.int .i64 1),h1⟩) fun e h =>
 some ⟨.rt,e,h⟩)
 (sq (bd (fa 0 (e.s k95 4)) fun t22 =>
 bd (ld h t22) fun t23 =>
 bd (binK 0 .rem t23 (.int .i64 8)) fun t24 =>
 bd (binK 0 .neq t24 (.int .i64 0)) fun t25 =>
 bd (gl t25 false (fa 1 (e.s k95 4))) fun t27 =>
 bd (gl t25 false (ld h t27)) fun t28 =>
 bd (gl t25 false (binK 0 .rem t28 (.int .i64 8))) fun t29 =>
 bd (gl t25 false (binK 0 .neq t29 (.int .i64 0))) fun t30 =>
 bd (pk t25 (.bool true) t30) fun t31 =>
 bd (gl t31 false (some (e.s k95 0))) fun t33 =>
 bd (gl t31 false (fa 0 (e.s k95 4))) fun t34 =>
 bd (gl t31 false (ld h t34)) fun t35 =>
 bd (gl t31 false (fa 1 (e.s k95 4))) fun t36 =>
 bd (gl t31 false (ld h t36)) fun t37 =>
 bc k95 [22,23,24,25,26,27,28,29,30,31,32,33,34,35,36,37,38,39,40,41,42,43,44,45,46,47,48,49,50,51,52,53,54,55,56,57,58,59,60,61,62,63,64,21] e (gk t31 false h (K 60 [t33,t35,t37] h)) fun t38 h1 =>
 bd (gl t31 false (unV .not t38)) fun t39 =>
 bd (pk t31 (.bool true) t39) fun t40 =>
 bd (gl t40 false (fa 2 (e.s k95 4))) fun t42 =>
 bd (gl t40 false (ld h1 t42)) fun t43 =>
 bd (gl t40 false (binK 0 .lss t43 (.int .i64 8))) fun t44 =>
 bd (pk t40 (.bool true) t44) fun t45 =>
 bd (gl t45 false (fa 2 (e.s k95 4))) fun t47 =>
 bd (gl t45 false (ld h1 t47)) fun t48 =>
 bd (gl t45 false (binK 0 .gtr t48 (.int .i64 64))) fun t49 =>
 bd (pk t45 (.bool true) t49) fun t50 =>
 bd (gl t50 false (fa 2 (e.s k95 4))) fun t52 =>
 bd (gl t50 false (ld h1 t52)) fun t53 =>
 bd (gl t50 false (binK 0 .rem t53 (.int .i64 8))) fun t54 =>
 bd (gl t50 false (binK 0 .neq t54 (.int .i64 0))) fun t55 =>
 bd (pk t50 (.bool true) t55) fun t56 =>
 bd (gl t56 false (some (e.s k95 2))) fun t58 =>
 bd (gl t56 false (binK 0 .lss t58 (.int .i64 0))) fun t59 =>
 bd (pk t56 (.bool true) t59) fun t60 =>
 bd (gl t60 false (some (e.s k95 2))) fun t62 =>
 bd (gl t60 false (binK 0 .gtr t62 (.int .i64 2))) fun t63 =>
 bd (pk t60 (.bool true) t63) fun t64 =>
 some ⟨.nm,ux95 e 21 t64,h1⟩) fun e h =>
 br (e.s k95 21) (sq (bd (ldn 4 h (e.s k95 9)) fun t65 =>
 bf (stZ 4 h (e.s k95 6) t65) fun _ h1 =>
 some ⟨.nm,((ux95 e 8 (.int .i64 2)).st 5 (.int .i64 0)).st 6 (.int .i64 2),h1⟩) fun e h =>
 some ⟨.rt,e,h⟩)
 (some ⟨.nm,e,h⟩)))) fun e h =>
 sq (some ⟨.nm,(ux95 e 10 (.int .i64 0)).st 8 (.int .i64 0),h⟩) fun e h =>
 sq (sq (bd (fa 0 (e.s k95 4)) fun t66 =>
 bd (ld h t66) fun t67 =>
 bd (binK 0 .sub t67 (.int .i64 1)) fun t68 =>
 bd (fa 1 (e.s k95 4)) fun t69 =>
 bd (ld h t69) fun t70 =>
 bd (bl [(.int .i64 0),(.int .i64 0)] [(some (0,1),t68),(some (1,1),t70)]) fun t71 =>
 bd (fa 0 (e.s k95 4)) fun t72 =>
 bd (ld h t72) fun t73 =>
 bd (fa 1 (e.s k95 4)) fun t74 =>
 bd (ld h t74) fun t75 =>
 bd (binK 0 .sub t75 (.int .i64 1)) fun t76 =>
 bd (bl [(.int .i64 0),(.int .i64 0)] [(some (0,1),t73),(some (1,1),t76)]) fun t77 =>
 bd (fa 0 (e.s k95 4)) fun t78 =>
 bd (ld h t78) fun t79 =>
 bd (fa 2 (e.s k95 4)) fun t80 =>
 bd (ld h t80) fun t81 =>
 bd (binK 0 .add t79 t81) fun t82 =>
 bd (fa 1 (e.s k95 4)) fun t83 =>
 bd (ld h t83) fun t84 =>
 bd (binK 0 .sub t84 (.int .i64 1)) fun t85 =>
 bd (bl [(.int .i64 0),(.int .i64 0)] [(some (0,1),t82),(some (1,1),t85)]) fun t86 =>
 bd (fa 0 (e.s k95 4)) fun t87 =>
 bd (ld h t87) fun t88 =>
 bd (binK 0 .sub t88 (.int .i64 1)) fun t89 =>
 bd (fa 1 (e.s k95 4)) fun t90 =>
 bd (ld h t90) fun t91 =>
 bd (binK 0 .sub t91 (.int .i64 1)) fun t92 =>
 bd (bl [(.int .i64 0),(.int .i64 0)] [(some (0,1),t89),(some (1,1),t92)]) fun t93 =>
 bd (bl [(.int .i64 0),(.int .i64 0),(.int .i64 0),(.int .i64 0),(.int .i64 0),(.int .i64 0),(.int .i64 0),(.int .i64 0)] [(some (0,2),t71),(some (2,2),t77),(some (4,2),t86),(some (6,2),t93)]) fun t94 =>
 some ⟨.nm,((ux95 e 95 (.int .i64 0)).st 13 t94).st 14 (.int .i64 0),h⟩) fun e h =>
 blk 1 (L (l95_0 K L) e h)) fun e h =>
 sq (bd (ldn 4 h (e.s k95 9)) fun t131 =>
 bf (stZ 4 h (e.s k95 6) t131) fun _ h1 =>
 some ⟨.nm,((ux95 e 8 (.int .i64 0)).st 5 (e.s k95 10)).st 6 (.int .i64 0),h1⟩) fun e h =>
 some ⟨.rt,e,h⟩
def f95 (K:Oracle) (L:Looper) (p0 p1 p2:V) (h:H):Option (Rv × H):=fin Tryz.prog k95 [.cell 6 40,.tmp 7,.tmp 8] (s95 K L ⟨[p0,p1,p2,V.und,V.und,V.und,V.und,V.und,V.und,V.und,V.und,V.und,V.und,V.und,V.und],0,p0⟩ h)
theorem r95:(fun K L p0 p1 p2 h=>runFF Tryz.prog kp K L 95 [p0,p1,p2] h)=f95:=by kernel_rfl
@[simp] def k96:List Nat:=[0,1,2]
@[simp] def ux96 (e:E) (t:Nat) (v:V):E:=⟨[e.s k96 0,e.s k96 1,e.s k96 2],t,v⟩
def s96 (K:Oracle) (L:Looper) (e:E) (h:H):Out :=
 sq (bf (bx h 42 (e.s k96 0)) fun t1 h1 =>
 bf (nw h1 36 [(.int .i64 0),(.int .i64 0),(.int .i64 0),(.int .i64 0)]) fun t2 h2 =>
 some ⟨.nm,((ux96 e 2 t2).st 1 t1).st 2 t2,h2⟩) fun e h =>
 sq (bd (fa 0 (e.s k96 1)) fun t3 =>
 bd (ld h t3) fun t4 =>
 bd (fa 1 (e.s k96 1)) fun t5 =>
 bd (ld h t5) fun t6 =>
 bd (fa 2 (e.s k96 1)) fun t7 =>
 bd (ld h t7) fun t8 =>
 bd (fa 3 (e.s k96 1)) fun t9 =>
 bd (ld h t9) fun t10 =>
 bd (bl [(.int .i64 0),(.int .i64 0),(.int .i64 0),(.int .i64 0)] [(some (0,1),t4),(some (1,1),t6),(some (2,1),t8),(some (3,1),t10)]) fun t11 =>
 bf (stZ 4 h (e.s k96 2) t11) fun _ h1 =>
 some ⟨.nm,ux96 e 0 (e.s k96 0),h1⟩) fun e h =>
 some ⟨.rt,e,h⟩
def f96 (K:Oracle) (L:Looper) (p0:V) (h:H):Option (Rv × H):=fin Tryz.prog k96 [.cell 2 36] (s96 K L ⟨[p0,V.und,V.und],0,p0⟩ h)
theorem r96:(fun K L p0 h=>runFF Tryz.prog kp K L 96 [p0] h)=f96:=by kernel_rfl
@[simp] def k97:List Nat:=[0,1,3,4,5]
@[simp] def ux97 (e:E) (t:Nat) (v:V):E:=⟨[e.s k97 0,e.s k97 1,e.s k97 3,e.s k97 4,e.s k97 5],t,v⟩
def s97 (K:Oracle) (L:Looper) (e:E) (h:H):Out :=
 sq (bf (bx h 40 (e.s k97 1)) fun t3 h1 =>
 bf (nw h1 39 [(.int .i64 0),(.int .i64 0)]) fun t4 h2 =>
 some ⟨.nm,((ux97 e 4 t4).st 2 t3).st 3 t4,h2⟩) fun e h =>
 sq (sq (some ⟨.nm,(ux97 e 5 (e.s k97 0)).st 4 (e.s k97 0),h⟩) fun e h =>
 blk 0 (sq (bd (binK 0 .eql (e.s k97 5) (.int .i64 1)) fun t7 =>
 some ⟨.nm,ux97 e 6 t7,h⟩) fun e h =>
 br (e.s k97 6) (sq (bd (iaA 2 2 (e.s k97 3) (.int .i64 1)) fun t8 =>
 bd (ldn 2 h t8) fun t9 =>
 bf (stZ 2 h (e.s k97 4) t9) fun _ h1 =>
 some ⟨.nm,ux97 e 0 (e.s k97 0),h1⟩) fun e h =>
 some ⟨.rt,e,h⟩)
 (sq (bd (binK 0 .eql (e.s k97 5) (.int .i64 2)) fun t11 =>
 some ⟨.nm,ux97 e 10 t11,h⟩) fun e h =>
 br (e.s k97 10) (sq (bd (bl [(.int .i64 0),(.int .i64 0)] []) fun t12 =>
 bf (stZ 2 h (e.s k97 4) t12) fun _ h1 =>
 some ⟨.nm,ux97 e 0 (e.s k97 0),h1⟩) fun e h =>
 some ⟨.rt,e,h⟩)
 (some ⟨.nm,e,h⟩)))) fun e h =>
 sq (bd (iaA 2 2 (e.s k97 3) (.int .i64 0)) fun t13 =>
 bd (ldn 2 h t13) fun t14 =>
 bf (stZ 2 h (e.s k97 4) t14) fun _ h1 =>
 some ⟨.nm,ux97 e 0 (e.s k97 0),h1⟩) fun e h =>
 some ⟨.rt,e,h⟩
def f97 (K:Oracle) (L:Looper) (p0 p1:V) (h:H):Option (Rv × H):=fin Tryz.prog k97 [.cell 4 39] (s97 K L ⟨[p0,p1,V.und,V.und,V.und],0,p0⟩ h)
theorem r97:(fun K L p0 p1 h=>runFF Tryz.prog kp K L 97 [p0,p1] h)=f97:=by kernel_rfl
@[simp] def k98:List Nat:=[0,1,2,3,4,10]
@[simp] def ux98 (e:E) (t:Nat) (v:V):E:=⟨[e.s k98 0,e.s k98 1,e.s k98 2,e.s k98 3,e.s k98 4,e.s k98 10],t,v⟩
def s98 (K:Oracle) (L:Looper) (e:E) (h:H):Out :=
 sq (sq (bd (nilC (e.s k98 0)) fun t12 =>
 bd (fa 1 t12) fun t13 =>
 bd (ld h t13) fun t14 =>
 bd (binK 0 .neq t14 (.int .i64 0)) fun t15 =>
 some ⟨.nm,ux98 e 15 t15,h⟩) fun e h =>
 br (e.s k98 15) (some ⟨.rt,e,h⟩)
 (some ⟨.nm,e,h⟩)) fun e h =>
 sq (some ⟨.nm,(ux98 e 10 (.int .i64 0)).st 5 (.int .i64 0),h⟩) fun e h =>
 sq (bd (some (e.s k98 0)) fun t18 =>
 bd (nilC t18) fun t19 =>
 bd (fa 0 t19) fun t20 =>
 bd (ld h t20) fun t21 =>
 bd (some (e.s k98 1)) fun t22 =>
 bd (some (e.s k98 2)) fun t23 =>
 bd (some (e.s k98 4)) fun t24 =>
 bd (nilC t24) fun t25 =>
 bd (ld h t25) fun t26 =>
 bd (some (e.s k98 3)) fun t27 =>
 bd (binK 0 .sub t26 t27) fun t28 =>
 bk (K 44 [t21,t22,t23,t28] h) (fun tp hp =>
 bd (some (e.s k98 0)) fun t17 =>
 some ⟨.pn tp,fgE k98 [17,18,19,20,21,22,23,24,25,26,27,28,29,16,30,31,10,32,33] e,hp⟩) fun _ _ =>
 bd (nilC (e.s k98 0)) fun t19 =>
 bd (fa 0 t19) fun t20 =>
 bd (ld h t20) fun t21 =>
 bd (nilC (e.s k98 4)) fun t25 =>
 bd (ld h t25) fun t26 =>
 bd (binK 0 .sub t26 (e.s k98 3)) fun t28 =>
 bn (K 44 [t21,e.s k98 1,e.s k98 2,t28] h) fun t29 h1 =>
 bd (exV t29 0) fun t30 =>
 bd (exV t29 1) fun t31 =>
 bd (nilC (e.s k98 0)) fun t32 =>
 bd (fa 1 t32) fun t33 =>
 bf (stZ 1 h1 t33 t31) fun _ h2 =>
 ck (ld h t20) t21 (ck (ld h t25) t26 (some ⟨.nm,(ux98 e 0 (e.s k98 0)).st 5 t30,h2⟩))) fun e h =>
 sq (bd (nilC (e.s k98 0)) fun t35 =>
 bd (fa 1 t35) fun t36 =>
 bd (ld h t36) fun t37 =>
 bd (binK 0 .eql t37 (.int .i64 0)) fun t38 =>
 some ⟨.nm,ux98 e 38 t38,h⟩) fun e h =>
 br (e.s k98 38) (bd (binK 0 .add (e.s k98 10) (e.s k98 3)) fun t42 =>
 bd (nilC (e.s k98 4)) fun t43 =>
 bf (stZ 1 h t43 t42) fun _ h1 =>
 some ⟨.nm,ux98 e 0 (e.s k98 0),h1⟩)
 (some ⟨.nm,e,h⟩)
def f98 (K:Oracle) (L:Looper) (p0 p1 p2 p3 p4:V) (h:H):Option (Rv × H):=fin Tryz.prog k98 [] (s98 K L ⟨[p0,p1,p2,p3,p4,V.und],0,p0⟩ h)
theorem r98:(fun K L p0 p1 p2 p3 p4 h=>runFF Tryz.prog kp K L 98 [p0,p1,p2,p3,p4] h)=f98:=by kernel_rfl
@[simp] def k99:List Nat:=[0,1,2,3,4]
@[simp] def ux99 (e:E) (t:Nat) (v:V):E:=⟨[e.s k99 0,e.s k99 1,e.s k99 2,e.s k99 3,e.s k99 4],t,v⟩
def s99 (K:Oracle) (L:Looper) (e:E) (h:H):Out :=
 sq (bc k99 [10,11,12,13,14] e (K 98 [e.s k99 0,e.s k99 1,e.s k99 2,(.int .i64 0),e.s k99 3] h) fun t14 h1 =>
 some ⟨.nm,ux99 e 14 t14,h1⟩) fun e h =>
 sq (bd (nilC (e.s k99 3)) fun t16 =>
 bd (ld h t16) fun t17 =>
 bc k99 [15,16,17,18,19,20,21,22,23,24,25] e (K 107 [t17] h) fun t18 h1 =>
 bd (gl t18 true (some (e.s k99 0))) fun t20 =>
 bd (gl t18 true (nilC t20)) fun t21 =>
 bd (gl t18 true (fa 1 t21)) fun t22 =>
 bd (gl t18 true (ld h1 t22)) fun t23 =>
 bd (gl t18 true (binK 0 .eql t23 (.int .i64 0))) fun t24 =>
 bd (pk t18 t24 (.bool false)) fun t25 =>
 some ⟨.nm,ux99 e 25 t25,h1⟩) fun e h =>
 br (e.s k99 25) (bd (nilC (e.s k99 3)) fun t28 =>
 bd (ld h t28) fun t29 =>
 bd (binK 0 .sub t29 (.int .i64 1)) fun t30 =>
 bc k99 [26,27,28,29,30,31,32] e (K 98 [e.s k99 0,(.int .i64 5),t30,(.int .i64 (-3)),e.s k99 4] h) fun t32 h1 =>
 some ⟨.nm,ux99 e 32 t32,h1⟩)
 (some ⟨.nm,e,h⟩)
def f99 (K:Oracle) (L:Looper) (p0 p1 p2 p3 p4:V) (h:H):Option (Rv × H):=fin Tryz.prog k99 [] (s99 K L ⟨[p0,p1,p2,p3,p4],0,p0⟩ h)
theorem r99:(fun K L p0 p1 p2 p3 p4 h=>runFF Tryz.prog kp K L 99 [p0,p1,p2,p3,p4] h)=f99:=by kernel_rfl
@[simp] def k100:List Nat:=[0,2]
@[simp] def ux100 (e:E) (t:Nat) (v:V):E:=⟨[e.s k100 0,e.s k100 2],t,v⟩
def s100 (K:Oracle) (L:Looper) (e:E) (h:H):Out :=
 sq (some ⟨.nm,(ux100 e 2 (.int .i64 0)).st 1 (.int .i64 0),h⟩) fun e h =>
 sq (bd (cv .u64 (e.s k100 0)) fun t4 =>
 bc k100 [3,4,5,6,2] e (K 143 [t4] h) fun t5 h1 =>
 bd (binK 0 .sub t5 (.int .i64 1)) fun t6 =>
 some ⟨.nm,(ux100 e 2 t6).st 1 t6,h1⟩) fun e h =>
 some ⟨.rt,e,h⟩
def f100 (K:Oracle) (L:Looper) (p0:V) (h:H):Option (Rv × H):=fin Tryz.prog k100 [.tmp 2] (s100 K L ⟨[p0,V.und],0,p0⟩ h)
theorem r100:(fun K L p0 h=>runFF Tryz.prog kp K L 100 [p0] h)=f100:=by kernel_rfl
@[simp] def k101:List Nat:=[0,1,2]
@[simp] def ux101 (e:E) (t:Nat) (v:V):E:=⟨[e.s k101 0,e.s k101 1,e.s k101 2],t,v⟩
def s101 (K:Oracle) (L:Looper) (e:E) (h:H):Out :=
 sq (bf (bx h 42 (e.s k101 0)) fun t1 h1 =>
 some ⟨.nm,((ux101 e 2 (.int .i64 0)).st 1 t1).st 2 (.int .i64 0),h1⟩) fun e h =>
 sq (bd (fa 2 (e.s k101 1)) fun t3 =>
 bd (ld h t3) fun t4 =>
 bd (fa 3 (e.s k101 1)) fun t5 =>
 bd (ld h t5) fun t6 =>
 bd (minV [t4,t6]) fun t7 =>
 some ⟨.nm,(ux101 e 2 t7).st 2 t7,h⟩) fun e h =>
 some ⟨.rt,e,h⟩
def f101 (K:Oracle) (L:Looper) (p0:V) (h:H):Option (Rv × H):=fin Tryz.prog k101 [.tmp 2] (s101 K L ⟨[p0,V.und,V.und],0,p0⟩ h)
theorem r101:(fun K L p0 h=>runFF Tryz.prog kp K L 101 [p0] h)=f101:=by kernel_rfl
@[simp] def k102:List Nat:=[0,1,2]
@[simp] def ux102 (e:E) (t:Nat) (v:V):E:=⟨[e.s k102 0,e.s k102 1,e.s k102 2],t,v⟩
def s102 (K:Oracle) (L:Looper) (e:E) (h:H):Out :=
 sq (bf (bx h 42 (e.s k102 0)) fun t1 h1 =>
 some ⟨.nm,((ux102 e 2 (.bool false)).st 1 t1).st 2 (.bool false),h1⟩) fun e h =>
 sq (bd (fa 2 (e.s k102 1)) fun t3 =>
 bd (ld h t3) fun t4 =>
 bd (fa 3 (e.s k102 1)) fun t5 =>
 bd (ld h t5) fun t6 =>
 bd (maxV [t4,t6]) fun t7 =>
 bd (binK 0 .leq t7 (.int .i64 32)) fun t8 =>
 some ⟨.nm,(ux102 e 2 t8).st 2 t8,h⟩) fun e h =>
 some ⟨.rt,e,h⟩
def f102 (K:Oracle) (L:Looper) (p0:V) (h:H):Option (Rv × H):=fin Tryz.prog k102 [.tmp 2] (s102 K L ⟨[p0,V.und,V.und],0,p0⟩ h)
theorem r102:(fun K L p0 h=>runFF Tryz.prog kp K L 102 [p0] h)=f102:=by kernel_rfl
@[simp] def k103:List Nat:=[0,1,4,5,6,7,8,29,30]
@[simp] def ux103 (e:E) (t:Nat) (v:V):E:=⟨[e.s k103 0,e.s k103 1,e.s k103 4,e.s k103 5,e.s k103 6,e.s k103 7,e.s k103 8,e.s k103 29,e.s k103 30],t,v⟩
def l103_0 (K:Oracle) (L:Looper) (e:E) (h:H):Out :=
 sq (bd (binK 0 .lss (e.s k103 30) (.int .i64 2)) fun t31 =>
 some ⟨.nm,ux103 e 31 t31,h⟩) fun e h =>
 sq (br (e.s k103 31) (some ⟨.nm,e,h⟩)
 (some ⟨.ex 0,e,h⟩)) fun e h =>
 sq (blk 1 (sq (bd (ixA 2 1 (e.s k103 29) (e.s k103 30)) fun t33 =>
 some ⟨.nm,((ux103 e 6 t33).st 3 (e.s k103 30)).st 4 t33,h⟩) fun e h =>
 sq (bd (ld h (e.s k103 4)) fun t34 =>
 bd (binK 0 .quo t34 (.int .i64 3)) fun t35 =>
 bd (ld h (e.s k103 4)) fun t36 =>
 bd (binK 0 .rem t36 (.int .i64 3)) fun t37 =>
 bd (bl [(.int .i64 0),(.int .i64 0)] [(some (0,1),t35),(some (1,1),t37)]) fun t38 =>
 bd (ixA 2 1 t38 (e.s k103 5)) fun t40 =>
 some ⟨.nm,(ux103 e 7 t40).st 5 t40,h⟩) fun e h =>
 sq (bd (nilC (e.s k103 6)) fun t42 =>
 bd (ld h t42) fun t43 =>
 bd (nilC (e.s k103 6)) fun t45 =>
 bd (ld h t45) fun t46 =>
 bd (unV .neg t46) fun t47 =>
 bd (maxV [t43,t47,(.int .i64 1)]) fun t48 =>
 bf (nw h 3 [(.int .i64 0)]) fun t8 h1 =>
 bf (stZ 1 h1 t8 t48) fun _ h2 =>
 ck (ld h t42) t43 (ck (ld h t45) t46 (some ⟨.nm,(ux103 e 0 (e.s k103 0)).st 6 t8,h2⟩))) fun e h =>
 sq (sq (bd (binK 0 .neq (e.s k103 7) (.int .i64 0)) fun t50 =>
 some ⟨.nm,ux103 e 50 t50,h⟩) fun e h =>
 br (e.s k103 50) (bc k103 [51,52,53] e (K 98 [e.s k103 0,(.int .i64 9),e.s k103 5,(.int .i64 1),e.s k103 8] h) fun t53 h1 =>
 some ⟨.nm,ux103 e 53 t53,h1⟩)
 (some ⟨.nm,e,h⟩)) fun e h =>
 bd (ld h (e.s k103 8)) fun t55 =>
 bd (unV .neg t55) fun t56 =>
 bd (ld h (e.s k103 8)) fun t57 =>
 bd (bl [(.int .i64 0),(.int .i64 0),(.int .i64 0)] [(some (0,1),(.int .i64 0)),(some (1,1),t56),(some (2,1),t57)]) fun t58 =>
 bd (ixA 3 1 t58 (e.s k103 7)) fun t60 =>
 bd (nilC (e.s k103 6)) fun t61 =>
 bf (stZ 1 h t61 t60) fun _ h1 =>
 some ⟨.nm,ux103 e 0 (e.s k103 0),h1⟩)) fun e h =>
 bd (binK 0 .add (e.s k103 30) (.int .i64 1)) fun t62 =>
 some ⟨.nm,(ux103 e 30 t62).st 8 t62,h⟩
def s103 (K:Oracle) (L:Looper) (e:E) (h:H):Out :=
 sq (bd (nilC (e.s k103 1)) fun t10 =>
 bd (fa 10 t10) fun t11 =>
 bd (ld h t11) fun t12 =>
 bn (K 144 [t12] h) fun t13 h1 =>
 bd (nilC (e.s k103 1)) fun t16 =>
 bd (fa 11 t16) fun t17 =>
 bd (ld h1 t17) fun t18 =>
 bn (K 144 [t18] h1) fun t19 h2 =>
 bd (binK 0 .mul (.int .i64 3) t13) fun t14 =>
 bd (binK 0 .add t14 t19) fun t20 =>
 bf (nw h2 3 [(.int .i64 0)]) fun t4 h3 =>
 bf (stZ 1 h3 t4 t20) fun _ h4 =>
 ck (ld h t11) t12 (ck (ld h t17) t18 (ck (ld h1 t17) t18 (some ⟨.nm,(ux103 e 0 (e.s k103 0)).st 2 t4,h4⟩)))) fun e h =>
 sq (bc k103 [21,22] e (K 98 [e.s k103 0,(.int .i64 8),(.int .i64 0),(.int .i64 1),e.s k103 4] h) fun t22 h1 =>
 some ⟨.nm,ux103 e 22 t22,h1⟩) fun e h =>
 sq (bd (nilC (e.s k103 1)) fun t24 =>
 bd (fa 10 t24) fun t25 =>
 bd (nilC (e.s k103 1)) fun t27 =>
 bd (fa 11 t27) fun t28 =>
 bd (bl [.nilp,.nilp] [(some (0,1),t25),(some (1,1),t28)]) fun t29 =>
 some ⟨.nm,((ux103 e 30 (.int .i64 0)).st 7 t29).st 8 (.int .i64 0),h⟩) fun e h =>
 blk 0 (L (l103_0 K L) e h)
def f103 (K:Oracle) (L:Looper) (p0 p1:V) (h:H):Option (Rv × H):=fin Tryz.prog k103 [] (s103 K L ⟨[p0,p1,V.und,V.und,V.und,V.und,V.und,V.und,V.und],0,p0⟩ h)
theorem r103:(fun K L p0 p1 h=>runFF Tryz.prog kp K L 103 [p0,p1] h)=f103:=by kernel_rfl
@[simp] def k104:List Nat:=[0,1,2,3,6,8,9,10]
@[simp] def ux104 (e:E) (t:Nat) (v:V):E:=⟨[e.s k104 0,e.s k104 1,e.s k104 2,e.s k104 3,e.s k104 6,e.s k104 8,e.s k104 9,e.s k104 10],t,v⟩
def s104 (K:Oracle) (L:Looper) (e:E) (h:H):Out :=
 sq (bf (bx h 40 (e.s k104 2)) fun t6 h1 =>
 some ⟨.nm,(ux104 e 6 t6).st 4 t6,h1⟩) fun e h =>
 sq (bd (ldn 4 h (e.s k104 6)) fun t12 =>
 bc k104 [11,12,13,8] e (K 97 [e.s k104 1,t12] h) fun t13 h1 =>
 bf (nw h1 39 [(.int .i64 0),(.int .i64 0)]) fun t8 h2 =>
 bf (stZ 2 h2 t8 t13) fun _ h3 =>
 some ⟨.nm,(ux104 e 0 (e.s k104 0)).st 5 t8,h3⟩) fun e h =>
 sq (sq (bd (binK 0 .neq (e.s k104 1) (.int .i64 3)) fun t15 =>
 some ⟨.nm,ux104 e 15 t15,h⟩) fun e h =>
 br (e.s k104 15) (sq (bd (ldn 2 h (e.s k104 8)) fun t17 =>
 bd (nilC (e.s k104 3)) fun t18 =>
 bf (stZ 2 h t18 t17) fun _ h1 =>
 some ⟨.nm,ux104 e 0 (e.s k104 0),h1⟩) fun e h =>
 some ⟨.rt,e,h⟩)
 (some ⟨.nm,e,h⟩)) fun e h =>
 sq (bf (nw h 3 [(.int .i64 0)]) fun t9 h1 =>
 bf (stZ 1 h1 t9 (.int .i64 0)) fun _ h2 =>
 some ⟨.nm,(ux104 e 0 (e.s k104 0)).st 6 t9,h2⟩) fun e h =>
 sq (sq (bd (nilC (e.s k104 3)) fun t20 =>
 bd (fa 0 t20) fun t21 =>
 bd (ld h t21) fun t22 =>
 bd (fa 0 (e.s k104 8)) fun t23 =>
 bd (ld h t23) fun t24 =>
 bd (binK 0 .neq t22 t24) fun t25 =>
 ck (ld h t21) t22 (ck (ld h t23) t24 (some ⟨.nm,ux104 e 25 t25,h⟩))) fun e h =>
 br (e.s k104 25) (bf (stZ 1 h (e.s k104 9) (.int .i64 1)) fun _ h1 =>
 some ⟨.nm,ux104 e 0 (e.s k104 0),h1⟩)
 (some ⟨.nm,e,h⟩)) fun e h =>
 sq (sq (bd (nilC (e.s k104 3)) fun t27 =>
 bd (fa 1 t27) fun t28 =>
 bd (ld h t28) fun t29 =>
 bd (fa 1 (e.s k104 8)) fun t30 =>
 bd (ld h t30) fun t31 =>
 bd (binK 0 .neq t29 t31) fun t32 =>
 ck (ld h t28) t29 (ck (ld h t30) t31 (some ⟨.nm,ux104 e 32 t32,h⟩))) fun e h =>
 br (e.s k104 32) (bd (ld h (e.s k104 9)) fun t33 =>
 bd (binK 0 .add t33 (.int .i64 2)) fun t34 =>
 bf (stZ 1 h (e.s k104 9) t34) fun _ h1 =>
 some ⟨.nm,ux104 e 0 (e.s k104 0),h1⟩)
 (some ⟨.nm,e,h⟩)) fun e h =>
 sq (bc k104 [35,36] e (K 98 [e.s k104 0,(.int .i64 17),(.int .i64 0),(.int .i64 0),e.s k104 9] h) fun t36 h1 =>
 some ⟨.nm,ux104 e 36 t36,h1⟩) fun e h =>
 sq (bd (nilC (e.s k104 3)) fun t38 =>
 bd (fa 0 t38) fun t39 =>
 bd (ld h t39) fun t40 =>
 bd (fa 0 (e.s k104 8)) fun t41 =>
 bd (ld h t41) fun t42 =>
 bd (binK 0 .sub t40 t42) fun t43 =>
 bd (nilC (e.s k104 3)) fun t45 =>
 bd (fa 1 t45) fun t46 =>
 bd (ld h t46) fun t47 =>
 bd (fa 1 (e.s k104 8)) fun t48 =>
 bd (ld h t48) fun t49 =>
 bd (binK 0 .sub t47 t49) fun t50 =>
 bd (bl [(.int .i64 0),(.int .i64 0)] [(some (0,1),t43),(some (1,1),t50)]) fun t51 =>
 bf (nw h 39 [(.int .i64 0),(.int .i64 0)]) fun t10 h1 =>
 bf (stZ 2 h1 t10 t51) fun _ h2 =>
 ck (ld h t39) t40 (ck (ld h t41) t42 (ck (ld h t46) t47 (ck (ld h t48) t49 (some ⟨.nm,(ux104 e 0 (e.s k104 0)).st 7 t10,h2⟩))))) fun e h =>
 sq (bd (ldn 2 h (e.s k104 8)) fun t53 =>
 bd (nilC (e.s k104 3)) fun t54 =>
 bf (stZ 2 h t54 t53) fun _ h1 =>
 some ⟨.nm,ux104 e 0 (e.s k104 0),h1⟩) fun e h =>
 sq (sq (bd (ld h (e.s k104 9)) fun t55 =>
 bd (binK 0 .and t55 (.int .i64 1)) fun t56 =>
 bd (binK 0 .neq t56 (.int .i64 0)) fun t57 =>
 some ⟨.nm,ux104 e 57 t57,h⟩) fun e h =>
 br (e.s k104 57) (bd (some (e.s k104 0)) fun t62 =>
 bd (fa 0 (e.s k104 10)) fun t63 =>
 bd (ld h t63) fun t64 =>
 bk (K 145 [t62,(.int .i64 0),t64] h) (fun tp hp =>
 bd (some (e.s k104 3)) fun t58 =>
 bd (nilC t58) fun t59 =>
 bd (fa 0 t59) fun t60 =>
 bd (ld h t60) fun t61 =>
 some ⟨.pn tp,fgE k104 [58,59,60,61,62,63,64,65,66,67,68] e,hp⟩) fun _ _ =>
 bd (fa 0 (e.s k104 10)) fun t63 =>
 bd (ld h t63) fun t64 =>
 bn (K 145 [e.s k104 0,(.int .i64 0),t64] h) fun t65 h1 =>
 bd (nilC (e.s k104 3)) fun t59 =>
 bd (fa 0 t59) fun t60 =>
 bd (ld h1 t60) fun t61 =>
 bd (binK 0 .add t61 t65) fun t66 =>
 bd (nilC (e.s k104 3)) fun t67 =>
 bd (fa 0 t67) fun t68 =>
 bf (stZ 1 h1 t68 t66) fun _ h2 =>
 ck (ld h t60) t61 (ck (ld h1 t60) t61 (ck (ld h t63) t64 (some ⟨.nm,ux104 e 0 (e.s k104 0),h2⟩))))
 (some ⟨.nm,e,h⟩)) fun e h =>
 sq (sq (bd (ld h (e.s k104 9)) fun t69 =>
 bd (binK 0 .and t69 (.int .i64 2)) fun t70 =>
 bd (binK 0 .neq t70 (.int .i64 0)) fun t71 =>
 some ⟨.nm,ux104 e 71 t71,h⟩) fun e h =>
 br (e.s k104 71) (bd (some (e.s k104 0)) fun t76 =>
 bd (fa 1 (e.s k104 10)) fun t77 =>
 bd (ld h t77) fun t78 =>
 bk (K 145 [t76,(.int .i64 1),t78] h) (fun tp hp =>
 bd (some (e.s k104 3)) fun t72 =>
 bd (nilC t72) fun t73 =>
 bd (fa 1 t73) fun t74 =>
 bd (ld h t74) fun t75 =>
 some ⟨.pn tp,fgE k104 [72,73,74,75,76,77,78,79,80,81,82] e,hp⟩) fun _ _ =>
 bd (fa 1 (e.s k104 10)) fun t77 =>
 bd (ld h t77) fun t78 =>
 bn (K 145 [e.s k104 0,(.int .i64 1),t78] h) fun t79 h1 =>
 bd (nilC (e.s k104 3)) fun t73 =>
 bd (fa 1 t73) fun t74 =>
 bd (ld h1 t74) fun t75 =>
 bd (binK 0 .add t75 t79) fun t80 =>
 bd (nilC (e.s k104 3)) fun t81 =>
 bd (fa 1 t81) fun t82 =>
 bf (stZ 1 h1 t82 t80) fun _ h2 =>
 ck (ld h t74) t75 (ck (ld h1 t74) t75 (ck (ld h t77) t78 (some ⟨.nm,ux104 e 0 (e.s k104 0),h2⟩))))
 (some ⟨.nm,e,h⟩)) fun e h =>
 sq (bd (nilC (e.s k104 0)) fun t84 =>
 bd (fa 1 t84) fun t85 =>
 bd (ld h t85) fun t86 =>
 bd (binK 0 .eql t86 (.int .i64 0)) fun t87 =>
 bd (gl t87 true (some (e.s k104 3))) fun t89 =>
 bd (gl t87 true (nilC t89)) fun t90 =>
 bd (gl t87 true (ldn 2 h t90)) fun t91 =>
 bc k104 [83,84,85,86,87,88,89,90,91,92,93,94] e (gk t87 true h (K 105 [t91] h)) fun t92 h1 =>
 bd (gl t87 true (unV .not t92)) fun t93 =>
 bd (pk t87 t93 (.bool false)) fun t94 =>
 some ⟨.nm,ux104 e 94 t94,h1⟩) fun e h =>
 br (e.s k104 94) (bd (nilC (e.s k104 0)) fun t96 =>
 bd (fa 1 t96) fun t97 =>
 bf (stZ 1 h t97 (.int .i64 4)) fun _ h1 =>
 some ⟨.nm,ux104 e 0 (e.s k104 0),h1⟩)
 (some ⟨.nm,e,h⟩)
def f104 (K:Oracle) (L:Looper) (p0 p1 p2 p3:V) (h:H):Option (Rv × H):=fin Tryz.prog k104 [] (s104 K L ⟨[p0,p1,p2,p3,V.und,V.und,V.und,V.und],0,p0⟩ h)
theorem r104:(fun K L p0 p1 p2 p3 h=>runFF Tryz.prog kp K L 104 [p0,p1,p2,p3] h)=f104:=by kernel_rfl
@[simp] def k105:List Nat:=[0,1,2]
@[simp] def ux105 (e:E) (t:Nat) (v:V):E:=⟨[e.s k105 0,e.s k105 1,e.s k105 2],t,v⟩
def s105 (K:Oracle) (L:Looper) (e:E) (h:H):Out :=
 sq (bf (bx h 39 (e.s k105 0)) fun t1 h1 =>
 some ⟨.nm,((ux105 e 2 (.bool false)).st 1 t1).st 2 (.bool false),h1⟩) fun e h =>
 sq (bd (fa 0 (e.s k105 1)) fun t3 =>
 bd (ld h t3) fun t4 =>
 bc k105 [3,4,5,6,7,8,9,10,2] e (K 43 [t4,(.int .i64 (-4095)),(.int .i64 4095)] h) fun t5 h1 =>
 bd (gl t5 true (fa 1 (e.s k105 1))) fun t7 =>
 bd (gl t5 true (ld h1 t7)) fun t8 =>
 bc k105 [3,4,5,6,7,8,9,10,2] e (gk t5 true h1 (K 43 [t8,(.int .i64 (-4095)),(.int .i64 4095)] h1)) fun t9 h2 =>
 bd (pk t5 t9 (.bool false)) fun t10 =>
 some ⟨.nm,(ux105 e 2 t10).st 2 t10,h2⟩) fun e h =>
 some ⟨.rt,e,h⟩
def f105 (K:Oracle) (L:Looper) (p0:V) (h:H):Option (Rv × H):=fin Tryz.prog k105 [.tmp 2] (s105 K L ⟨[p0,V.und,V.und],0,p0⟩ h)
theorem r105:(fun K L p0 h=>runFF Tryz.prog kp K L 105 [p0] h)=f105:=by kernel_rfl
@[simp] def k106:List Nat:=[0,1,4]
@[simp] def ux106 (e:E) (t:Nat) (v:V):E:=⟨[e.s k106 0,e.s k106 1,e.s k106 4],t,v⟩
def s106 (K:Oracle) (L:Looper) (e:E) (h:H):Out :=
 sq (some ⟨.nm,(ux106 e 4 (.bool false)).st 2 (.bool false),h⟩) fun e h =>
 sq (bd (binK 0 .eql (e.s k106 1) (.int .i64 0)) fun t6 =>
 bd (gl t6 false (some (e.s k106 0))) fun t8 =>
 bc k106 [5,6,7,8,9,10,11,12,13,14,4] e (gk t6 false h (K 107 [t8] h)) fun t9 h1 =>
 bd (gl t6 false (some t9)) fun t10 =>
 bd (gl t10 true (some (e.s k106 1))) fun t11 =>
 bc k106 [5,6,7,8,9,10,11,12,13,14,4] e (gk t10 true h1 (K 43 [t11,(.int .i64 (-3)),(.int .i64 3)] h1)) fun t12 h2 =>
 bd (gl t6 false (pk t10 t12 (.bool false))) fun t13 =>
 bd (pk t6 (.bool true) t13) fun t14 =>
 some ⟨.nm,(ux106 e 4 t14).st 2 t14,h2⟩) fun e h =>
 some ⟨.rt,e,h⟩
def f106 (K:Oracle) (L:Looper) (p0 p1:V) (h:H):Option (Rv × H):=fin Tryz.prog k106 [.tmp 4] (s106 K L ⟨[p0,p1,V.und],0,p0⟩ h)
theorem r106:(fun K L p0 p1 h=>runFF Tryz.prog kp K L 106 [p0,p1] h)=f106:=by kernel_rfl
@[simp] def k107:List Nat:=[0,2]
@[simp] def ux107 (e:E) (t:Nat) (v:V):E:=⟨[e.s k107 0,e.s k107 2],t,v⟩
def s107 (K:Oracle) (L:Looper) (e:E) (h:H):Out :=
 sq (some ⟨.nm,(ux107 e 2 (.bool false)).st 1 (.bool false),h⟩) fun e h =>
 sq (bc k107 [3,4,2] e (K 43 [e.s k107 0,(.int .i64 1),(.int .i64 8)] h) fun t4 h1 =>
 some ⟨.nm,(ux107 e 2 t4).st 1 t4,h1⟩) fun e h =>
 some ⟨.rt,e,h⟩
def f107 (K:Oracle) (L:Looper) (p0:V) (h:H):Option (Rv × H):=fin Tryz.prog k107 [.tmp 2] (s107 K L ⟨[p0,V.und],0,p0⟩ h)
theorem r107:(fun K L p0 h=>runFF Tryz.prog kp K L 107 [p0] h)=f107:=by kernel_rfl
@[simp] def k108:List Nat:=[0,1,4]
@[simp] def ux108 (e:E) (t:Nat) (v:V):E:=⟨[e.s k108 0,e.s k108 1,e.s k108 4],t,v⟩
def s108 (K:Oracle) (L:Looper) (e:E) (h:H):Out :=
 sq (some ⟨.nm,(ux108 e 4 (.bool false)).st 2 (.bool false),h⟩) fun e h =>
 sq (bc k108 [5,6,7,8,4] e (K 146 [e.s k108 0,e.s k108 1] h) fun t7 h1 =>
 bd (binK 0 .geq t7 (.int .i64 0)) fun t8 =>
 some ⟨.nm,(ux108 e 4 t8).st 2 t8,h1⟩) fun e h =>
 some ⟨.rt,e,h⟩
def f108 (K:Oracle) (L:Looper) (p0 p1:V) (h:H):Option (Rv × H):=fin Tryz.prog k108 [.tmp 4] (s108 K L ⟨[p0,p1,V.und],0,p0⟩ h)
theorem r108:(fun K L p0 p1 h=>runFF Tryz.prog kp K L 108 [p0,p1] h)=f108:=by kernel_rfl
@[simp] def k109:List Nat:=[0,2]
@[simp] def ux109 (e:E) (t:Nat) (v:V):E:=⟨[e.s k109 0,e.s k109 2],t,v⟩
def s109 (K:Oracle) (L:Looper) (e:E) (h:H):Out :=
 sq (some ⟨.nm,(ux109 e 2 .nils).st 1 .nils,h⟩) fun e h =>
 sq (sq (bd (binK 3 .eql (e.s k109 0) .nils) fun t4 =>
 some ⟨.nm,ux109 e 4 t4,h⟩) fun e h =>
 br (e.s k109 4) (sq (some ⟨.nm,(ux109 e 2 .nils).st 1 .nils,h⟩) fun e h =>
 some ⟨.rt,e,h⟩)
 (some ⟨.nm,e,h⟩)) fun e h =>
 sq (bf (bs h 5 0 [] []) fun t5 h1 =>
 bf (apZ 5 1 1 h1 t5 (e.s k109 0)) fun t7 h2 =>
 some ⟨.nm,(ux109 e 2 t7).st 1 t7,h2⟩) fun e h =>
 some ⟨.rt,e,h⟩
def f109 (K:Oracle) (L:Looper) (p0:V) (h:H):Option (Rv × H):=fin Tryz.prog k109 [.tmp 2] (s109 K L ⟨[p0,V.und],0,p0⟩ h)
theorem r109:(fun K L p0 h=>runFF Tryz.prog kp K L 109 [p0] h)=f109:=by kernel_rfl
@[simp] def k110:List Nat:=[0]
def s110 (K:Oracle) (L:Looper) (e:E) (h:H):Out :=
 sq (sq (bd (nilC (e.s k110 0)) fun t3 =>
 bd (fa 1 t3) fun t4 =>
 bd (ld h t4) fun t5 =>
 bd (binK 0 .gtr t5 (.int .u64 4294967295)) fun t6 =>
 some ⟨.nm,⟨[e.s k110 0],6,t6⟩,h⟩) fun e h =>
 br (e.s k110 6) (bc k110 [7,8] e (K 147 [e.s k110 0] h) fun t8 h1 =>
 some ⟨.nm,⟨[e.s k110 0],8,t8⟩,h1⟩)
 (some ⟨.nm,e,h⟩)) fun e h =>
 sq (bd (nilC (e.s k110 0)) fun t11 =>
 bd (fa 0 t11) fun t12 =>
 bd (ld h t12) fun t13 =>
 bd (nilC (e.s k110 0)) fun t15 =>
 bd (fa 1 t15) fun t16 =>
 bd (ld h t16) fun t17 =>
 bd (binK 0 .shr t17 (.int .u64 24)) fun t18 =>
 bd (cv .u8 t18) fun t19 =>
 bf (bs h 5 1 [(.int .u8 0)] [(some (0,1),t19)]) fun t20 h1 =>
 bf (apZ 5 1 1 h1 t13 t20) fun t21 h2 =>
 bd (nilC (e.s k110 0)) fun t22 =>
 bd (fa 0 t22) fun t23 =>
 bf (stZ 1 h2 t23 t21) fun _ h3 =>
 ck (ld h t12) t13 (ck (ld h t16) t17 (some ⟨.nm,⟨[e.s k110 0],0,(e.s k110 0)⟩,h3⟩))) fun e h =>
 bd (nilC (e.s k110 0)) fun t26 =>
 bd (fa 1 t26) fun t27 =>
 bd (ld h t27) fun t28 =>
 bd (binK 0 .and t28 (.int .u64 16777215)) fun t29 =>
 bd (binK 0 .shl t29 (.int .u64 8)) fun t30 =>
 bd (nilC (e.s k110 0)) fun t31 =>
 bd (fa 1 t31) fun t32 =>
 bf (stZ 1 h t32 t30) fun _ h1 =>
 some ⟨.nm,⟨[e.s k110 0],0,(e.s k110 0)⟩,h1⟩
def f110 (K:Oracle) (L:Looper) (p0:V) (h:H):Option (Rv × H):=fin Tryz.prog k110 [] (s110 K L ⟨[p0],0,p0⟩ h)
theorem r110:(fun K L p0 h=>runFF Tryz.prog kp K L 110 [p0] h)=f110:=by kernel_rfl
@[simp] def k111:List Nat:=[0]
def s111 (K:Oracle) (L:Looper) (e:E) (h:H):Out :=
 sq (bd (nilC (e.s k111 0)) fun t3 =>
 bd (fa 1 t3) fun t4 =>
 bd (ld h t4) fun t5 =>
 bd (binK 0 .shl t5 (.int .u64 8)) fun t6 =>
 bd (nilC (e.s k111 0)) fun t7 =>
 bd (fa 1 t7) fun t8 =>
 bf (stZ 1 h t8 t6) fun _ h1 =>
 some ⟨.nm,⟨[e.s k111 0],0,(e.s k111 0)⟩,h1⟩) fun e h =>
 sq (bd (nilC (e.s k111 0)) fun t10 =>
 bd (fa 0 t10) fun t11 =>
 bd (ld h t11) fun t12 =>
 bd (lnS t12) fun t13 =>
 bd (binK 0 .gtr t13 (.int .i64 0)) fun t14 =>
 some ⟨.nm,⟨[e.s k111 0],14,t14⟩,h⟩) fun e h =>
 br (e.s k111 14) (sq (bd (nilC (e.s k111 0)) fun t16 =>
 bd (fa 1 t16) fun t17 =>
 bd (ld h t17) fun t18 =>
 bd (nilC (e.s k111 0)) fun t20 =>
 bd (fa 0 t20) fun t21 =>
 bd (ld h t21) fun t22 =>
 bd (iaS 1 t22 (.int .i64 0)) fun t23 =>
 bd (ld h t23) fun t24 =>
 bd (cv .u32 t24) fun t25 =>
 bd (binK 0 .or t18 t25) fun t26 =>
 bd (nilC (e.s k111 0)) fun t27 =>
 bd (fa 1 t27) fun t28 =>
 bf (stZ 1 h t28 t26) fun _ h1 =>
 ck (ld h t17) t18 (ck (ld h t21) t22 (ck (ld h t23) t24 (some ⟨.nm,⟨[e.s k111 0],0,(e.s k111 0)⟩,h1⟩)))) fun e h =>
 bd (nilC (e.s k111 0)) fun t31 =>
 bd (fa 0 t31) fun t32 =>
 bd (ld h t32) fun t33 =>
 bd (slS 1 t33 (some (.int .i64 1)) none none) fun t34 =>
 bd (nilC (e.s k111 0)) fun t35 =>
 bd (fa 0 t35) fun t36 =>
 bf (stZ 1 h t36 t34) fun _ h1 =>
 some ⟨.nm,⟨[e.s k111 0],0,(e.s k111 0)⟩,h1⟩)
 (some ⟨.nm,e,h⟩)
def f111 (K:Oracle) (L:Looper) (p0:V) (h:H):Option (Rv × H):=fin Tryz.prog k111 [] (s111 K L ⟨[p0],0,p0⟩ h)
theorem r111:(fun K L p0 h=>runFF Tryz.prog kp K L 111 [p0] h)=f111:=by kernel_rfl
@[simp] def k132:List Nat:=[0,2,3]
@[simp] def ux132 (e:E) (t:Nat) (v:V):E:=⟨[e.s k132 0,e.s k132 2,e.s k132 3],t,v⟩
def l132_0 (K:Oracle) (L:Looper) (e:E) (h:H):Out :=
 sq (sq (bd (binK 0 .gtr (e.s k132 3) (.int .i64 0)) fun t8 =>
 some ⟨.nm,ux132 e 8 t8,h⟩) fun e h =>
 br (e.s k132 8) (some ⟨.nm,e,h⟩)
 (some ⟨.ex 0,e,h⟩)) fun e h =>
 sq (blk 1 (sq (bd (some (e.s k132 0)) fun t11 =>
 bd (some (e.s k132 3)) fun t12 =>
 bd (iaS 1 t11 t12) fun t13 =>
 bd (ld h t13) fun t14 =>
 bd (some (e.s k132 0)) fun t15 =>
 bd (some (e.s k132 3)) fun t16 =>
 bd (binK 0 .sub t16 (.int .i64 1)) fun t17 =>
 bd (iaS 1 t15 t17) fun t18 =>
 bd (ld h t18) fun t19 =>
 bk (K 162 [t14,t19] h) (fun tp hp =>
 some ⟨.pn tp,fgE k132 [11,12,13,14,15,16,17,18,19,20] e,hp⟩) fun _ _ =>
 bd (iaS 1 (e.s k132 0) (e.s k132 3)) fun t13 =>
 bd (ld h t13) fun t14 =>
 bd (binK 0 .sub (e.s k132 3) (.int .i64 1)) fun t17 =>
 bd (iaS 1 (e.s k132 0) t17) fun t18 =>
 bd (ld h t18) fun t19 =>
 bn (K 162 [t14,t19] h) fun t20 h1 =>
 ck (ld h t13) t14 (ck (ld h t18) t19 (some ⟨.nm,ux132 e 20 t20,h1⟩))) fun e h =>
 br (e.s k132 20) (sq (some ⟨.nm,(ux132 e 2 (.bool false)).st 1 (.bool false),h⟩) fun e h =>
 some ⟨.rt,e,h⟩)
 (some ⟨.nm,e,h⟩))) fun e h =>
 bd (binK 0 .sub (e.s k132 3) (.int .i64 1)) fun t10 =>
 some ⟨.nm,(ux132 e 3 t10).st 2 t10,h⟩
def s132 (K:Oracle) (L:Looper) (e:E) (h:H):Out :=
 sq (some ⟨.nm,(ux132 e 2 (.bool false)).st 1 (.bool false),h⟩) fun e h =>
 sq (sq (bd (lnS (e.s k132 0)) fun t5 =>
 bd (binK 0 .sub t5 (.int .i64 1)) fun t6 =>
 some ⟨.nm,(ux132 e 3 t6).st 2 t6,h⟩) fun e h =>
 blk 0 (L (l132_0 K L) e h)) fun e h =>
 sq (some ⟨.nm,(ux132 e 2 (.bool true)).st 1 (.bool true),h⟩) fun e h =>
 some ⟨.rt,e,h⟩
def f132 (K:Oracle) (L:Looper) (p0:V) (h:H):Option (Rv × H):=fin Tryz.prog k132 [.tmp 2] (s132 K L ⟨[p0,V.und,V.und],0,p0⟩ h)
theorem r132:(fun K L p0 h=>runFF Tryz.prog kp K L 132 [p0] h)=f132:=by kernel_rfl
@[simp] def k133:List Nat:=[0,1,4,5,6,7,8]
@[simp] def ux133 (e:E) (t:Nat) (v:V):E:=⟨[e.s k133 0,e.s k133 1,e.s k133 4,e.s k133 5,e.s k133 6,e.s k133 7,e.s k133 8],t,v⟩
def s133 (K:Oracle) (L:Looper) (e:E) (h:H):Out :=
 sq (some ⟨.nm,((ux133 e 5 (.int .i64 0)).st 2 (.int .i64 0)).st 3 (.int .i64 0),h⟩) fun e h =>
 sq (sq (bc k133 [9,10,11] e (K 42 [e.s k133 0] h) fun t10 h1 =>
 bd (unV .not t10) fun t11 =>
 some ⟨.nm,ux133 e 11 t11,h1⟩) fun e h =>
 br (e.s k133 11) (sq (bd (nilC (e.s k133 0)) fun t14 =>
 bd (fa 1 t14) fun t15 =>
 bd (ld h t15) fun t16 =>
 bc k133 [13,14,15,16,17,12,18,19,6,7] e (K 134 [t16] h) fun t17 h1 =>
 bd (exV t17 0) fun t18 =>
 bd (exV t17 1) fun t19 =>
 some ⟨.nm,((ux133 e 7 t19).st 4 t18).st 5 t19,h1⟩) fun e h =>
 sq (sq (bd (binK 0 .neq (e.s k133 7) (.int .i64 0)) fun t21 =>
 some ⟨.nm,ux133 e 21 t21,h⟩) fun e h =>
 br (e.s k133 21) (sq (some ⟨.nm,((ux133 e 5 (e.s k133 7)).st 2 (.int .i64 0)).st 3 (e.s k133 7),h⟩) fun e h =>
 some ⟨.rt,e,h⟩)
 (some ⟨.nm,e,h⟩)) fun e h =>
 bd (binK 0 .quo (e.s k133 6) (.int .u32 16384)) fun t24 =>
 bd (cv .i64 t24) fun t25 =>
 some ⟨.nm,(ux133 e 1 t25).st 1 t25,h⟩)
 (some ⟨.nm,e,h⟩)) fun e h =>
 sq (bd (cv .u32 (e.s k133 1)) fun t27 =>
 bd (binK 0 .mul t27 (.int .u32 16384)) fun t28 =>
 some ⟨.nm,(ux133 e 8 t28).st 6 t28,h⟩) fun e h =>
 sq (sq (bc k133 [29,30] e (K 42 [e.s k133 0] h) fun t30 h1 =>
 some ⟨.nm,ux133 e 30 t30,h1⟩) fun e h =>
 br (e.s k133 30) (sq (bd (nilC (e.s k133 0)) fun t33 =>
 bd (fa 0 t33) fun t34 =>
 bd (ld h t34) fun t35 =>
 bd (binK 0 .add (e.s k133 8) (.int .u32 16384)) fun t38 =>
 bc k133 [31,32,33,34,35,36,37,38,39,4,5] e (K 137 [t35,e.s k133 8,t38] h) fun t39 h1 =>
 some ⟨.nm,((ux133 e 5 t39).st 2 (e.s k133 1)).st 3 t39,h1⟩) fun e h =>
 some ⟨.rt,e,h⟩)
 (some ⟨.nm,e,h⟩)) fun e h =>
 sq (bd (nilC (e.s k133 0)) fun t42 =>
 bd (fa 1 t42) fun t43 =>
 bd (ld h t43) fun t44 =>
 bd (binK 0 .add (e.s k133 8) (.int .u32 16384)) fun t47 =>
 bc k133 [40,41,42,43,44,45,46,47,48,4,5] e (K 138 [t44,e.s k133 8,t47] h) fun t48 h1 =>
 some ⟨.nm,((ux133 e 5 t48).st 2 (e.s k133 1)).st 3 t48,h1⟩) fun e h =>
 some ⟨.rt,e,h⟩
def f133 (K:Oracle) (L:Looper) (p0 p1:V) (h:H):Option (Rv × H):=fin Tryz.prog k133 [.tmp 4,.tmp 5] (s133 K L ⟨[p0,p1,V.und,V.und,V.und,V.und,V.und],0,p0⟩ h)
theorem r133:(fun K L p0 p1 h=>runFF Tryz.prog kp K L 133 [p0,p1] h)=f133:=by kernel_rfl
@[simp] def k134:List Nat:=[0,2,3]
@[simp] def ux134 (e:E) (t:Nat) (v:V):E:=⟨[e.s k134 0,e.s k134 2,e.s k134 3],t,v⟩
def s134 (K:Oracle) (L:Looper) (e:E) (h:H):Out :=
 sq (some ⟨.nm,((ux134 e 3 (.int .i64 0)).st 1 (.int .u32 0)).st 2 (.int .i64 0),h⟩) fun e h =>
 sq (sq (bd (binK 2 .eql (e.s k134 0) .nilp) fun t5 =>
 bd (gl t5 false (some (e.s k134 0))) fun t7 =>
 bd (gl t5 false (nilC t7)) fun t8 =>
 bd (gl t5 false (fa 2 t8)) fun t9 =>
 bd (gl t5 false (ld h t9)) fun t10 =>
 bd (gl t5 false (binK 0 .eql t10 (.int .u32 0))) fun t11 =>
 bd (pk t5 (.bool true) t11) fun t12 =>
 some ⟨.nm,ux134 e 12 t12,h⟩) fun e h =>
 br (e.s k134 12) (sq (some ⟨.nm,((ux134 e 3 (.int .i64 1)).st 1 (.int .u32 0)).st 2 (.int .i64 1),h⟩) fun e h =>
 some ⟨.rt,e,h⟩)
 (some ⟨.nm,e,h⟩)) fun e h =>
 sq (bc k134 [13,14,2,3] e (K 163 [e.s k134 0] h) fun t14 h1 =>
 some ⟨.nm,((ux134 e 3 (.int .i64 0)).st 1 t14).st 2 (.int .i64 0),h1⟩) fun e h =>
 some ⟨.rt,e,h⟩
def f134 (K:Oracle) (L:Looper) (p0:V) (h:H):Option (Rv × H):=fin Tryz.prog k134 [.tmp 2,.tmp 3] (s134 K L ⟨[p0,V.und,V.und],0,p0⟩ h)
theorem r134:(fun K L p0 h=>runFF Tryz.prog kp K L 134 [p0] h)=f134:=by kernel_rfl
@[simp] def k135:List Nat:=[0,1,2,4,5,6]
@[simp] def ux135 (e:E) (t:Nat) (v:V):E:=⟨[e.s k135 0,e.s k135 1,e.s k135 2,e.s k135 4,e.s k135 5,e.s k135 6],t,v⟩
def l135_0 (K:Oracle) (L:Looper) (e:E) (h:H):Out :=
 sq (sq (bd (ldn 2 h (e.s k135 2)) fun t14 =>
 bc k135 [14,15,16,17,18] e (K 164 [t14,e.s k135 6] h) fun t16 h1 =>
 bd (binK 0 .leq t16 (e.s k135 1)) fun t18 =>
 some ⟨.nm,ux135 e 18 t18,h1⟩) fun e h =>
 br (e.s k135 18) (some ⟨.nm,e,h⟩)
 (some ⟨.ex 0,e,h⟩)) fun e h =>
 blk 1 (bd (binK 0 .add (e.s k135 6) (.int .i64 1)) fun t20 =>
 some ⟨.nm,(ux135 e 6 t20).st 5 t20,h⟩)
def s135 (K:Oracle) (L:Looper) (e:E) (h:H):Out :=
 sq (bf (bx h 101 (e.s k135 0)) fun t2 h1 =>
 some ⟨.nm,(((ux135 e 5 (.int .i64 0)).st 2 t2).st 3 (.int .i64 0)).st 4 (.int .i64 0),h1⟩) fun e h =>
 sq (sq (bd (ldn 2 h (e.s k135 2)) fun t7 =>
 bc k135 [7,8,9,10,11,12,13] e (K 80 [t7] h) fun t8 h1 =>
 bd (binK 0 .neq t8 (.int .i64 0)) fun t9 =>
 bd (gl t9 false (some (e.s k135 1))) fun t11 =>
 bd (gl t9 false (binK 0 .geq t11 (.int .u32 32768))) fun t12 =>
 bd (pk t9 (.bool true) t12) fun t13 =>
 some ⟨.nm,ux135 e 13 t13,h1⟩) fun e h =>
 br (e.s k135 13) (sq (some ⟨.nm,((ux135 e 5 (.int .i64 2)).st 3 (.int .i64 0)).st 4 (.int .i64 2),h⟩) fun e h =>
 some ⟨.rt,e,h⟩)
 (some ⟨.nm,e,h⟩)) fun e h =>
 sq (some ⟨.nm,(ux135 e 6 (.int .i64 0)).st 5 (.int .i64 0),h⟩) fun e h =>
 sq (blk 0 (L (l135_0 K L) e h)) fun e h =>
 sq (some ⟨.nm,((ux135 e 5 (.int .i64 0)).st 3 (e.s k135 6)).st 4 (.int .i64 0),h⟩) fun e h =>
 some ⟨.rt,e,h⟩
def f135 (K:Oracle) (L:Looper) (p0 p1:V) (h:H):Option (Rv × H):=fin Tryz.prog k135 [.tmp 4,.tmp 5] (s135 K L ⟨[p0,p1,V.und,V.und,V.und,V.und],0,p0⟩ h)
theorem r135:(fun K L p0 p1 h=>runFF Tryz.prog kp K L 135 [p0,p1] h)=f135:=by kernel_rfl
@[simp] def k136:List Nat:=[0,1,2,4,5,6]
@[simp] def ux136 (e:E) (t:Nat) (v:V):E:=⟨[e.s k136 0,e.s k136 1,e.s k136 2,e.s k136 4,e.s k136 5,e.s k136 6],t,v⟩
def s136 (K:Oracle) (L:Looper) (e:E) (h:H):Out :=
 sq (bf (bx h 101 (e.s k136 0)) fun t2 h1 =>
 some ⟨.nm,((((ux136 e 6 (.int .i64 0)).st 2 t2).st 3 (.int .u32 0)).st 4 (.int .u32 0)).st 5 (.int .i64 0),h1⟩) fun e h =>
 sq (sq (bd (ldn 2 h (e.s k136 2)) fun t7 =>
 bc k136 [7,8,9,10] e (K 139 [t7,e.s k136 1] h) fun t9 h1 =>
 bd (unV .not t9) fun t10 =>
 some ⟨.nm,ux136 e 10 t10,h1⟩) fun e h =>
 br (e.s k136 10) (sq (some ⟨.nm,(((ux136 e 6 (.int .i64 2)).st 3 (.int .u32 0)).st 4 (.int .u32 0)).st 5 (.int .i64 2),h⟩) fun e h =>
 some ⟨.rt,e,h⟩)
 (some ⟨.nm,e,h⟩)) fun e h =>
 sq (bd (ldn 2 h (e.s k136 2)) fun t11 =>
 bd (some (e.s k136 1)) fun t12 =>
 bd (binK 0 .sub t12 (.int .i64 1)) fun t13 =>
 bk (K 164 [t11,t13] h) (fun tp hp =>
 bd (ldn 2 h (e.s k136 2)) fun t15 =>
 bd (some (e.s k136 1)) fun t16 =>
 some ⟨.pn tp,fgE k136 [11,12,13,14,15,16,17,4,5,6] e,hp⟩) fun _ _ =>
 bd (ldn 2 h (e.s k136 2)) fun t11 =>
 bd (binK 0 .sub (e.s k136 1) (.int .i64 1)) fun t13 =>
 bn (K 164 [t11,t13] h) fun t14 h1 =>
 bd (ldn 2 h1 (e.s k136 2)) fun t15 =>
 bn (K 164 [t15,e.s k136 1] h1) fun t17 h2 =>
 ck (ldn 2 h (e.s k136 2)) t11 (ck (ldn 2 h (e.s k136 2)) t15 (ck (ldn 2 h1 (e.s k136 2)) t15 (some ⟨.nm,(((ux136 e 6 (.int .i64 0)).st 3 t14).st 4 t17).st 5 (.int .i64 0),h2⟩)))) fun e h =>
 some ⟨.rt,e,h⟩
def f136 (K:Oracle) (L:Looper) (p0 p1:V) (h:H):Option (Rv × H):=fin Tryz.prog k136 [.tmp 4,.tmp 5,.tmp 6] (s136 K L ⟨[p0,p1,V.und,V.und,V.und,V.und],0,p0⟩ h)
theorem r136:(fun K L p0 p1 h=>runFF Tryz.prog kp K L 136 [p0,p1] h)=f136:=by kernel_rfl
@[simp] def k137:List Nat:=[0,1,2,6,7,8]
@[simp] def ux137 (e:E) (t:Nat) (v:V):E:=⟨[e.s k137 0,e.s k137 1,e.s k137 2,e.s k137 6,e.s k137 7,e.s k137 8],t,v⟩
def l137_0 (K:Oracle) (L:Looper) (e:E) (h:H):Out :=
 sq (sq (bd (binK 0 .leq (e.s k137 8) (.int .u32 16777215)) fun t47 =>
 some ⟨.nm,ux137 e 47 t47,h⟩) fun e h =>
 br (e.s k137 47) (some ⟨.nm,e,h⟩)
 (some ⟨.ex 1,e,h⟩)) fun e h =>
 sq (blk 2 (bc k137 [50,51] e (K 110 [e.s k137 0] h) fun t51 h1 =>
 some ⟨.nm,ux137 e 51 t51,h1⟩)) fun e h =>
 bd (binK 0 .shl (e.s k137 8) (.int .u64 8)) fun t49 =>
 some ⟨.nm,(ux137 e 8 t49).st 5 t49,h⟩
def s137 (K:Oracle) (L:Looper) (e:E) (h:H):Out :=
 sq (some ⟨.nm,(ux137 e 6 (.int .i64 0)).st 3 (.int .i64 0),h⟩) fun e h =>
 sq (blk 0 (sq (bd (binK 2 .eql (e.s k137 0) .nilp) fun t11 =>
 bd (gl t11 false (some (e.s k137 0))) fun t13 =>
 bd (gl t11 false (nilC t13)) fun t14 =>
 bd (gl t11 false (fa 2 t14)) fun t15 =>
 bd (gl t11 false (ld h t15)) fun t16 =>
 bd (gl t11 false (binK 0 .eql t16 (.int .u32 0))) fun t17 =>
 bd (pk t11 (.bool true) t17) fun t18 =>
 some ⟨.nm,ux137 e 9 t18,h⟩) fun e h =>
 br (e.s k137 9) (sq (some ⟨.nm,(ux137 e 6 (.int .i64 1)).st 3 (.int .i64 1),h⟩) fun e h =>
 some ⟨.rt,e,h⟩)
 (sq (bd (binK 0 .geq (e.s k137 1) (e.s k137 2)) fun t22 =>
 bd (gl t22 false (some (e.s k137 2))) fun t24 =>
 bd (gl t22 false (binK 0 .gtr t24 (.int .u32 32768))) fun t25 =>
 bd (pk t22 (.bool true) t25) fun t26 =>
 some ⟨.nm,ux137 e 19 t26,h⟩) fun e h =>
 br (e.s k137 19) (sq (some ⟨.nm,(ux137 e 6 (.int .i64 2)).st 3 (.int .i64 2),h⟩) fun e h =>
 some ⟨.rt,e,h⟩)
 (some ⟨.nm,e,h⟩)))) fun e h =>
 sq (bd (nilC (e.s k137 0)) fun t29 =>
 bd (fa 2 t29) fun t30 =>
 bd (ld h t30) fun t31 =>
 bc k137 [28,29,30,31,32,33,34,27,35,36,7,8] e (K 165 [t31,e.s k137 1,e.s k137 2] h) fun t34 h1 =>
 bd (exV t34 0) fun t35 =>
 bd (exV t34 1) fun t36 =>
 some ⟨.nm,((ux137 e 8 t36).st 4 t35).st 5 t36,h1⟩) fun e h =>
 sq (bd (nilC (e.s k137 0)) fun t38 =>
 bd (fa 1 t38) fun t39 =>
 bd (ld h t39) fun t40 =>
 bd (cv .u64 (e.s k137 7)) fun t42 =>
 bd (binK 0 .add t40 t42) fun t43 =>
 bd (nilC (e.s k137 0)) fun t44 =>
 bd (fa 1 t44) fun t45 =>
 bf (stZ 1 h t45 t43) fun _ h1 =>
 some ⟨.nm,ux137 e 0 (e.s k137 0),h1⟩) fun e h =>
 sq (blk 1 (L (l137_0 K L) e h)) fun e h =>
 sq (bd (nilC (e.s k137 0)) fun t54 =>
 bd (fa 2 t54) fun t55 =>
 bf (stZ 1 h t55 (e.s k137 8)) fun _ h1 =>
 some ⟨.nm,ux137 e 0 (e.s k137 0),h1⟩) fun e h =>
 sq (some ⟨.nm,(ux137 e 6 (.int .i64 0)).st 3 (.int .i64 0),h⟩) fun e h =>
 some ⟨.rt,e,h⟩
def f137 (K:Oracle) (L:Looper) (p0 p1 p2:V) (h:H):Option (Rv × H):=fin Tryz.prog k137 [.tmp 6] (s137 K L ⟨[p0,p1,p2,V.und,V.und,V.und],0,p0⟩ h)
theorem r137:(fun K L p0 p1 p2 h=>runFF Tryz.prog kp K L 137 [p0,p1,p2] h)=f137:=by kernel_rfl
@[simp] def k138:List Nat:=[0,1,2,6,7,8,9]
@[simp] def ux138 (e:E) (t:Nat) (v:V):E:=⟨[e.s k138 0,e.s k138 1,e.s k138 2,e.s k138 6,e.s k138 7,e.s k138 8,e.s k138 9],t,v⟩
def l138_0 (K:Oracle) (L:Looper) (e:E) (h:H):Out :=
 sq (sq (bd (binK 0 .leq (e.s k138 9) (.int .u32 16777215)) fun t52 =>
 some ⟨.nm,ux138 e 52 t52,h⟩) fun e h =>
 br (e.s k138 52) (some ⟨.nm,e,h⟩)
 (some ⟨.ex 0,e,h⟩)) fun e h =>
 sq (blk 1 (bc k138 [55,56] e (K 111 [e.s k138 0] h) fun t56 h1 =>
 some ⟨.nm,ux138 e 56 t56,h1⟩)) fun e h =>
 bd (binK 0 .shl (e.s k138 9) (.int .u64 8)) fun t54 =>
 some ⟨.nm,(ux138 e 9 t54).st 6 t54,h⟩
def s138 (K:Oracle) (L:Looper) (e:E) (h:H):Out :=
 sq (some ⟨.nm,(ux138 e 6 (.int .i64 0)).st 3 (.int .i64 0),h⟩) fun e h =>
 sq (sq (bd (binK 2 .eql (e.s k138 0) .nilp) fun t11 =>
 bd (gl t11 false (some (e.s k138 0))) fun t13 =>
 bd (gl t11 false (nilC t13)) fun t14 =>
 bd (gl t11 false (fa 2 t14)) fun t15 =>
 bd (gl t11 false (ld h t15)) fun t16 =>
 bd (gl t11 false (binK 0 .eql t16 (.int .u32 0))) fun t17 =>
 bd (pk t11 (.bool true) t17) fun t18 =>
 some ⟨.nm,ux138 e 18 t18,h⟩) fun e h =>
 br (e.s k138 18) (sq (some ⟨.nm,(ux138 e 6 (.int .i64 1)).st 3 (.int .i64 1),h⟩) fun e h =>
 some ⟨.rt,e,h⟩)
 (some ⟨.nm,e,h⟩)) fun e h =>
 sq (sq (bc k138 [19,20,7] e (K 163 [e.s k138 0] h) fun t20 h1 =>
 some ⟨.nm,(ux138 e 7 t20).st 4 t20,h1⟩) fun e h =>
 sq (bd (binK 0 .gtr (e.s k138 1) (e.s k138 7)) fun t23 =>
 bd (gl t23 false (some (e.s k138 2))) fun t25 =>
 bd (gl t23 false (some (e.s k138 7))) fun t26 =>
 bd (gl t23 false (binK 0 .leq t25 t26)) fun t27 =>
 bd (pk t23 (.bool true) t27) fun t28 =>
 bd (gl t28 false (some (e.s k138 2))) fun t30 =>
 bd (gl t28 false (binK 0 .gtr t30 (.int .u32 32768))) fun t31 =>
 bd (pk t28 (.bool true) t31) fun t32 =>
 some ⟨.nm,ux138 e 32 t32,h⟩) fun e h =>
 br (e.s k138 32) (sq (some ⟨.nm,(ux138 e 6 (.int .i64 2)).st 3 (.int .i64 2),h⟩) fun e h =>
 some ⟨.rt,e,h⟩)
 (some ⟨.nm,e,h⟩)) fun e h =>
 sq (bd (nilC (e.s k138 0)) fun t35 =>
 bd (fa 2 t35) fun t36 =>
 bd (ld h t36) fun t37 =>
 bc k138 [34,35,36,37,38,39,40,33,41,42,8,9] e (K 165 [t37,e.s k138 1,e.s k138 2] h) fun t40 h1 =>
 bd (exV t40 0) fun t41 =>
 bd (exV t40 1) fun t42 =>
 some ⟨.nm,((ux138 e 9 t42).st 5 t41).st 6 t42,h1⟩) fun e h =>
 sq (bd (nilC (e.s k138 0)) fun t44 =>
 bd (fa 1 t44) fun t45 =>
 bd (ld h t45) fun t46 =>
 bd (binK 0 .sub t46 (e.s k138 8)) fun t48 =>
 bd (nilC (e.s k138 0)) fun t49 =>
 bd (fa 1 t49) fun t50 =>
 bf (stZ 1 h t50 t48) fun _ h1 =>
 some ⟨.nm,ux138 e 0 (e.s k138 0),h1⟩) fun e h =>
 sq (blk 0 (L (l138_0 K L) e h)) fun e h =>
 sq (bd (nilC (e.s k138 0)) fun t59 =>
 bd (fa 2 t59) fun t60 =>
 bf (stZ 1 h t60 (e.s k138 9)) fun _ h1 =>
 some ⟨.nm,ux138 e 0 (e.s k138 0),h1⟩) fun e h =>
 sq (some ⟨.nm,(ux138 e 6 (.int .i64 0)).st 3 (.int .i64 0),h⟩) fun e h =>
 some ⟨.rt,e,h⟩
def f138 (K:Oracle) (L:Looper) (p0 p1 p2:V) (h:H):Option (Rv × H):=fin Tryz.prog k138 [.tmp 6] (s138 K L ⟨[p0,p1,p2,V.und,V.und,V.und,V.und],0,p0⟩ h)
theorem r138:(fun K L p0 p1 p2 h=>runFF Tryz.prog kp K L 138 [p0,p1,p2] h)=f138:=by kernel_rfl
@[simp] def k139:List Nat:=[0,1,2,4]
@[simp] def ux139 (e:E) (t:Nat) (v:V):E:=⟨[e.s k139 0,e.s k139 1,e.s k139 2,e.s k139 4],t,v⟩
def s139 (K:Oracle) (L:Looper) (e:E) (h:H):Out :=
 sq (bf (bx h 101 (e.s k139 0)) fun t2 h1 =>
 some ⟨.nm,((ux139 e 4 (.bool false)).st 2 t2).st 3 (.bool false),h1⟩) fun e h =>
 sq (bd (ldn 2 h (e.s k139 2)) fun t5 =>
 bc k139 [5,6,7,8,9,10,11,12,13,14,15,16,17,18,4] e (K 80 [t5] h) fun t6 h1 =>
 bd (binK 0 .eql t6 (.int .i64 0)) fun t7 =>
 bd (gl t7 true (some (e.s k139 1))) fun t9 =>
 bd (gl t7 true (binK 0 .geq t9 (.int .i64 0))) fun t10 =>
 bd (pk t7 t10 (.bool false)) fun t11 =>
 bd (gl t11 true (some (e.s k139 1))) fun t13 =>
 bd (gl t11 true (fa 0 (e.s k139 2))) fun t14 =>
 bd (gl t11 true (ld h1 t14)) fun t15 =>
 bd (gl t11 true (lnS t15)) fun t16 =>
 bd (gl t11 true (binK 0 .lss t13 t16)) fun t17 =>
 bd (pk t11 t17 (.bool false)) fun t18 =>
 some ⟨.nm,(ux139 e 4 t18).st 3 t18,h1⟩) fun e h =>
 some ⟨.rt,e,h⟩
def f139 (K:Oracle) (L:Looper) (p0 p1:V) (h:H):Option (Rv × H):=fin Tryz.prog k139 [.tmp 4] (s139 K L ⟨[p0,p1,V.und,V.und],0,p0⟩ h)
theorem r139:(fun K L p0 p1 h=>runFF Tryz.prog kp K L 139 [p0,p1] h)=f139:=by kernel_rfl
@[simp] def k140:List Nat:=[0,1,2,3]
@[simp] def ux140 (e:E) (t:Nat) (v:V):E:=⟨[e.s k140 0,e.s k140 1,e.s k140 2,e.s k140 3],t,v⟩
def s140 (K:Oracle) (L:Looper) (e:E) (h:H):Out :=
 sq (bf (bx h 101 (e.s k140 0)) fun t1 h1 =>
 some ⟨.nm,((ux140 e 2 (.int .i64 0)).st 1 t1).st 2 (.int .i64 0),h1⟩) fun e h =>
 sq (bd (fa 0 (e.s k140 1)) fun t4 =>
 bd (ld h t4) fun t5 =>
 bd (lnS t5) fun t6 =>
 bd (cv .u64 t6) fun t7 =>
 bc k140 [4,5,6,7,8,9,10,11,3] e (K 143 [t7] h) fun t8 h1 =>
 bd (binK 0 .sub t8 (.int .i64 1)) fun t9 =>
 bd (minV [t9,(.int .i64 2)]) fun t10 =>
 bd (binK 0 .add (.int .i64 3) t10) fun t11 =>
 some ⟨.nm,(ux140 e 3 t11).st 3 t11,h1⟩) fun e h =>
 sq (sq (bd (fa 1 (e.s k140 1)) fun t12 =>
 bd (ld h t12) fun t13 =>
 bd (binK 0 .gtr t13 (.int .i64 15)) fun t14 =>
 some ⟨.nm,ux140 e 14 t14,h⟩) fun e h =>
 br (e.s k140 14) (bd (binK 0 .add (e.s k140 3) (.int .i64 1)) fun t16 =>
 some ⟨.nm,(ux140 e 3 t16).st 3 t16,h⟩)
 (some ⟨.nm,e,h⟩)) fun e h =>
 sq (sq (bd (fa 1 (e.s k140 1)) fun t17 =>
 bd (ld h t17) fun t18 =>
 bd (binK 0 .gtr t18 (.int .i64 31)) fun t19 =>
 some ⟨.nm,ux140 e 19 t19,h⟩) fun e h =>
 br (e.s k140 19) (bd (binK 0 .add (e.s k140 3) (.int .i64 1)) fun t21 =>
 some ⟨.nm,(ux140 e 3 t21).st 3 t21,h⟩)
 (some ⟨.nm,e,h⟩)) fun e h =>
 sq (some ⟨.nm,(ux140 e 2 (e.s k140 3)).st 2 (e.s k140 3),h⟩) fun e h =>
 some ⟨.rt,e,h⟩
def f140 (K:Oracle) (L:Looper) (p0:V) (h:H):Option (Rv × H):=fin Tryz.prog k140 [.tmp 2] (s140 K L ⟨[p0,V.und,V.und,V.und],0,p0⟩ h)
theorem r140:(fun K L p0 h=>runFF Tryz.prog kp K L 140 [p0] h)=f140:=by kernel_rfl
@[simp] def k141:List Nat:=[0,1,2,4,5]
@[simp] def ux141 (e:E) (t:Nat) (v:V):E:=⟨[e.s k141 0,e.s k141 1,e.s k141 2,e.s k141 4,e.s k141 5],t,v⟩
def s141 (K:Oracle) (L:Looper) (e:E) (h:H):Out :=
 sq (bf (bx h 42 (e.s k141 0)) fun t2 h1 =>
 bf (nw h1 39 [(.int .i64 0),(.int .i64 0)]) fun t4 h2 =>
 some ⟨.nm,(((ux141 e 5 (.bool false)).st 2 t2).st 3 t4).st 4 (.bool false),h2⟩) fun e h =>
 sq (blk 0 (sq (bd (fa 5 (e.s k141 2)) fun t7 =>
 bd (ld h t7) fun t8 =>
 bd (unV .not t8) fun t9 =>
 some ⟨.nm,ux141 e 6 t9,h⟩) fun e h =>
 br (e.s k141 6) (some ⟨.nm,e,h⟩)
 (sq (bd (fa 14 (e.s k141 2)) fun t11 =>
 bd (iaA 2 1 t11 (.int .i64 0)) fun t12 =>
 bd (ld h t12) fun t13 =>
 bd (binK 0 .eql t13 (e.s k141 1)) fun t15 =>
 some ⟨.nm,ux141 e 10 t15,h⟩) fun e h =>
 br (e.s k141 10) (sq (bd (fa 17 (e.s k141 2)) fun t16 =>
 bd (iaA 2 2 t16 (.int .i64 0)) fun t17 =>
 bd (ldn 2 h t17) fun t18 =>
 bf (stZ 2 h (e.s k141 4) t18) fun _ h1 =>
 some ⟨.nm,(ux141 e 5 (.bool true)).st 4 (.bool true),h1⟩) fun e h =>
 some ⟨.rt,e,h⟩)
 (sq (bd (fa 13 (e.s k141 2)) fun t20 =>
 bd (ld h t20) fun t21 =>
 bd (gl t21 true (fa 14 (e.s k141 2))) fun t23 =>
 bd (gl t21 true (iaA 2 1 t23 (.int .i64 1))) fun t24 =>
 bd (gl t21 true (ld h t24)) fun t25 =>
 bd (gl t21 true (some (e.s k141 1))) fun t26 =>
 bd (gl t21 true (binK 0 .eql t25 t26)) fun t27 =>
 bd (pk t21 t27 (.bool false)) fun t28 =>
 some ⟨.nm,ux141 e 19 t28,h⟩) fun e h =>
 br (e.s k141 19) (sq (bd (fa 17 (e.s k141 2)) fun t29 =>
 bd (iaA 2 2 t29 (.int .i64 1)) fun t30 =>
 bd (ldn 2 h t30) fun t31 =>
 bf (stZ 2 h (e.s k141 4) t31) fun _ h1 =>
 some ⟨.nm,(ux141 e 5 (.bool true)).st 4 (.bool true),h1⟩) fun e h =>
 some ⟨.rt,e,h⟩)
 (some ⟨.nm,e,h⟩))))) fun e h =>
 sq (bd (bl [(.int .i64 0),(.int .i64 0)] []) fun t32 =>
 bf (stZ 2 h (e.s k141 4) t32) fun _ h1 =>
 some ⟨.nm,(ux141 e 5 (.bool false)).st 4 (.bool false),h1⟩) fun e h =>
 some ⟨.rt,e,h⟩
def f141 (K:Oracle) (L:Looper) (p0 p1:V) (h:H):Option (Rv × H):=fin Tryz.prog k141 [.cell 4 39,.tmp 5] (s141 K L ⟨[p0,p1,V.und,V.und,V.und],0,p0⟩ h)
theorem r141:(fun K L p0 p1 h=>runFF Tryz.prog kp K L 141 [p0,p1] h)=f141:=by kernel_rfl
@[simp] def k142:List Nat:=[0,1,3,4]
@[simp] def ux142 (e:E) (t:Nat) (v:V):E:=⟨[e.s k142 0,e.s k142 1,e.s k142 3,e.s k142 4],t,v⟩
def s142 (K:Oracle) (L:Looper) (e:E) (h:H):Out :=
 sq (bf (bx h 39 (e.s k142 1)) fun t3 h1 =>
 some ⟨.nm,((ux142 e 4 (.bool false)).st 2 t3).st 3 (.bool false),h1⟩) fun e h =>
 sq (bd (ldn 2 h (e.s k142 3)) fun t6 =>
 bc k142 [5,6,7,8,4] e (K 166 [e.s k142 0,t6] h) fun t7 h1 =>
 bd (binK 0 .geq t7 (.int .i64 0)) fun t8 =>
 some ⟨.nm,(ux142 e 4 t8).st 3 t8,h1⟩) fun e h =>
 some ⟨.rt,e,h⟩
def f142 (K:Oracle) (L:Looper) (p0 p1:V) (h:H):Option (Rv × H):=fin Tryz.prog k142 [.tmp 4] (s142 K L ⟨[p0,p1,V.und,V.und],0,p0⟩ h)
theorem r142:(fun K L p0 p1 h=>runFF Tryz.prog kp K L 142 [p0,p1] h)=f142:=by kernel_rfl
@[simp] def k143:List Nat:=[0,2]
@[simp] def ux143 (e:E) (t:Nat) (v:V):E:=⟨[e.s k143 0,e.s k143 2],t,v⟩
def s143 (K:Oracle) (L:Looper) (e:E) (h:H):Out :=
 sq (some ⟨.nm,(ux143 e 2 (.int .i64 0)).st 1 (.int .i64 0),h⟩) fun e h =>
 sq (br (.bool false) (sq (bd (cv .u32 (e.s k143 0)) fun t4 =>
 bc k143 [3,4,5,2] e (K 167 [t4] h) fun t5 h1 =>
 some ⟨.nm,(ux143 e 2 t5).st 1 t5,h1⟩) fun e h =>
 some ⟨.rt,e,h⟩)
 (some ⟨.nm,e,h⟩)) fun e h =>
 sq (bc k143 [6,7,2] e (K 168 [e.s k143 0] h) fun t7 h1 =>
 some ⟨.nm,(ux143 e 2 t7).st 1 t7,h1⟩) fun e h =>
 some ⟨.rt,e,h⟩
def f143 (K:Oracle) (L:Looper) (p0:V) (h:H):Option (Rv × H):=fin Tryz.prog k143 [.tmp 2] (s143 K L ⟨[p0,V.und],0,p0⟩ h)
theorem r143:(fun K L p0 h=>runFF Tryz.prog kp K L 143 [p0] h)=f143:=by kernel_rfl
@[simp] def k144:List Nat:=[0,2]
@[simp] def ux144 (e:E) (t:Nat) (v:V):E:=⟨[e.s k144 0,e.s k144 2],t,v⟩
def s144 (K:Oracle) (L:Looper) (e:E) (h:H):Out :=
 sq (some ⟨.nm,(ux144 e 2 (.int .i64 0)).st 1 (.int .i64 0),h⟩) fun e h =>
 sq (blk 0 (sq (bd (binK 0 .lss (e.s k144 0) (.int .i64 0)) fun t5 =>
 some ⟨.nm,ux144 e 3 t5,h⟩) fun e h =>
 br (e.s k144 3) (sq (some ⟨.nm,(ux144 e 2 (.int .i64 1)).st 1 (.int .i64 1),h⟩) fun e h =>
 some ⟨.rt,e,h⟩)
 (sq (bd (binK 0 .gtr (e.s k144 0) (.int .i64 0)) fun t8 =>
 some ⟨.nm,ux144 e 6 t8,h⟩) fun e h =>
 br (e.s k144 6) (sq (some ⟨.nm,(ux144 e 2 (.int .i64 2)).st 1 (.int .i64 2),h⟩) fun e h =>
 some ⟨.rt,e,h⟩)
 (some ⟨.nm,e,h⟩)))) fun e h =>
 sq (some ⟨.nm,(ux144 e 2 (.int .i64 0)).st 1 (.int .i64 0),h⟩) fun e h =>
 some ⟨.rt,e,h⟩
def f144 (K:Oracle) (L:Looper) (p0:V) (h:H):Option (Rv × H):=fin Tryz.prog k144 [.tmp 2] (s144 K L ⟨[p0,V.und],0,p0⟩ h)
theorem r144:(fun K L p0 h=>runFF Tryz.prog kp K L 144 [p0] h)=f144:=by kernel_rfl
@[simp] def k145:List Nat:=[0,1,2,6,7,8,9,10,11,12]
@[simp] def ux145 (e:E) (t:Nat) (v:V):E:=⟨[e.s k145 0,e.s k145 1,e.s k145 2,e.s k145 6,e.s k145 7,e.s k145 8,e.s k145 9,e.s k145 10,e.s k145 11,e.s k145 12],t,v⟩
def s145 (K:Oracle) (L:Looper) (e:E) (h:H):Out :=
 sq (some ⟨.nm,(ux145 e 6 (.int .i64 0)).st 3 (.int .i64 0),h⟩) fun e h =>
 sq (bd (unV .neg (e.s k145 2)) fun t15 =>
 bd (maxV [e.s k145 2,t15,(.int .i64 1)]) fun t16 =>
 bd (binK 0 .sub t16 (.int .i64 1)) fun t17 =>
 bf (nw h 3 [(.int .i64 0)]) fun t7 h1 =>
 bf (stZ 1 h1 t7 (.int .i64 0)) fun _ h2 =>
 some ⟨.nm,((ux145 e 8 t17).st 4 t7).st 5 t17,h2⟩) fun e h =>
 sq (sq (bd (binK 0 .lss (e.s k145 2) (.int .i64 0)) fun t19 =>
 some ⟨.nm,ux145 e 19 t19,h⟩) fun e h =>
 br (e.s k145 19) (bf (stZ 1 h (e.s k145 7) (.int .i64 1)) fun _ h1 =>
 some ⟨.nm,ux145 e 0 (e.s k145 0),h1⟩)
 (some ⟨.nm,e,h⟩)) fun e h =>
 sq (bc k145 [20,21] e (K 169 [e.s k145 0,(.int .i64 1),e.s k145 7] h) fun t21 h1 =>
 some ⟨.nm,ux145 e 21 t21,h1⟩) fun e h =>
 sq (bd (binK 0 .shr (e.s k145 8) (.int .u64 3)) fun t23 =>
 bd (binK 0 .and (e.s k145 8) (.int .i64 7)) fun t25 =>
 bf (nw h 3 [(.int .i64 0)]) fun t10 h1 =>
 bf (stZ 1 h1 t10 t25) fun _ h2 =>
 some ⟨.nm,((ux145 e 0 (e.s k145 0)).st 6 t23).st 7 t10,h2⟩) fun e h =>
 sq (bd (binK 0 .add (e.s k145 9) (.int .i64 1)) fun t27 =>
 bc k145 [26,27,28,11] e (K 100 [t27] h) fun t28 h1 =>
 bf (nw h1 3 [(.int .i64 0)]) fun t11 h2 =>
 bf (stZ 1 h2 t11 t28) fun _ h3 =>
 some ⟨.nm,(ux145 e 0 (e.s k145 0)).st 8 t11,h3⟩) fun e h =>
 sq (bd (binK 0 .add (e.s k145 9) (.int .i64 1)) fun t30 =>
 bd (ld h (e.s k145 11)) fun t31 =>
 bd (binK 0 .shl (.int .i64 1) t31) fun t32 =>
 bd (binK 0 .sub t30 t32) fun t33 =>
 bf (nw h 3 [(.int .i64 0)]) fun t12 h1 =>
 bf (stZ 1 h1 t12 t33) fun _ h2 =>
 some ⟨.nm,(ux145 e 0 (e.s k145 0)).st 9 t12,h2⟩) fun e h =>
 sq (bc k145 [34,35,36] e (K 98 [e.s k145 0,(.int .i64 18),e.s k145 1,(.int .i64 0),e.s k145 11] h) fun t36 h1 =>
 some ⟨.nm,ux145 e 36 t36,h1⟩) fun e h =>
 sq (bd (ld h (e.s k145 11)) fun t38 =>
 bc k145 [37,38,39] e (K 169 [e.s k145 0,t38,e.s k145 12] h) fun t39 h1 =>
 some ⟨.nm,ux145 e 39 t39,h1⟩) fun e h =>
 sq (bc k145 [40,41,42] e (K 98 [e.s k145 0,(.int .i64 19),e.s k145 1,(.int .i64 0),e.s k145 10] h) fun t42 h1 =>
 some ⟨.nm,ux145 e 42 t42,h1⟩) fun e h =>
 sq (bd (ld h (e.s k145 11)) fun t43 =>
 bd (binK 0 .shl (.int .i64 1) t43) fun t44 =>
 bd (ld h (e.s k145 12)) fun t45 =>
 bd (binK 0 .add t44 t45) fun t46 =>
 bd (binK 0 .sub t46 (.int .i64 1)) fun t47 =>
 bd (binK 0 .shl t47 (.int .u64 3)) fun t48 =>
 bd (ld h (e.s k145 10)) fun t49 =>
 bd (binK 0 .or t48 t49) fun t50 =>
 ck (ld h (e.s k145 11)) t43 (ck (ld h (e.s k145 12)) t45 (ck (ld h (e.s k145 10)) t49 (some ⟨.nm,(ux145 e 8 t50).st 5 t50,h⟩)))) fun e h =>
 sq (sq (bd (ld h (e.s k145 7)) fun t51 =>
 bd (binK 0 .eql t51 (.int .i64 1)) fun t52 =>
 some ⟨.nm,ux145 e 52 t52,h⟩) fun e h =>
 br (e.s k145 52) (sq (bd (unV .neg (e.s k145 8)) fun t54 =>
 bd (binK 0 .sub t54 (.int .i64 1)) fun t55 =>
 some ⟨.nm,(ux145 e 6 t55).st 3 t55,h⟩) fun e h =>
 some ⟨.rt,e,h⟩)
 (some ⟨.nm,e,h⟩)) fun e h =>
 sq (bd (binK 0 .add (e.s k145 8) (.int .i64 1)) fun t57 =>
 some ⟨.nm,(ux145 e 6 t57).st 3 t57,h⟩) fun e h =>
 some ⟨.rt,e,h⟩
def f145 (K:Oracle) (L:Looper) (p0 p1 p2:V) (h:H):Option (Rv × H):=fin Tryz.prog k145 [.tmp 6] (s145 K L ⟨[p0,p1,p2,V.und,V.und,V.und,V.und,V.und,V.und,V.und],0,p0⟩ h)
theorem r145:(fun K L p0 p1 p2 h=>runFF Tryz.prog kp K L 145 [p0,p1,p2] h)=f145:=by kernel_rfl
@[simp] def k146:List Nat:=[0,1,4,5,7,8]
@[simp] def ux146 (e:E) (t:Nat) (v:V):E:=⟨[e.s k146 0,e.s k146 1,e.s k146 4,e.s k146 5,e.s k146 7,e.s k146 8],t,v⟩
def l146_0 (K:Oracle) (L:Looper) (e:E) (h:H):Out :=
 sq (bd (binK 0 .lss (e.s k146 8) (e.s k146 7)) fun t9 =>
 some ⟨.nm,ux146 e 9 t9,h⟩) fun e h =>
 sq (br (e.s k146 9) (some ⟨.nm,e,h⟩)
 (some ⟨.ex 0,e,h⟩)) fun e h =>
 sq (blk 1 (sq (some ⟨.nm,(ux146 e 5 (e.s k146 8)).st 3 (e.s k146 8),h⟩) fun e h =>
 sq (bd (iaS 1 (e.s k146 0) (e.s k146 5)) fun t14 =>
 bd (ld h t14) fun t15 =>
 bd (binK 0 .eql (e.s k146 1) t15) fun t16 =>
 some ⟨.nm,ux146 e 16 t16,h⟩) fun e h =>
 br (e.s k146 16) (sq (some ⟨.nm,(ux146 e 4 (e.s k146 5)).st 2 (e.s k146 5),h⟩) fun e h =>
 some ⟨.rt,e,h⟩)
 (some ⟨.nm,e,h⟩))) fun e h =>
 bd (binK 0 .add (e.s k146 8) (.int .i64 1)) fun t18 =>
 some ⟨.nm,(ux146 e 8 t18).st 5 t18,h⟩
def s146 (K:Oracle) (L:Looper) (e:E) (h:H):Out :=
 sq (some ⟨.nm,(ux146 e 4 (.int .i64 0)).st 2 (.int .i64 0),h⟩) fun e h =>
 sq (sq (bd (lnS (e.s k146 0)) fun t7 =>
 some ⟨.nm,((ux146 e 8 (.int .i64 0)).st 4 t7).st 5 (.int .i64 0),h⟩) fun e h =>
 blk 0 (L (l146_0 K L) e h)) fun e h =>
 sq (some ⟨.nm,(ux146 e 4 (.int .i64 (-1))).st 2 (.int .i64 (-1)),h⟩) fun e h =>
 some ⟨.rt,e,h⟩
def f146 (K:Oracle) (L:Looper) (p0 p1:V) (h:H):Option (Rv × H):=fin Tryz.prog k146 [.tmp 4] (s146 K L ⟨[p0,p1,V.und,V.und,V.und,V.und],0,p0⟩ h)
theorem r146:(fun K L p0 p1 h=>runFF Tryz.prog kp K L 146 [p0,p1] h)=f146:=by kernel_rfl
@[simp] def k147:List Nat:=[0,2,28]
@[simp] def ux147 (e:E) (t:Nat) (v:V):E:=⟨[e.s k147 0,e.s k147 2,e.s k147 28],t,v⟩
def l147_0 (K:Oracle) (L:Looper) (e:E) (h:H):Out :=
 sq (sq (bd (binK 0 .geq (e.s k147 2) (.int .i64 0)) fun t10 =>
 some ⟨.nm,ux147 e 10 t10,h⟩) fun e h =>
 br (e.s k147 10) (some ⟨.nm,e,h⟩)
 (some ⟨.ex 0,e,h⟩)) fun e h =>
 sq (blk 1 (sq (bd (nilC (e.s k147 0)) fun t14 =>
 bd (fa 0 t14) fun t15 =>
 bd (ld h t15) fun t16 =>
 bd (iaS 1 t16 (e.s k147 2)) fun t18 =>
 bd (ld h t18) fun t19 =>
 bd (binK 0 .add t19 (.int .u8 1)) fun t20 =>
 bd (iaS 1 t16 (e.s k147 2)) fun t21 =>
 bf (stZ 1 h t21 t20) fun _ h1 =>
 some ⟨.nm,ux147 e 0 (e.s k147 0),h1⟩) fun e h =>
 sq (bd (nilC (e.s k147 0)) fun t23 =>
 bd (fa 0 t23) fun t24 =>
 bd (ld h t24) fun t25 =>
 bd (iaS 1 t25 (e.s k147 2)) fun t27 =>
 bd (ld h t27) fun t28 =>
 some ⟨.nm,(ux147 e 28 t28).st 2 t28,h⟩) fun e h =>
 blk 2 (sq (bd (binK 0 .eql (e.s k147 28) (.int .u8 0)) fun t30 =>
 some ⟨.nm,ux147 e 29 t30,h⟩) fun e h =>
 br (e.s k147 29) (some ⟨.nm,e,h⟩)
 (some ⟨.ex 0,e,h⟩)))) fun e h =>
 bd (binK 0 .sub (e.s k147 2) (.int .i64 1)) fun t12 =>
 some ⟨.nm,(ux147 e 2 t12).st 1 t12,h⟩
def s147 (K:Oracle) (L:Looper) (e:E) (h:H):Out :=
 sq (some ⟨.nm,e,h⟩) fun e h =>
 sq (sq (bd (nilC (e.s k147 0)) fun t4 =>
 bd (fa 0 t4) fun t5 =>
 bd (ld h t5) fun t6 =>
 bd (lnS t6) fun t7 =>
 bd (binK 0 .sub t7 (.int .i64 1)) fun t8 =>
 some ⟨.nm,(ux147 e 2 t8).st 1 t8,h⟩) fun e h =>
 blk 0 (L (l147_0 K L) e h)) fun e h =>
 bd (nilC (e.s k147 0)) fun t32 =>
 bd (fa 1 t32) fun t33 =>
 bd (ld h t33) fun t34 =>
 bd (binK 0 .and t34 (.int .u64 4294967295)) fun t35 =>
 bd (nilC (e.s k147 0)) fun t36 =>
 bd (fa 1 t36) fun t37 =>
 bf (stZ 1 h t37 t35) fun _ h1 =>
 some ⟨.nm,ux147 e 0 (e.s k147 0),h1⟩
def f147 (K:Oracle) (L:Looper) (p0:V) (h:H):Option (Rv × H):=fin Tryz.prog k147 [] (s147 K L ⟨[p0,V.und,V.und],0,p0⟩ h)
theorem r147:(fun K L p0 h=>runFF Tryz.prog kp K L 147 [p0] h)=f147:=by kernel_rfl
end
end Go.Proofs.YtbkmdnmncaakdaaGreat
