import Derived.Test.YtbkmdnmncaakdaaGreatPbKp
set_option linter.unusedVariables false
set_option linter.unusedSimpArgs false
namespace Go.Proofs.YtbkmdnmncaakdaaGreat
open Go Go.Zf
noncomputable section
@[simp] def k162:List Nat:=[0,1,4]
@[simp] def ux162 (e:E) (t:Nat) (v:V):E:=⟨[e.s k162 0,e.s k162 1,e.s k162 4],t,v⟩
def s162 (K:Oracle) (L:Looper) (e:E) (h:H):Out :=
 sq (some ⟨.nm,(ux162 e 4 (.bool false)).st 2 (.bool false),h⟩) fun e h =>
 sq (bc k162 [5,6,7,8,9,10,11,12,13,14,15,16,4] e (K 174 [e.s k162 0] h) fun t6 h1 =>
 bd (gl t6 true (some (e.s k162 1))) fun t8 =>
 bc k162 [5,6,7,8,9,10,11,12,13,14,15,16,4] e (gk t6 true h1 (K 174 [t8] h1)) fun t9 h2 =>
 bd (gl t6 true (unV .not t9)) fun t10 =>
 bd (pk t6 t10 (.bool false)) fun t11 =>
 bd (gl t11 false (some (e.s k162 0))) fun t13 =>
 bd (gl t11 false (some (e.s k162 1))) fun t14 =>
 bd (gl t11 false (binK 0 .lss t13 t14)) fun t15 =>
 bd (pk t11 (.bool true) t15) fun t16 =>
 some ⟨.nm,(ux162 e 4 t16).st 2 t16,h2⟩) fun e h =>
 some ⟨.rt,e,h⟩
def f162 (K:Oracle) (L:Looper) (p0 p1:V) (h:H):Option (Rv × H):=fin Tryz.prog k162 [.tmp 4] (s162 K L ⟨[p0,p1,V.und],0,p0⟩ h)
theorem r162:(fun K L p0 p1 h=>runFF Tryz.prog kp K L 162 [p0,p1] h)=f162:=by kernel_rfl
@[simp] def k163:List Nat:=[0,2]
@[simp] def ux163 (e:E) (t:Nat) (v:V):E:=⟨[e.s k163 0,e.s k163 2],t,v⟩
def s163 (K:Oracle) (L:Looper) (e:E) (h:H):Out :=
 sq (some ⟨.nm,(ux163 e 2 (.int .u32 0)).st 1 (.int .u32 0),h⟩) fun e h =>
 sq (bd (nilC (e.s k163 0)) fun t4 =>
 bd (fa 1 t4) fun t5 =>
 bd (ld h t5) fun t6 =>
 bd (nilC (e.s k163 0)) fun t8 =>
 bd (fa 2 t8) fun t9 =>
 bd (ld h t9) fun t10 =>
 bd (binK 0 .shr t10 (.int .u64 15)) fun t11 =>
 bd (binK 0 .quo t6 t11) fun t12 =>
 bd (minV [t12,(.int .u32 32767)]) fun t13 =>
 ck (ld h t5) t6 (ck (ld h t9) t10 (some ⟨.nm,(ux163 e 2 t13).st 1 t13,h⟩))) fun e h =>
 some ⟨.rt,e,h⟩
def f163 (K:Oracle) (L:Looper) (p0:V) (h:H):Option (Rv × H):=fin Tryz.prog k163 [.tmp 2] (s163 K L ⟨[p0,V.und],0,p0⟩ h)
theorem r163:(fun K L p0 h=>runFF Tryz.prog kp K L 163 [p0] h)=f163:=by kernel_rfl
@[simp] def k164:List Nat:=[0,1,2,4]
@[simp] def ux164 (e:E) (t:Nat) (v:V):E:=⟨[e.s k164 0,e.s k164 1,e.s k164 2,e.s k164 4],t,v⟩
def s164 (K:Oracle) (L:Looper) (e:E) (h:H):Out :=
 sq (bf (bx h 101 (e.s k164 0)) fun t2 h1 =>
 some ⟨.nm,((ux164 e 4 (.int .u32 0)).st 2 t2).st 3 (.int .u32 0),h1⟩) fun e h =>
 sq (sq (bd (binK 0 .lss (e.s k164 1) (.int .i64 0)) fun t6 =>
 some ⟨.nm,ux164 e 6 t6,h⟩) fun e h =>
 br (e.s k164 6) (sq (some ⟨.nm,(ux164 e 4 (.int .u32 0)).st 3 (.int .u32 0),h⟩) fun e h =>
 some ⟨.rt,e,h⟩)
 (some ⟨.nm,e,h⟩)) fun e h =>
 sq (bd (fa 0 (e.s k164 2)) fun t7 =>
 bd (ld h t7) fun t8 =>
 bd (iaS 1 t8 (e.s k164 1)) fun t10 =>
 bd (ld h t10) fun t11 =>
 bd (cv .u32 t11) fun t12 =>
 bd (fa 0 (e.s k164 2)) fun t13 =>
 bd (ld h t13) fun t14 =>
 bd (lnS t14) fun t15 =>
 bd (binK 0 .mul (.int .i64 4) t15) fun t16 =>
 bd (binK 0 .sub (.int .i64 32768) t16) fun t17 =>
 bd (cv .u32 t17) fun t18 =>
 bd (binK 0 .mul t12 t18) fun t19 =>
 bd (binK 0 .shr t19 (.int .u64 15)) fun t20 =>
 bd (binK 0 .add (e.s k164 1) (.int .i64 1)) fun t22 =>
 bd (binK 0 .mul (.int .i64 4) t22) fun t23 =>
 bd (cv .u32 t23) fun t24 =>
 bd (binK 0 .add t20 t24) fun t25 =>
 ck (ld h t7) t8 (ck (ld h t10) t11 (ck (ld h t13) t14 (some ⟨.nm,(ux164 e 4 t25).st 3 t25,h⟩)))) fun e h =>
 some ⟨.rt,e,h⟩
def f164 (K:Oracle) (L:Looper) (p0 p1:V) (h:H):Option (Rv × H):=fin Tryz.prog k164 [.tmp 4] (s164 K L ⟨[p0,p1,V.und,V.und],0,p0⟩ h)
theorem r164:(fun K L p0 p1 h=>runFF Tryz.prog kp K L 164 [p0,p1] h)=f164:=by kernel_rfl
@[simp] def k165:List Nat:=[0,1,2,6,7,8]
@[simp] def ux165 (e:E) (t:Nat) (v:V):E:=⟨[e.s k165 0,e.s k165 1,e.s k165 2,e.s k165 6,e.s k165 7,e.s k165 8],t,v⟩
def s165 (K:Oracle) (L:Looper) (e:E) (h:H):Out :=
 sq (some ⟨.nm,((ux165 e 7 (.int .u32 0)).st 3 (.int .u32 0)).st 4 (.int .u32 0),h⟩) fun e h =>
 sq (bd (binK 0 .shr (e.s k165 0) (.int .u64 15)) fun t10 =>
 some ⟨.nm,(ux165 e 8 t10).st 5 t10,h⟩) fun e h =>
 sq (bd (binK 0 .mul (e.s k165 8) (e.s k165 1)) fun t13 =>
 some ⟨.nm,(ux165 e 6 t13).st 3 t13,h⟩) fun e h =>
 sq (sq (bd (binK 0 .eql (e.s k165 2) (.int .u32 32768)) fun t15 =>
 some ⟨.nm,ux165 e 15 t15,h⟩) fun e h =>
 br (e.s k165 15) (sq (bd (binK 0 .sub (e.s k165 0) (e.s k165 6)) fun t19 =>
 some ⟨.nm,(ux165 e 7 t19).st 4 t19,h⟩) fun e h =>
 some ⟨.rt,e,h⟩)
 (some ⟨.nm,e,h⟩)) fun e h =>
 sq (bd (binK 0 .sub (e.s k165 2) (e.s k165 1)) fun t24 =>
 bd (binK 0 .mul (e.s k165 8) t24) fun t25 =>
 some ⟨.nm,(ux165 e 7 t25).st 4 t25,h⟩) fun e h =>
 some ⟨.rt,e,h⟩
def f165 (K:Oracle) (L:Looper) (p0 p1 p2:V) (h:H):Option (Rv × H):=fin Tryz.prog k165 [.tmp 6,.tmp 7] (s165 K L ⟨[p0,p1,p2,V.und,V.und,V.und],0,p0⟩ h)
theorem r165:(fun K L p0 p1 p2 h=>runFF Tryz.prog kp K L 165 [p0,p1,p2] h)=f165:=by kernel_rfl
@[simp] def k166:List Nat:=[0,1,3,4,5,7,8]
@[simp] def ux166 (e:E) (t:Nat) (v:V):E:=⟨[e.s k166 0,e.s k166 1,e.s k166 3,e.s k166 4,e.s k166 5,e.s k166 7,e.s k166 8],t,v⟩
def l166_0 (K:Oracle) (L:Looper) (e:E) (h:H):Out :=
 sq (bd (binK 0 .lss (e.s k166 8) (e.s k166 7)) fun t9 =>
 some ⟨.nm,ux166 e 9 t9,h⟩) fun e h =>
 sq (br (e.s k166 9) (some ⟨.nm,e,h⟩)
 (some ⟨.ex 0,e,h⟩)) fun e h =>
 sq (blk 1 (sq (some ⟨.nm,(ux166 e 5 (e.s k166 8)).st 4 (e.s k166 8),h⟩) fun e h =>
 sq (bd (ldn 2 h (e.s k166 3)) fun t11 =>
 bd (iaS 2 (e.s k166 0) (e.s k166 5)) fun t14 =>
 bd (ldn 2 h t14) fun t15 =>
 bd (binS [.i .i64,.i .i64] .eql t11 t15) fun t16 =>
 ck (ldn 2 h (e.s k166 3)) t11 (ck (ldn 2 h t14) t15 (some ⟨.nm,ux166 e 16 t16,h⟩))) fun e h =>
 br (e.s k166 16) (sq (some ⟨.nm,(ux166 e 4 (e.s k166 5)).st 3 (e.s k166 5),h⟩) fun e h =>
 some ⟨.rt,e,h⟩)
 (some ⟨.nm,e,h⟩))) fun e h =>
 bd (binK 0 .add (e.s k166 8) (.int .i64 1)) fun t18 =>
 some ⟨.nm,(ux166 e 8 t18).st 6 t18,h⟩
def s166 (K:Oracle) (L:Looper) (e:E) (h:H):Out :=
 sq (bf (bx h 39 (e.s k166 1)) fun t3 h1 =>
 some ⟨.nm,((ux166 e 4 (.int .i64 0)).st 2 t3).st 3 (.int .i64 0),h1⟩) fun e h =>
 sq (sq (bd (lnS (e.s k166 0)) fun t7 =>
 some ⟨.nm,((ux166 e 8 (.int .i64 0)).st 5 t7).st 6 (.int .i64 0),h⟩) fun e h =>
 blk 0 (L (l166_0 K L) e h)) fun e h =>
 sq (some ⟨.nm,(ux166 e 4 (.int .i64 (-1))).st 3 (.int .i64 (-1)),h⟩) fun e h =>
 some ⟨.rt,e,h⟩
def f166 (K:Oracle) (L:Looper) (p0 p1:V) (h:H):Option (Rv × H):=fin Tryz.prog k166 [.tmp 4] (s166 K L ⟨[p0,p1,V.und,V.und,V.und,V.und,V.und],0,p0⟩ h)
theorem r166:(fun K L p0 p1 h=>runFF Tryz.prog kp K L 166 [p0,p1] h)=f166:=by kernel_rfl
@[simp] def k168:List Nat:=[0,2]
@[simp] def ux168 (e:E) (t:Nat) (v:V):E:=⟨[e.s k168 0,e.s k168 2],t,v⟩
def s168 (K:Oracle) (L:Looper) (e:E) (h:H):Out :=
 sq (some ⟨.nm,(ux168 e 2 (.int .i64 0)).st 1 (.int .i64 0),h⟩) fun e h =>
 sq (sq (bd (binK 0 .geq (e.s k168 0) (.int .u64 4294967296)) fun t4 =>
 some ⟨.nm,ux168 e 4 t4,h⟩) fun e h =>
 br (e.s k168 4) (sq (bd (binK 0 .shr (e.s k168 0) (.int .u64 32)) fun t6 =>
 some ⟨.nm,(ux168 e 0 t6).st 0 t6,h⟩) fun e h =>
 some ⟨.nm,(ux168 e 2 (.int .i64 32)).st 1 (.int .i64 32),h⟩)
 (some ⟨.nm,e,h⟩)) fun e h =>
 sq (sq (bd (binK 0 .geq (e.s k168 0) (.int .u64 65536)) fun t8 =>
 some ⟨.nm,ux168 e 8 t8,h⟩) fun e h =>
 br (e.s k168 8) (sq (bd (binK 0 .shr (e.s k168 0) (.int .u64 16)) fun t10 =>
 some ⟨.nm,(ux168 e 0 t10).st 0 t10,h⟩) fun e h =>
 bd (binK 0 .add (e.s k168 2) (.int .i64 16)) fun t12 =>
 some ⟨.nm,(ux168 e 2 t12).st 1 t12,h⟩)
 (some ⟨.nm,e,h⟩)) fun e h =>
 sq (sq (bd (binK 0 .geq (e.s k168 0) (.int .u64 256)) fun t14 =>
 some ⟨.nm,ux168 e 14 t14,h⟩) fun e h =>
 br (e.s k168 14) (sq (bd (binK 0 .shr (e.s k168 0) (.int .u64 8)) fun t16 =>
 some ⟨.nm,(ux168 e 0 t16).st 0 t16,h⟩) fun e h =>
 bd (binK 0 .add (e.s k168 2) (.int .i64 8)) fun t18 =>
 some ⟨.nm,(ux168 e 2 t18).st 1 t18,h⟩)
 (some ⟨.nm,e,h⟩)) fun e h =>
 sq (bd (cv .u8 (e.s k168 0)) fun t21 =>
 bd (ixS (.str [0,1,2,2,3,3,3,3,4,4,4,4,4,4,4,4,5,5,5,5,5,5,5,5,5,5,5,5,5,5,5,5,6,6,6,6,6,6,6,6,6,6,6,6,6,6,6,6,6,6,6,6,6,6,6,6,6,6,6,6,6,6,6,6,7,7,7,7,7,7,7,7,7,7,7,7,7,7,7,7,7,7,7,7,7,7,7,7,7,7,7,7,7,7,7,7,7,7,7,7,7,7,7,7,7,7,7,7,7,7,7,7,7,7,7,7,7,7,7,7,7,7,7,7,7,7,7,7,8,8,8,8,8,8,8,8,8,8,8,8,8,8,8,8,8,8,8,8,8,8,8,8,8,8,8,8,8,8,8,8,8,8,8,8,8,8,8,8,8,8,8,8,8,8,8,8,8,8,8,8,8,8,8,8,8,8,8,8,8,8,8,8,8,8,8,8,8,8,8,8,8,8,8,8,8,8,8,8,8,8,8,8,8,8,8,8,8,8,8,8,8,8,8,8,8,8,8,8,8,8,8,8,8,8,8,8,8,8,8,8,8,8,8,8,8,8,8,8,8,8,8,8,8,8,8,8]) t21) fun t22 =>
 bd (cv .i64 t22) fun t23 =>
 bd (binK 0 .add (e.s k168 2) t23) fun t24 =>
 some ⟨.nm,(ux168 e 2 t24).st 1 t24,h⟩) fun e h =>
 some ⟨.rt,e,h⟩
def f168 (K:Oracle) (L:Looper) (p0:V) (h:H):Option (Rv × H):=fin Tryz.prog k168 [.tmp 2] (s168 K L ⟨[p0,V.und],0,p0⟩ h)
theorem r168:(fun K L p0 h=>runFF Tryz.prog kp K L 168 [p0] h)=f168:=by kernel_rfl
@[simp] def k169:List Nat:=[0,1,2,6]
@[simp] def ux169 (e:E) (t:Nat) (v:V):E:=⟨[e.s k169 0,e.s k169 1,e.s k169 2,e.s k169 6],t,v⟩
def s169 (K:Oracle) (L:Looper) (e:E) (h:H):Out :=
 sq (sq (bd (nilC (e.s k169 0)) fun t8 =>
 bd (fa 1 t8) fun t9 =>
 bd (ld h t9) fun t10 =>
 bd (binK 0 .neq t10 (.int .i64 0)) fun t11 =>
 some ⟨.nm,ux169 e 11 t11,h⟩) fun e h =>
 br (e.s k169 11) (some ⟨.rt,e,h⟩)
 (some ⟨.nm,e,h⟩)) fun e h =>
 sq (some ⟨.nm,(ux169 e 6 (.int .i64 0)).st 3 (.int .i64 0),h⟩) fun e h =>
 sq (bd (some (e.s k169 0)) fun t14 =>
 bd (nilC t14) fun t15 =>
 bd (fa 0 t15) fun t16 =>
 bd (ld h t16) fun t17 =>
 bd (some (e.s k169 1)) fun t18 =>
 bd (some (e.s k169 2)) fun t19 =>
 bd (nilC t19) fun t20 =>
 bd (ld h t20) fun t21 =>
 bk (K 84 [t17,t18,t21] h) (fun tp hp =>
 bd (some (e.s k169 0)) fun t13 =>
 some ⟨.pn tp,fgE k169 [13,14,15,16,17,18,19,20,21,22,12,23,24,6,25,26] e,hp⟩) fun _ _ =>
 bd (nilC (e.s k169 0)) fun t15 =>
 bd (fa 0 t15) fun t16 =>
 bd (ld h t16) fun t17 =>
 bd (nilC (e.s k169 2)) fun t20 =>
 bd (ld h t20) fun t21 =>
 bn (K 84 [t17,e.s k169 1,t21] h) fun t22 h1 =>
 bd (exV t22 0) fun t23 =>
 bd (exV t22 1) fun t24 =>
 bd (nilC (e.s k169 0)) fun t25 =>
 bd (fa 1 t25) fun t26 =>
 bf (stZ 1 h1 t26 t24) fun _ h2 =>
 ck (ld h t16) t17 (ck (ld h t20) t21 (some ⟨.nm,(ux169 e 0 (e.s k169 0)).st 3 t23,h2⟩))) fun e h =>
 sq (bd (nilC (e.s k169 0)) fun t28 =>
 bd (fa 1 t28) fun t29 =>
 bd (ld h t29) fun t30 =>
 bd (binK 0 .eql t30 (.int .i64 0)) fun t31 =>
 some ⟨.nm,ux169 e 31 t31,h⟩) fun e h =>
 br (e.s k169 31) (bd (nilC (e.s k169 2)) fun t34 =>
 bf (stZ 1 h t34 (e.s k169 6)) fun _ h1 =>
 some ⟨.nm,ux169 e 0 (e.s k169 0),h1⟩)
 (some ⟨.nm,e,h⟩)
def f169 (K:Oracle) (L:Looper) (p0 p1 p2:V) (h:H):Option (Rv × H):=fin Tryz.prog k169 [] (s169 K L ⟨[p0,p1,p2,V.und],0,p0⟩ h)
theorem r169:(fun K L p0 p1 p2 h=>runFF Tryz.prog kp K L 169 [p0,p1,p2] h)=f169:=by kernel_rfl
@[simp] def k174:List Nat:=[0,2]
@[simp] def ux174 (e:E) (t:Nat) (v:V):E:=⟨[e.s k174 0,e.s k174 2],t,v⟩
def s174 (K:Oracle) (L:Looper) (e:E) (h:H):Out :=
 sq (some ⟨.nm,(ux174 e 2 (.bool false)).st 1 (.bool false),h⟩) fun e h =>
 sq (bd (binK 0 .neq (e.s k174 0) (e.s k174 0)) fun t5 =>
 some ⟨.nm,(ux174 e 2 t5).st 1 t5,h⟩) fun e h =>
 some ⟨.rt,e,h⟩
def f174 (K:Oracle) (L:Looper) (p0:V) (h:H):Option (Rv × H):=fin Tryz.prog k174 [.tmp 2] (s174 K L ⟨[p0,V.und],0,p0⟩ h)
theorem r174:(fun K L p0 h=>runFF Tryz.prog kp K L 174 [p0] h)=f174:=by kernel_rfl
end
end Go.Proofs.YtbkmdnmncaakdaaGreat
