import Derived.Test.YtbkmdnmncaakdaaGreatPfKp
import Derived.Test.YtbkmdnmncaakdaaGreatPfZShort
set_option linter.unusedVariables false
namespace Go.Proofs.YtbkmdnmncaakdaaGreat
open Go Go.Zf
@[simp] def Z0:List V:=[(.int .i64 0),(.int .i64 0),(.int .i64 0),(.int .i64 0),(.bool false),(.bool false),(.int .i64 0),(.int .i64 0),(.int .i64 0),(.int .i64 0),(.int .i64 0),(.int .i64 0),(.int .i64 0),(.bool false),(.int .i64 0),(.int .i64 0),(.int .i64 0),(.int .i64 0),(.int .i64 0),(.int .i64 0),(.int .i64 0),(.int .i64 0),(.bool false),(.bool false),(.int .i64 0),(.int .i64 0)]
@[simp] def Z1:List V:=[(.int .i64 0),(.int .i64 0),(.int .i64 0),(.int .i64 0)]
@[simp] def Z2:List V:=[(.int .i64 0),(.int .i64 0),(.int .i64 0),(.int .i64 0),(.bool false),(.bool false),(.int .i64 0),(.int .i64 0),(.int .i64 0),(.int .i64 0),(.int .i64 0),(.int .i64 0),(.int .i64 0),(.bool false),(.int .i64 0),(.int .i64 0),(.int .i64 0),(.int .i64 0),(.int .i64 0),(.int .i64 0),(.int .i64 0),(.int .i64 0),(.bool false)]
@[simp] def Z3:List V:=[(.int .u8 0),(.int .u8 0),(.int .u8 0),(.int .u8 0),(.int .u8 0),(.int .u8 0),(.int .u8 0),(.int .u8 0),(.int .u8 0)]
@[simp] def Z4:List V:=[(.int .u8 0),(.int .u8 0),(.int .u8 0),(.int .u8 0),(.int .u8 0),(.int .u8 0)]
@[simp] def Z5:List V:=[(.int .i64 0),(.int .i64 0),(.int .i64 0),(.int .i64 0),(.bool false),(.bool false),(.int .i64 0),(.int .i64 0),(.int .i64 0),(.int .i64 0),(.int .i64 0),(.int .i64 0),(.int .i64 0),(.bool false),(.int .i64 0),(.int .i64 0),(.int .i64 0),(.int .i64 0),(.int .i64 0),(.int .i64 0),(.int .i64 0),(.int .i64 0),(.bool false),(.bool false),(.int .i64 0),(.int .i64 0),(.int .i64 0),(.int .i64 0),(.int .i64 0),(.int .i64 0),(.bool false),(.bool false),(.int .i64 0),(.int .i64 0),(.int .i64 0),(.int .i64 0),(.int .i64 0),(.int .i64 0),(.int .i64 0),(.bool false),(.int .i64 0),(.int .i64 0),(.int .i64 0),(.int .i64 0),(.int .i64 0),(.int .i64 0),(.int .i64 0),(.int .i64 0),(.bool false),(.bool false),(.int .i64 0),(.int .i64 0)]
@[simp] def Z6:List V:=[(.bool false),(.bool false),(.bool false),(.bool false),(.bool false),(.bool false),(.bool false),(.bool false)]
@[simp] def Z7:List V:=[(.int .i64 0),(.int .i64 0),(.bool false)]
@[simp] def Z8:List V:=[(.int .i64 0),(.int .i64 0),(.int .i64 0),(.int .i64 0),(.bool false),(.bool false),(.int .i64 0),(.int .i64 0),(.int .i64 0),(.int .i64 0),(.int .i64 0),(.int .i64 0),(.int .i64 0),(.bool false),(.int .i64 0),(.int .i64 0),(.int .i64 0),(.int .i64 0),(.int .i64 0),(.int .i64 0),(.int .i64 0),(.int .i64 0),(.bool false),(.int .i64 0),(.int .i64 0),(.int .i64 0),(.int .i64 0),(.bool false),(.bool false),(.int .i64 0),(.int .i64 0),(.int .i64 0),(.int .i64 0),(.int .i64 0),(.int .i64 0),(.int .i64 0),(.bool false),(.int .i64 0),(.int .i64 0),(.int .i64 0),(.int .i64 0),(.int .i64 0),(.int .i64 0),(.int .i64 0),(.int .i64 0),(.bool false)]
@[simp] def Z9:List V:=[(.int .i64 0),(.int .i64 0),(.bool false),(.int .i64 0),(.int .i64 0),(.bool false),(.int .i64 0),(.int .i64 0),(.bool false),(.int .i64 0),(.int .i64 0),(.bool false),(.int .i64 0),(.int .i64 0),(.bool false),(.int .i64 0),(.int .i64 0),(.bool false),(.int .i64 0),(.int .i64 0),(.bool false),(.int .i64 0),(.int .i64 0),(.bool false),(.int .i64 0),(.int .i64 0),(.bool false),(.int .i64 0),(.int .i64 0),(.bool false),(.int .i64 0),(.int .i64 0),(.bool false),(.int .i64 0),(.int .i64 0),(.bool false),(.int .i64 0),(.int .i64 0),(.bool false),(.int .i64 0),(.int .i64 0),(.bool false),(.int .i64 0),(.int .i64 0),(.bool false),(.int .i64 0),(.int .i64 0),(.bool false),(.int .i64 0),(.int .i64 0),(.bool false),(.int .i64 0),(.int .i64 0),(.bool false),(.int .i64 0),(.int .i64 0),(.bool false),(.int .i64 0),(.int .i64 0),(.bool false),(.int .i64 0),(.int .i64 0),(.bool false),(.int .i64 0),(.int .i64 0),(.bool false),(.int .i64 0),(.int .i64 0),(.bool false),(.int .i64 0),(.int .i64 0),(.bool false),(.int .i64 0),(.int .i64 0),(.bool false),(.int .i64 0),(.int .i64 0),(.bool false),(.int .i64 0),(.int .i64 0),(.bool false),(.int .i64 0),(.int .i64 0),(.bool false),(.int .i64 0),(.int .i64 0),(.bool false),(.int .i64 0),(.int .i64 0),(.bool false),(.int .i64 0),(.int .i64 0),(.bool false),(.int .i64 0),(.int .i64 0),(.bool false)]
@[simp] def Ry:List V:=[(.int .i64 0),(.int .i64 0),(.int .i64 0)]
@[simp] def Z11:List V:=[(.int .i64 0),(.int .i64 0),(.int .i64 0),(.int .i64 0),(.int .i64 0),(.int .i64 0),(.int .i64 0),(.int .i64 0)]
@[simp] def Q0:List Lf:=[.i .i64,.i .i64,.i .i64,.i .i64,.b,.b,.i .i64,.i .i64,.i .i64,.i .i64,.i .i64,.i .i64,.i .i64,.b,.i .i64,.i .i64,.i .i64,.i .i64,.i .i64,.i .i64,.i .i64,.i .i64,.b]
@[simp] def Q1:List Lf:=[.i .i64,.i .i64,.i .i64,.i .i64]
def rg:Nat->Nat->List Nat:=List.range'
section
open Go.Zf
noncomputable def x0(n:FuncId):R0:=λK L h=>SM Tryz.prog kp K L n [] h
noncomputable def y0(k:List Nat)(r:List ResultVar)(s:So):R0:=λK L h=>fin Tryz.prog k r (s K L (VC k []) h)
noncomputable def x1(n:FuncId):R1:=λK L a h=>SM Tryz.prog kp K L n [a] h
noncomputable def y1(k:List Nat)(r:List ResultVar)(s:So):R1:=λK L a h=>fin Tryz.prog k r (s K L (VC k [a]) h)
noncomputable def x2(n:FuncId):R2:=λK L a b h=>SM Tryz.prog kp K L n [a,b] h
noncomputable def y2(k:List Nat)(r:List ResultVar)(s:So):R2:=λK L a b h=>fin Tryz.prog k r (s K L (VC k [a,b]) h)
noncomputable def x3(n:FuncId):R3:=λK L a b c h=>SM Tryz.prog kp K L n [a,b,c] h
noncomputable def y3(k:List Nat)(r:List ResultVar)(s:So):R3:=λK L a b c h=>fin Tryz.prog k r (s K L (VC k [a,b,c]) h)
noncomputable def x4(n:FuncId):R4:=λK L a b c d h=>SM Tryz.prog kp K L n [a,b,c,d] h
noncomputable def y4(k:List Nat)(r:List ResultVar)(s:So):R4:=λK L a b c d h=>fin Tryz.prog k r (s K L (VC k [a,b,c,d]) h)
noncomputable def x5(n:FuncId):R5:=λK L a b c d g h=>SM Tryz.prog kp K L n [a,b,c,d,g] h
noncomputable def y5(k:List Nat)(r:List ResultVar)(s:So):R5:=λK L a b c d g h=>fin Tryz.prog k r (s K L (VC k [a,b,c,d,g]) h)
noncomputable def x6(n:FuncId):R6:=λK L a b c d g i h=>SM Tryz.prog kp K L n [a,b,c,d,g,i] h
noncomputable def y6(k:List Nat)(r:List ResultVar)(s:So):R6:=λK L a b c d g i h=>fin Tryz.prog k r (s K L (VC k [a,b,c,d,g,i]) h)
noncomputable def x7(n:FuncId):R7:=λK L a b c d g i j h=>SM Tryz.prog kp K L n [a,b,c,d,g,i,j] h
noncomputable def y7(k:List Nat)(r:List ResultVar)(s:So):R7:=λK L a b c d g i j h=>fin Tryz.prog k r (s K L (VC k [a,b,c,d,g,i,j]) h)
end
end Go.Proofs.YtbkmdnmncaakdaaGreat
