import Derived.Test.YtbkmdnmncaakdaaGreatPfT0
import Derived.Test.YtbkmdnmncaakdaaGreatPfT1
import Derived.Test.YtbkmdnmncaakdaaGreatPfT2
import Derived.Test.YtbkmdnmncaakdaaGreatPfZSimp
import Derived.Test.YtbkmdnmncaakdaaGreatPfZTool
import Derived.Test.YtbkmdnmncaakdaaGreatPfZBytes
import Derived.Test.YtbkmdnmncaakdaaGreatProg
import Derived.RowKit
set_option linter.unusedVariables false
set_option linter.unusedSimpArgs false
namespace Go.Proofs.YtbkmdnmncaakdaaGreat
open Go Go.Zf
noncomputable def KW:Zs:=Wm Tryz.prog kp
theorem cw(f:FuncId)(a:List V)(h:H):KW f a h=SM Tryz.prog kp KW ZI f a h:=AO _ _ _ _ _
variable{n:FuncId}{k:List Nat}
theorem W0{r:List ResultVar}{s:So}(e:x0 n=y0 k r s)(h:H):KW n [] h=fin Tryz.prog k r (s KW ZI (VC k []) h):=(cw _ _ _).trans (congrArg (λf=>f KW ZI h) e)
theorem W1{r:List ResultVar}{s:So}(e:x1 n=y1 k r s)(a:V)(h:H):KW n [a] h=fin Tryz.prog k r (s KW ZI (VC k [a]) h):=(cw _ _ _).trans (congrArg (λf=>f KW ZI a h) e)
theorem W2{r:List ResultVar}{s:So}(e:x2 n=y2 k r s)(a b:V)(h:H):KW n [a,b] h=fin Tryz.prog k r (s KW ZI (VC k [a,b]) h):=(cw _ _ _).trans (congrArg (λf=>f KW ZI a b h) e)
theorem W3{r:List ResultVar}{s:So}(e:x3 n=y3 k r s)(a b c:V)(h:H):KW n [a,b,c] h=fin Tryz.prog k r (s KW ZI (VC k [a,b,c]) h):=(cw _ _ _).trans (congrArg (λf=>f KW ZI a b c h) e)
theorem W4{r:List ResultVar}{s:So}(e:x4 n=y4 k r s)(a b c d:V)(h:H):KW n [a,b,c,d] h=fin Tryz.prog k r (s KW ZI (VC k [a,b,c,d]) h):=(cw _ _ _).trans (congrArg (λf=>f KW ZI a b c d h) e)
theorem W5{r:List ResultVar}{s:So}(e:x5 n=y5 k r s)(a b c d g:V)(h:H):KW n [a,b,c,d,g] h=fin Tryz.prog k r (s KW ZI (VC k [a,b,c,d,g]) h):=(cw _ _ _).trans (congrArg (λf=>f KW ZI a b c d g h) e)
theorem W6{r:List ResultVar}{s:So}(e:x6 n=y6 k r s)(a b c d g i:V)(h:H):KW n [a,b,c,d,g,i] h=fin Tryz.prog k r (s KW ZI (VC k [a,b,c,d,g,i]) h):=(cw _ _ _).trans (congrArg (λf=>f KW ZI a b c d g i h) e)
theorem W7{r:List ResultVar}{s:So}(e:x7 n=y7 k r s)(a b c d g i j:V)(h:H):KW n [a,b,c,d,g,i,j] h=fin Tryz.prog k r (s KW ZI (VC k [a,b,c,d,g,i,j]) h):=(cw _ _ _).trans (congrArg (λf=>f KW ZI a b c d g i j h) e)
@[simp ↓] theorem Wq9(k:List Nat)(a:List V):VC k a=⟨k.map (AQ a),0,AQ a 0⟩:=id rfl
@[simp] theorem Wq8(a:List V)(t:Nat):AQ a t=if t<a.length then a.getD t .any else .Wz:=id rfl
end Go.Proofs.YtbkmdnmncaakdaaGreat
