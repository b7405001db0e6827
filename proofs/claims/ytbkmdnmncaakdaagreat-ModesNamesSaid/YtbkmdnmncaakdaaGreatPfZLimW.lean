import Derived.Test.YtbkmdnmncaakdaaGreatPfZFast
import Derived.Test.YtbkmdnmncaakdaaGreatPfZOver
set_option linter.unusedVariables false
set_option linter.unusedSimpArgs false
namespace Go.Zf
variable{P:Program}
class kD (ov:Ov):Prop where
 mono:∀{K K':Zs} {L L':Yy},Jj K K'->LLe L L'->∀f a h r,ov.run K L f a h=some r->ov.run K' L' f a h=some r
instance:kD lF:=⟨λ_ _ _ _ _ _ e=>by cases e⟩
end Go.Zf
