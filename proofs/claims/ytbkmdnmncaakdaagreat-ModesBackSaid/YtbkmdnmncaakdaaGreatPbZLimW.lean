import Derived.Test.YtbkmdnmncaakdaaGreatPbZFast
import Derived.Test.YtbkmdnmncaakdaaGreatPbZOver
set_option linter.unusedVariables false
set_option linter.unusedSimpArgs false
namespace Go.Zf
variable {P:Program}
class OvMono (ov:Ov):Prop where
 mono:∀ {K K':Oracle} {L L':Looper},OLe K K'→LLe L L'→∀ f a h r,ov.run K L f a h=some r→ov.run K' L' f a h=some r
instance:OvMono ovNone:=⟨fun _ _ _ _ _ _ e=>by cases e⟩
end Go.Zf
