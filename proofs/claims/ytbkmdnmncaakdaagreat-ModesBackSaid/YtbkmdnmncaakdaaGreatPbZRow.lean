import Derived.Test.YtbkmdnmncaakdaaGreatPbZDraw
import Derived.Below
set_option linter.unusedVariables false
set_option linter.unusedSimpArgs false
namespace Go.Zf
open Go.RowKit
variable {P:Program}
def H.empty:H:=⟨0,.lf⟩
theorem HRel.empty (i:Inj) (hi:∀ b,i b=none) (w:World):HRel i H.empty w where
 blk:=fun b x h=>by simp [H.get,H.empty] at h
 inj:=fun b c x y p q h=>by simp [H.get,H.empty] at h
 bound:=fun b x h=>by rw [hi] at h;cases h
theorem Fr.below {i i':Inj} {h h':H} {w w':World} (f:Fr i h w i' h' w') (ho:∀ b,¬ h.owns b):Below w.heap.size w w' where
 os:=f.os.1
 tape:=f.os.2
 output:=f.out
 size:=f.size
 block:=fun k hk=>f.keep k hk fun b _ hb=>absurd hb (ho b)
theorem law_calls {f:FuncId} {args:List V} {h h':H} (hc:CallOK P f args h (.ret (.bool true)) h') {i:Inj} {w:World} {us:List Value} (hr:HRel i h w) (hv:VsRel i args us) (hi:∀ b,h.n≤b→i b=none) (ho:∀ b,¬ h.owns b) :
  Calls P f us.toArray w fun e w'=>e=.returned (.bool true)∧Below w.heap.size w w' :=
 (hc i w us hr hv fun b h1 _=>hi b h1).mono fun e w' ⟨i',h1,h2,u,h3,h4⟩=>by
  cases h4
  exact ⟨h3,h2.below ho⟩
end Go.Zf
