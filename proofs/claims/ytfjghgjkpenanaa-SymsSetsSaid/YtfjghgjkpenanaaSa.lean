/- No answer is given: runs without fuel. -/
import Derived.Test.YtfjghgjkpenanaaKp
import Derived.Test.YtfjghgjkpenanaaZOver
import Derived.Test.YtfjghgjkpenanaaZLimW
import Derived.Test.YtfjghgjkpenanaaProg
import Derived.RowKit
set_option linter.unusedVariables false
set_option linter.unusedSimpArgs false
namespace Go.Proofs.Ytfjghgjkpenanaa
open Go Go.Zf Go.RowKit

def ov2 : Ov := fun _ _ => none
theorem ov2_ok : OvOK Try.prog ov2 where
  ok := fun f a v e => by cases e
  enters := fun f a v e => by cases e
noncomputable def KW : Oracle := callW Try.prog kp ov2
end Go.Proofs.Ytfjghgjkpenanaa
