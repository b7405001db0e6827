import Derived.Test.YtbajipmhnoakeaaGreatPnHn
import Derived.Test.YtbajipmhnoakeaaGreatPnHj
set_option linter.unusedVariables false
set_option linter.unusedSimpArgs false
set_option maxRecDepth 20000
namespace Go.Proofs.YtbajipmhnoakeaaGreat
open Go Go.Zf Go.RowKit Go.WideShapes
open Go.Zf (wi64)
section
variable {Hd:Type}
end
end Go.Proofs.YtbajipmhnoakeaaGreat
