/-
  No cell of these rows narrows 'for every input' (looked for: loops, veiled, ifaces, maps, wideKeys, modest, calm, conditions, laid).
  DERIVED. THE GIVEN ROWS OF THIS SEAT. 3 by the template 'for every input the law returns true; each argument reads behind the call as it read before'; 0 by the template 'total and deterministic' (their statements: YtbajipmhnoakeaaTotals.lean).
  GIVEN WITH THE SEED: the statements are not yours to turn. If you find one false, say at which input.
  Laid BY PROGRAM, IN A SANDBOX (cutbox-rows.mjs): the forced cells as the released guide's own fill.sh prints them over the translation def1e230c669d4f1… (all of the seat's roots in one cut). By AI agents, Wed Nov 11 2026. No macro, syntax, notation, axiom, sorry.
-/
import Derived.Test.YtbajipmhnoakeaaChecked
import GoSem.Claim
import GoSem.ClaimJoined
import GoSem.ClaimMapViews
import Derived.JoinedTies
import Derived.KernelRfl
namespace Go.Proofs.Ytbajipmhnoakeaa
/- THE CELL 'sum', in the pinned program and in every row, IS THE sha256 OF THE DUMP (.gsa) THAT YtbajipmhnoakeaaProg.lean LOADS. Nothing in Lean hashes anything: it is a label: what it is worth is what the hold of that sum in a sandbox is worth. -/
noncomputable def Try.pinned : Pinned := { name := "ytbajipmhnoakeaa", sum := "def1e230c669d4f18e385efb87dfb66893a311a2e71516e5fae54daca2d82b1d", checked := Try.checked }
namespace Rows
def none {H : Type} : Left H := { results := [], args := [] }

/-- 'zoetropelaw11.CoefsBack': WHATEVER THE INPUT: true; the input reads as it did. -/
def coefsBackSpec : ChangeSpec := { name := "coefsBack", fn := fun _ => fun
  | [d1, d2] => { results := [.lit (.bool true)], args := [d1, d2] }
  | _ => none }
def coefsBackRow : OpenClaim := { program := "ytbajipmhnoakeaa", sum := "def1e230c669d4f18e385efb87dfb66893a311a2e71516e5fae54daca2d82b1d", func := "zoetrope/zoetropelaw11.CoefsBack", spec := "coefsBack", unfollowed := true, recurses := true, apart := false }
def CoefsBackSaid : Prop := coefsBackRow.holds Try.pinned (OpenSpec.ofChange coefsBackSpec)

/-- ITS FALSE NEIGHBOUR: 'it returns false'. Refute it at one input. -/
def coefsBackWrong : ChangeSpec := { name := "coefsBack", fn := fun _ => fun
  | [d1, d2] => { results := [.lit (.bool false)], args := [d1, d2] }
  | _ => none }
def CoefsBackWrongFalsely : Prop := coefsBackRow.holds Try.pinned (OpenSpec.ofChange coefsBackWrong)

/-- 'zoetropelaw11.CoefsAny': WHATEVER THE INPUT: true; the input reads as it did. -/
def coefsAnySpec : ChangeSpec := { name := "coefsAny", fn := fun _ => fun
  | [d1, d2] => { results := [.lit (.bool true)], args := [d1, d2] }
  | _ => none }
def coefsAnyRow : OpenClaim := { program := "ytbajipmhnoakeaa", sum := "def1e230c669d4f18e385efb87dfb66893a311a2e71516e5fae54daca2d82b1d", func := "zoetrope/zoetropelaw11.CoefsAny", spec := "coefsAny", unfollowed := true, recurses := true, apart := false }
def CoefsAnySaid : Prop := coefsAnyRow.holds Try.pinned (OpenSpec.ofChange coefsAnySpec)

/-- ITS FALSE NEIGHBOUR: 'it returns false'. Refute it at one input. -/
def coefsAnyWrong : ChangeSpec := { name := "coefsAny", fn := fun _ => fun
  | [d1, d2] => { results := [.lit (.bool false)], args := [d1, d2] }
  | _ => none }
def CoefsAnyWrongFalsely : Prop := coefsAnyRow.holds Try.pinned (OpenSpec.ofChange coefsAnyWrong)

/-- 'zoetropelaw11.CoefsAmounts': WHATEVER THE INPUT: true; the input reads as it did. -/
def coefsAmountsSpec : ChangeSpec := { name := "coefsAmounts", fn := fun _ => fun
  | [d1, d2, d3] => { results := [.lit (.bool true)], args := [d1, d2, d3] }
  | _ => none }
def coefsAmountsRow : OpenClaim := { program := "ytbajipmhnoakeaa", sum := "def1e230c669d4f18e385efb87dfb66893a311a2e71516e5fae54daca2d82b1d", func := "zoetrope/zoetropelaw11.CoefsAmounts", spec := "coefsAmounts", unfollowed := true, recurses := true, apart := false }
def CoefsAmountsSaid : Prop := coefsAmountsRow.holds Try.pinned (OpenSpec.ofChange coefsAmountsSpec)

/-- ITS FALSE NEIGHBOUR: 'it returns false'. Refute it at one input. -/
def coefsAmountsWrong : ChangeSpec := { name := "coefsAmounts", fn := fun _ => fun
  | [d1, d2, d3] => { results := [.lit (.bool false)], args := [d1, d2, d3] }
  | _ => none }
def CoefsAmountsWrongFalsely : Prop := coefsAmountsRow.holds Try.pinned (OpenSpec.ofChange coefsAmountsWrong)

/- THE SECOND FORM. 'bulk': how many values and letters a reading holds, each counted each time it is reached (what is shared counts as often as it is met; a slice's spare places count too). A statement '..UptoSaid' is the law's where the arguments, and the package variables that the reading takes, are together of bulk at most 1048576: NARROWER than '..Said'. Prove '..Said' where nothing that the law and all that it calls make is longer than what came in: it says more and counts as full. Else prove '..UptoSaid'. A law counts once. -/
mutual
def uptoBulk {H : Type} : DataW H → Nat
  | .lit (.string bytes) => bytes.length + 1
  | .lit _ => 1
  | .nil => 1
  | .ptr d => uptoBulk d + 1
  | .slice elems spare => uptoBulkAll elems + uptoBulkAll spare + 1
  | .agg parts => uptoBulkAll parts + 1
  | .iface _ d => uptoBulk d + 1
  | .map entries => uptoBulkEntries entries + 1
  | .held _ => 1
def uptoBulkAll {H : Type} : List (DataW H) → Nat
  | [] => 0
  | d :: r => uptoBulk d + uptoBulkAll r
def uptoBulkEntries {H : Type} : List (Lit × DataW H) → Nat
  | [] => 0
  | x :: r => uptoBulkEntry x + uptoBulkEntries r
def uptoBulkEntry {H : Type} : Lit × DataW H → Nat
  | (.string bytes, d) => bytes.length + uptoBulk d + 1
  | (_, d) => uptoBulk d + 1
 end
def uptoSmall : (H : Type) → List (DataW H) → Bool := fun _ ds => decide (uptoBulkAll ds ≤ 1048576)
def OpenSpec.upto (s : _root_.Go.ChangeSpec) : _root_.Go.OpenSpec := { _root_.Go.OpenSpec.ofChange s with cond := some uptoSmall }

/-- 'zoetropelaw11.CoefsBack', WHERE WHAT IT READS IS OF BULK AT MOST 1048576: true; the input reads as it did. -/
def coefsBackUptoRow : OpenClaim := { program := "ytbajipmhnoakeaa", sum := "def1e230c669d4f18e385efb87dfb66893a311a2e71516e5fae54daca2d82b1d", func := "zoetrope/zoetropelaw11.CoefsBack", spec := "coefsBack", unfollowed := true, recurses := true, apart := false, narrowed := true }
def CoefsBackUptoSaid : Prop := coefsBackUptoRow.holds Try.pinned (OpenSpec.upto coefsBackSpec)

/-- 'zoetropelaw11.CoefsAny', WHERE WHAT IT READS IS OF BULK AT MOST 1048576: true; the input reads as it did. -/
def coefsAnyUptoRow : OpenClaim := { program := "ytbajipmhnoakeaa", sum := "def1e230c669d4f18e385efb87dfb66893a311a2e71516e5fae54daca2d82b1d", func := "zoetrope/zoetropelaw11.CoefsAny", spec := "coefsAny", unfollowed := true, recurses := true, apart := false, narrowed := true }
def CoefsAnyUptoSaid : Prop := coefsAnyUptoRow.holds Try.pinned (OpenSpec.upto coefsAnySpec)

/-- 'zoetropelaw11.CoefsAmounts', WHERE WHAT IT READS IS OF BULK AT MOST 1048576: true; the input reads as it did. -/
def coefsAmountsUptoRow : OpenClaim := { program := "ytbajipmhnoakeaa", sum := "def1e230c669d4f18e385efb87dfb66893a311a2e71516e5fae54daca2d82b1d", func := "zoetrope/zoetropelaw11.CoefsAmounts", spec := "coefsAmounts", unfollowed := true, recurses := true, apart := false, narrowed := true }
def CoefsAmountsUptoSaid : Prop := coefsAmountsUptoRow.holds Try.pinned (OpenSpec.upto coefsAmountsSpec)

end Rows
end Go.Proofs.Ytbajipmhnoakeaa
