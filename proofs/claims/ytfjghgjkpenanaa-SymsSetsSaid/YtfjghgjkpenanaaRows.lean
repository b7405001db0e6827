/-
  No cell of these rows narrows 'for every input' (looked for: loops, veiled, ifaces, maps, wideKeys, modest, calm, conditions, laid).
  DERIVED. THE GIVEN ROWS OF THIS SEAT. 7 by the template 'for every input the law returns true; each argument reads behind the call as it read before'; 0 by the template 'total and deterministic' (their statements: YtfjghgjkpenanaaTotals.lean).
  GIVEN WITH THE SEED: the statements are not yours to turn. If you find one false, say at which input.
  Laid BY PROGRAM, IN A SANDBOX (cutbox-rows.mjs): the forced cells as the released guide's own fill.sh prints them over the translation c9628de67d63a89f… (all of the seat's roots in one cut). By AI agents, Wed Nov 11 2026. No macro, syntax, notation, axiom, sorry.
-/
import Derived.Test.YtfjghgjkpenanaaChecked
import GoSem.Claim
import GoSem.ClaimJoined
import GoSem.ClaimMapViews
import Derived.JoinedTies
import Derived.KernelRfl
namespace Go.Proofs.Ytfjghgjkpenanaa
/- THE CELL 'sum', in the pinned program and in every row, IS THE sha256 OF THE DUMP (.gsa) THAT YtfjghgjkpenanaaProg.lean LOADS. Nothing in Lean hashes anything: it is a label: what it is worth is what the hold of that sum in a sandbox is worth. -/
noncomputable def Try.pinned : Pinned := { name := "ytfjghgjkpenanaa", sum := "c9628de67d63a89f3de49ed71f693b1549452d6f26aa958f559b800e60eb629e", checked := Try.checked }
namespace Rows
def none {H : Type} : Left H := { results := [], args := [] }

/-- 'zoetropelaw04.SymsWrites': WHATEVER THE INPUT: true; the input reads as it did. -/
def symsWritesSpec : ChangeSpec := { name := "symsWrites", fn := fun _ => fun
  | [d1, d2, d3] => { results := [.lit (.bool true)], args := [d1, d2, d3] }
  | _ => none }
def symsWritesRow : OpenClaim := { program := "ytfjghgjkpenanaa", sum := "c9628de67d63a89f3de49ed71f693b1549452d6f26aa958f559b800e60eb629e", func := "zoetrope/zoetropelaw04.SymsWrites", spec := "symsWrites", unfollowed := true, recurses := true, apart := false }
def SymsWritesSaid : Prop := symsWritesRow.holds Try.pinned (OpenSpec.ofChange symsWritesSpec)

/-- ITS FALSE NEIGHBOUR: 'it returns false'. Refute it at one input. -/
def symsWritesWrong : ChangeSpec := { name := "symsWrites", fn := fun _ => fun
  | [d1, d2, d3] => { results := [.lit (.bool false)], args := [d1, d2, d3] }
  | _ => none }
def SymsWritesWrongFalsely : Prop := symsWritesRow.holds Try.pinned (OpenSpec.ofChange symsWritesWrong)

/-- 'zoetropelaw04.SymsReads': WHATEVER THE INPUT: true; the input reads as it did. -/
def symsReadsSpec : ChangeSpec := { name := "symsReads", fn := fun _ => fun
  | [d1, d2, d3] => { results := [.lit (.bool true)], args := [d1, d2, d3] }
  | _ => none }
def symsReadsRow : OpenClaim := { program := "ytfjghgjkpenanaa", sum := "c9628de67d63a89f3de49ed71f693b1549452d6f26aa958f559b800e60eb629e", func := "zoetrope/zoetropelaw04.SymsReads", spec := "symsReads", unfollowed := true, recurses := true, apart := false }
def SymsReadsSaid : Prop := symsReadsRow.holds Try.pinned (OpenSpec.ofChange symsReadsSpec)

/-- ITS FALSE NEIGHBOUR: 'it returns false'. Refute it at one input. -/
def symsReadsWrong : ChangeSpec := { name := "symsReads", fn := fun _ => fun
  | [d1, d2, d3] => { results := [.lit (.bool false)], args := [d1, d2, d3] }
  | _ => none }
def SymsReadsWrongFalsely : Prop := symsReadsRow.holds Try.pinned (OpenSpec.ofChange symsReadsWrong)

/-- 'zoetropelaw04.SymsBack': WHATEVER THE INPUT: true; the input reads as it did. -/
def symsBackSpec : ChangeSpec := { name := "symsBack", fn := fun _ => fun
  | [d1, d2] => { results := [.lit (.bool true)], args := [d1, d2] }
  | _ => none }
def symsBackRow : OpenClaim := { program := "ytfjghgjkpenanaa", sum := "c9628de67d63a89f3de49ed71f693b1549452d6f26aa958f559b800e60eb629e", func := "zoetrope/zoetropelaw04.SymsBack", spec := "symsBack", unfollowed := true, recurses := true, apart := false }
def SymsBackSaid : Prop := symsBackRow.holds Try.pinned (OpenSpec.ofChange symsBackSpec)

/-- ITS FALSE NEIGHBOUR: 'it returns false'. Refute it at one input. -/
def symsBackWrong : ChangeSpec := { name := "symsBack", fn := fun _ => fun
  | [d1, d2] => { results := [.lit (.bool false)], args := [d1, d2] }
  | _ => none }
def SymsBackWrongFalsely : Prop := symsBackRow.holds Try.pinned (OpenSpec.ofChange symsBackWrong)

/-- 'zoetropelaw04.SymsAny': WHATEVER THE INPUT: true; the input reads as it did. -/
def symsAnySpec : ChangeSpec := { name := "symsAny", fn := fun _ => fun
  | [d1, d2] => { results := [.lit (.bool true)], args := [d1, d2] }
  | _ => none }
def symsAnyRow : OpenClaim := { program := "ytfjghgjkpenanaa", sum := "c9628de67d63a89f3de49ed71f693b1549452d6f26aa958f559b800e60eb629e", func := "zoetrope/zoetropelaw04.SymsAny", spec := "symsAny", unfollowed := true, recurses := true, apart := false }
def SymsAnySaid : Prop := symsAnyRow.holds Try.pinned (OpenSpec.ofChange symsAnySpec)

/-- ITS FALSE NEIGHBOUR: 'it returns false'. Refute it at one input. -/
def symsAnyWrong : ChangeSpec := { name := "symsAny", fn := fun _ => fun
  | [d1, d2] => { results := [.lit (.bool false)], args := [d1, d2] }
  | _ => none }
def SymsAnyWrongFalsely : Prop := symsAnyRow.holds Try.pinned (OpenSpec.ofChange symsAnyWrong)

/-- 'zoetropelaw04.SymsLearn': WHATEVER THE INPUT: true; the input reads as it did. -/
def symsLearnSpec : ChangeSpec := { name := "symsLearn", fn := fun _ => fun
  | [d1, d2, d3] => { results := [.lit (.bool true)], args := [d1, d2, d3] }
  | _ => none }
def symsLearnRow : OpenClaim := { program := "ytfjghgjkpenanaa", sum := "c9628de67d63a89f3de49ed71f693b1549452d6f26aa958f559b800e60eb629e", func := "zoetrope/zoetropelaw04.SymsLearn", spec := "symsLearn", unfollowed := true, recurses := true, apart := false }
def SymsLearnSaid : Prop := symsLearnRow.holds Try.pinned (OpenSpec.ofChange symsLearnSpec)

/-- ITS FALSE NEIGHBOUR: 'it returns false'. Refute it at one input. -/
def symsLearnWrong : ChangeSpec := { name := "symsLearn", fn := fun _ => fun
  | [d1, d2, d3] => { results := [.lit (.bool false)], args := [d1, d2, d3] }
  | _ => none }
def SymsLearnWrongFalsely : Prop := symsLearnRow.holds Try.pinned (OpenSpec.ofChange symsLearnWrong)

/-- 'zoetropelaw04.SymsSets': WHATEVER THE INPUT: true; the input reads as it did. -/
def symsSetsSpec : ChangeSpec := { name := "symsSets", fn := fun _ => fun
  | [d1, d2, d3] => { results := [.lit (.bool true)], args := [d1, d2, d3] }
  | _ => none }
def symsSetsRow : OpenClaim := { program := "ytfjghgjkpenanaa", sum := "c9628de67d63a89f3de49ed71f693b1549452d6f26aa958f559b800e60eb629e", func := "zoetrope/zoetropelaw04.SymsSets", spec := "symsSets", unfollowed := true, recurses := true, apart := false }
def SymsSetsSaid : Prop := symsSetsRow.holds Try.pinned (OpenSpec.ofChange symsSetsSpec)

/-- ITS FALSE NEIGHBOUR: 'it returns false'. Refute it at one input. -/
def symsSetsWrong : ChangeSpec := { name := "symsSets", fn := fun _ => fun
  | [d1, d2, d3] => { results := [.lit (.bool false)], args := [d1, d2, d3] }
  | _ => none }
def SymsSetsWrongFalsely : Prop := symsSetsRow.holds Try.pinned (OpenSpec.ofChange symsSetsWrong)

/-- 'zoetropelaw04.SymsNames': WHATEVER THE INPUT: true; the input reads as it did. -/
def symsNamesSpec : ChangeSpec := { name := "symsNames", fn := fun _ => fun
  | [] => { results := [.lit (.bool true)], args := [] }
  | _ => none }
def symsNamesRow : OpenClaim := { program := "ytfjghgjkpenanaa", sum := "c9628de67d63a89f3de49ed71f693b1549452d6f26aa958f559b800e60eb629e", func := "zoetrope/zoetropelaw04.SymsNames", spec := "symsNames", unfollowed := true, recurses := true, apart := false }
def SymsNamesSaid : Prop := symsNamesRow.holds Try.pinned (OpenSpec.ofChange symsNamesSpec)

/-- ITS FALSE NEIGHBOUR: 'it returns false'. Refute it at one input. -/
def symsNamesWrong : ChangeSpec := { name := "symsNames", fn := fun _ => fun
  | [] => { results := [.lit (.bool false)], args := [] }
  | _ => none }
def SymsNamesWrongFalsely : Prop := symsNamesRow.holds Try.pinned (OpenSpec.ofChange symsNamesWrong)

/- THE SECOND FORM. 'bulk': how many values and letters a reading holds, each counted each time it is reached (what is shared counts as often as it is met; a slice's spare places count too). A statement '..UptoSaid' is the law's where the arguments, and the package variables that the reading takes, are together of bulk at most 1048576: NARROWER than '..Said'. Prove '..Said' where nothing that the law and all that it calls make is longer than what came in: it says more and counts as full. Else prove '..UptoSaid'. A law counts once. -/
mutual
def uptoBulk {H : Type} : DataW H → Nat
  | .lit (.string bytes) => bytes.length + 1
  | .lit _ => 1
  | .nil => 1
  | .ptr d => uptoBulk d + 1
  | .slice elems spare => uptoBulkAll elems + uptoBulkAll spare + 1
  | .agg parts => uptoBulkAll parts + 1
  | .iface _ d => uptoBulk d + 1
  | .map entries => uptoBulkEntries entries + 1
  | .held _ => 1
def uptoBulkAll {H : Type} : List (DataW H) → Nat
  | [] => 0
  | d :: r => uptoBulk d + uptoBulkAll r
def uptoBulkEntries {H : Type} : List (Lit × DataW H) → Nat
  | [] => 0
  | x :: r => uptoBulkEntry x + uptoBulkEntries r
def uptoBulkEntry {H : Type} : Lit × DataW H → Nat
  | (.string bytes, d) => bytes.length + uptoBulk d + 1
  | (_, d) => uptoBulk d + 1
 end
def uptoSmall : (H : Type) → List (DataW H) → Bool := fun _ ds => decide (uptoBulkAll ds ≤ 1048576)
def OpenSpec.upto (s : _root_.Go.ChangeSpec) : _root_.Go.OpenSpec := { _root_.Go.OpenSpec.ofChange s with cond := some uptoSmall }

/-- 'zoetropelaw04.SymsWrites', WHERE WHAT IT READS IS OF BULK AT MOST 1048576: true; the input reads as it did. -/
def symsWritesUptoRow : OpenClaim := { program := "ytfjghgjkpenanaa", sum := "c9628de67d63a89f3de49ed71f693b1549452d6f26aa958f559b800e60eb629e", func := "zoetrope/zoetropelaw04.SymsWrites", spec := "symsWrites", unfollowed := true, recurses := true, apart := false, narrowed := true }
def SymsWritesUptoSaid : Prop := symsWritesUptoRow.holds Try.pinned (OpenSpec.upto symsWritesSpec)

/-- 'zoetropelaw04.SymsReads', WHERE WHAT IT READS IS OF BULK AT MOST 1048576: true; the input reads as it did. -/
def symsReadsUptoRow : OpenClaim := { program := "ytfjghgjkpenanaa", sum := "c9628de67d63a89f3de49ed71f693b1549452d6f26aa958f559b800e60eb629e", func := "zoetrope/zoetropelaw04.SymsReads", spec := "symsReads", unfollowed := true, recurses := true, apart := false, narrowed := true }
def SymsReadsUptoSaid : Prop := symsReadsUptoRow.holds Try.pinned (OpenSpec.upto symsReadsSpec)

/-- 'zoetropelaw04.SymsBack', WHERE WHAT IT READS IS OF BULK AT MOST 1048576: true; the input reads as it did. -/
def symsBackUptoRow : OpenClaim := { program := "ytfjghgjkpenanaa", sum := "c9628de67d63a89f3de49ed71f693b1549452d6f26aa958f559b800e60eb629e", func := "zoetrope/zoetropelaw04.SymsBack", spec := "symsBack", unfollowed := true, recurses := true, apart := false, narrowed := true }
def SymsBackUptoSaid : Prop := symsBackUptoRow.holds Try.pinned (OpenSpec.upto symsBackSpec)

/-- 'zoetropelaw04.SymsAny', WHERE WHAT IT READS IS OF BULK AT MOST 1048576: true; the input reads as it did. -/
def symsAnyUptoRow : OpenClaim := { program := "ytfjghgjkpenanaa", sum := "c9628de67d63a89f3de49ed71f693b1549452d6f26aa958f559b800e60eb629e", func := "zoetrope/zoetropelaw04.SymsAny", spec := "symsAny", unfollowed := true, recurses := true, apart := false, narrowed := true }
def SymsAnyUptoSaid : Prop := symsAnyUptoRow.holds Try.pinned (OpenSpec.upto symsAnySpec)

/-- 'zoetropelaw04.SymsLearn', WHERE WHAT IT READS IS OF BULK AT MOST 1048576: true; the input reads as it did. -/
def symsLearnUptoRow : OpenClaim := { program := "ytfjghgjkpenanaa", sum := "c9628de67d63a89f3de49ed71f693b1549452d6f26aa958f559b800e60eb629e", func := "zoetrope/zoetropelaw04.SymsLearn", spec := "symsLearn", unfollowed := true, recurses := true, apart := false, narrowed := true }
def SymsLearnUptoSaid : Prop := symsLearnUptoRow.holds Try.pinned (OpenSpec.upto symsLearnSpec)

/-- 'zoetropelaw04.SymsSets', WHERE WHAT IT READS IS OF BULK AT MOST 1048576: true; the input reads as it did. -/
def symsSetsUptoRow : OpenClaim := { program := "ytfjghgjkpenanaa", sum := "c9628de67d63a89f3de49ed71f693b1549452d6f26aa958f559b800e60eb629e", func := "zoetrope/zoetropelaw04.SymsSets", spec := "symsSets", unfollowed := true, recurses := true, apart := false, narrowed := true }
def SymsSetsUptoSaid : Prop := symsSetsUptoRow.holds Try.pinned (OpenSpec.upto symsSetsSpec)

/-- 'zoetropelaw04.SymsNames', WHERE WHAT IT READS IS OF BULK AT MOST 1048576: true; the input reads as it did. -/
def symsNamesUptoRow : OpenClaim := { program := "ytfjghgjkpenanaa", sum := "c9628de67d63a89f3de49ed71f693b1549452d6f26aa958f559b800e60eb629e", func := "zoetrope/zoetropelaw04.SymsNames", spec := "symsNames", unfollowed := true, recurses := true, apart := false, narrowed := true }
def SymsNamesUptoSaid : Prop := symsNamesUptoRow.holds Try.pinned (OpenSpec.upto symsNamesSpec)

end Rows
end Go.Proofs.Ytfjghgjkpenanaa
