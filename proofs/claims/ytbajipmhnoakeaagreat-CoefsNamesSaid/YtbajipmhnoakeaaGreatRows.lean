/-
  No cell of these rows narrows 'for every input' (looked for: loops, veiled, ifaces, maps, wideKeys, modest, calm, conditions, laid).
  DERIVED. THE GIVEN ROWS OF THIS SEAT. 3 by the template 'for every input the law returns true; each argument reads behind the call as it read before'; 0 by the template 'total and deterministic' (their statements: YtbajipmhnoakeaaGreatTotals.lean).
  GIVEN WITH THE SEED: the statements are not yours to turn. If you find one false, say at which input.
  Laid BY PROGRAM, IN A SANDBOX (cutbox-rows.mjs): the forced cells as the released guide's own fill.sh prints them over the translation 3b25661ec7f9e274… (all of the seat's roots in one cut). By AI agents, Wed Nov 11 2026. No macro, syntax, notation, axiom, sorry.
-/
import Derived.Test.YtbajipmhnoakeaaGreatChecked
import GoSem.Claim
import GoSem.ClaimJoined
import GoSem.ClaimMapViews
import Derived.JoinedTies
import Derived.KernelRfl
namespace Go.Proofs.YtbajipmhnoakeaaGreat
/- THE CELL 'sum', in the pinned program and in every row, IS THE sha256 OF THE DUMP (.gsa) THAT YtbajipmhnoakeaaGreatProg.lean LOADS. Nothing in Lean hashes anything: it is a label: what it is worth is what the hold of that sum in a sandbox is worth. -/
noncomputable def Tryz.pinned : Pinned := { name := "ytbajipmhnoakeaagreat", sum := "3b25661ec7f9e274ef94f80677fb5bd0a05068a626347279f81e9389c3961a8f", checked := Tryz.checked }
namespace Rows
def none {H : Type} : Left H := { results := [], args := [] }

/-- 'zoetropelaw11.CoefsWrites': WHATEVER THE INPUT: true; the input reads as it did. -/
def coefsWritesSpec : ChangeSpec := { name := "coefsWrites", fn := fun _ => fun
  | [d1, d2] => { results := [.lit (.bool true)], args := [d1, d2] }
  | _ => none }
def coefsWritesRow : OpenClaim := { program := "ytbajipmhnoakeaagreat", sum := "3b25661ec7f9e274ef94f80677fb5bd0a05068a626347279f81e9389c3961a8f", func := "zoetrope/zoetropelaw11.CoefsWrites", spec := "coefsWrites", unfollowed := true, recurses := true, apart := false }
def CoefsWritesSaid : Prop := coefsWritesRow.holds Tryz.pinned (OpenSpec.ofChange coefsWritesSpec)

/-- ITS FALSE NEIGHBOUR: 'it returns false'. Refute it at one input. -/
def coefsWritesWrong : ChangeSpec := { name := "coefsWrites", fn := fun _ => fun
  | [d1, d2] => { results := [.lit (.bool false)], args := [d1, d2] }
  | _ => none }
def CoefsWritesWrongFalsely : Prop := coefsWritesRow.holds Tryz.pinned (OpenSpec.ofChange coefsWritesWrong)

/-- 'zoetropelaw11.CoefsReads': WHATEVER THE INPUT: true; the input reads as it did. -/
def coefsReadsSpec : ChangeSpec := { name := "coefsReads", fn := fun _ => fun
  | [d1, d2] => { results := [.lit (.bool true)], args := [d1, d2] }
  | _ => none }
def coefsReadsRow : OpenClaim := { program := "ytbajipmhnoakeaagreat", sum := "3b25661ec7f9e274ef94f80677fb5bd0a05068a626347279f81e9389c3961a8f", func := "zoetrope/zoetropelaw11.CoefsReads", spec := "coefsReads", unfollowed := true, recurses := true, apart := false }
def CoefsReadsSaid : Prop := coefsReadsRow.holds Tryz.pinned (OpenSpec.ofChange coefsReadsSpec)

/-- ITS FALSE NEIGHBOUR: 'it returns false'. Refute it at one input. -/
def coefsReadsWrong : ChangeSpec := { name := "coefsReads", fn := fun _ => fun
  | [d1, d2] => { results := [.lit (.bool false)], args := [d1, d2] }
  | _ => none }
def CoefsReadsWrongFalsely : Prop := coefsReadsRow.holds Tryz.pinned (OpenSpec.ofChange coefsReadsWrong)

/-- 'zoetropelaw11.CoefsNames': WHATEVER THE INPUT: true; the input reads as it did. -/
def coefsNamesSpec : ChangeSpec := { name := "coefsNames", fn := fun _ => fun
  | [] => { results := [.lit (.bool true)], args := [] }
  | _ => none }
def coefsNamesRow : OpenClaim := { program := "ytbajipmhnoakeaagreat", sum := "3b25661ec7f9e274ef94f80677fb5bd0a05068a626347279f81e9389c3961a8f", func := "zoetrope/zoetropelaw11.CoefsNames", spec := "coefsNames", unfollowed := true, recurses := true, apart := false }
def CoefsNamesSaid : Prop := coefsNamesRow.holds Tryz.pinned (OpenSpec.ofChange coefsNamesSpec)

/-- ITS FALSE NEIGHBOUR: 'it returns false'. Refute it at one input. -/
def coefsNamesWrong : ChangeSpec := { name := "coefsNames", fn := fun _ => fun
  | [] => { results := [.lit (.bool false)], args := [] }
  | _ => none }
def CoefsNamesWrongFalsely : Prop := coefsNamesRow.holds Tryz.pinned (OpenSpec.ofChange coefsNamesWrong)

/- THE SECOND FORM. 'bulk': how many values and letters a reading holds, each counted each time it is reached (what is shared counts as often as it is met; a slice's spare places count too). A statement '..UptoSaid' is the law's where the arguments, and the package variables that the reading takes, are together of bulk at most 1048576: NARROWER than '..Said'. Prove '..Said' where nothing that the law and all that it calls make is longer than what came in: it says more and counts as full. Else prove '..UptoSaid'. A law counts once. -/
mutual
def uptoBulk {H : Type} : DataW H → Nat
  | .lit (.string bytes) => bytes.length + 1
  | .lit _ => 1
  | .nil => 1
  | .ptr d => uptoBulk d + 1
  | .slice elems spare => uptoBulkAll elems + uptoBulkAll spare + 1
  | .agg parts => uptoBulkAll parts + 1
  | .iface _ d => uptoBulk d + 1
  | .map entries => uptoBulkEntries entries + 1
  | .held _ => 1
def uptoBulkAll {H : Type} : List (DataW H) → Nat
  | [] => 0
  | d :: r => uptoBulk d + uptoBulkAll r
def uptoBulkEntries {H : Type} : List (Lit × DataW H) → Nat
  | [] => 0
  | x :: r => uptoBulkEntry x + uptoBulkEntries r
def uptoBulkEntry {H : Type} : Lit × DataW H → Nat
  | (.string bytes, d) => bytes.length + uptoBulk d + 1
  | (_, d) => uptoBulk d + 1
 end
def uptoSmall : (H : Type) → List (DataW H) → Bool := fun _ ds => decide (uptoBulkAll ds ≤ 1048576)
def OpenSpec.upto (s : _root_.Go.ChangeSpec) : _root_.Go.OpenSpec := { _root_.Go.OpenSpec.ofChange s with cond := some uptoSmall }

/-- 'zoetropelaw11.CoefsWrites', WHERE WHAT IT READS IS OF BULK AT MOST 1048576: true; the input reads as it did. -/
def coefsWritesUptoRow : OpenClaim := { program := "ytbajipmhnoakeaagreat", sum := "3b25661ec7f9e274ef94f80677fb5bd0a05068a626347279f81e9389c3961a8f", func := "zoetrope/zoetropelaw11.CoefsWrites", spec := "coefsWrites", unfollowed := true, recurses := true, apart := false, narrowed := true }
def CoefsWritesUptoSaid : Prop := coefsWritesUptoRow.holds Tryz.pinned (OpenSpec.upto coefsWritesSpec)

/-- 'zoetropelaw11.CoefsReads', WHERE WHAT IT READS IS OF BULK AT MOST 1048576: true; the input reads as it did. -/
def coefsReadsUptoRow : OpenClaim := { program := "ytbajipmhnoakeaagreat", sum := "3b25661ec7f9e274ef94f80677fb5bd0a05068a626347279f81e9389c3961a8f", func := "zoetrope/zoetropelaw11.CoefsReads", spec := "coefsReads", unfollowed := true, recurses := true, apart := false, narrowed := true }
def CoefsReadsUptoSaid : Prop := coefsReadsUptoRow.holds Tryz.pinned (OpenSpec.upto coefsReadsSpec)

/-- 'zoetropelaw11.CoefsNames', WHERE WHAT IT READS IS OF BULK AT MOST 1048576: true; the input reads as it did. -/
def coefsNamesUptoRow : OpenClaim := { program := "ytbajipmhnoakeaagreat", sum := "3b25661ec7f9e274ef94f80677fb5bd0a05068a626347279f81e9389c3961a8f", func := "zoetrope/zoetropelaw11.CoefsNames", spec := "coefsNames", unfollowed := true, recurses := true, apart := false, narrowed := true }
def CoefsNamesUptoSaid : Prop := coefsNamesUptoRow.holds Tryz.pinned (OpenSpec.upto coefsNamesSpec)

end Rows
end Go.Proofs.YtbajipmhnoakeaaGreat
