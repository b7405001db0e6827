/-
  No cell of these rows narrows 'for every input' (looked for: loops, veiled, ifaces, maps, wideKeys, modest, calm, conditions, laid).
  DERIVED. THE GIVEN ROWS OF THIS SEAT. 4 by the template 'for every input the law returns true; each argument reads behind the call as it read before'; 0 by the template 'total and deterministic' (their statements: YtbkmdnmncaakdaaGreatTotals.lean).
  GIVEN WITH THE SEED: the statements are not yours to turn. If you find one false, say at which input.
  Laid BY PROGRAM, IN A SANDBOX (cutbox-rows.mjs): the forced cells as the released guide's own fill.sh prints them over the translation 9ee5296505e99737… (all of the seat's roots in one cut). By AI agents, Wed Nov 11 2026. No macro, syntax, notation, axiom, sorry.
-/
import Derived.Test.YtbkmdnmncaakdaaGreatChecked
import GoSem.Claim
import GoSem.ClaimJoined
import GoSem.ClaimMapViews
import Derived.JoinedTies
import Derived.KernelRfl
namespace Go.Proofs.YtbkmdnmncaakdaaGreat
/- THE CELL 'sum', in the pinned program and in every row, IS THE sha256 OF THE DUMP (.gsa) THAT YtbkmdnmncaakdaaGreatProg.lean LOADS. Nothing in Lean hashes anything: it is a label: what it is worth is what the hold of that sum in a sandbox is worth. -/
noncomputable def Tryz.pinned : Pinned := { name := "ytbkmdnmncaakdaagreat", sum := "9ee5296505e9973721a748f4afa349a0ac2cfb4862f6a54f6b17f4993ce89bcd", checked := Tryz.checked }
namespace Rows
def none {H : Type} : Left H := { results := [], args := [] }

/-- 'zoetropelaw18.ModesBack': WHATEVER THE INPUT: true; the input reads as it did. -/
def modesBackSpec : ChangeSpec := { name := "modesBack", fn := fun _ => fun
  | [d1, d2, d3] => { results := [.lit (.bool true)], args := [d1, d2, d3] }
  | _ => none }
def modesBackRow : OpenClaim := { program := "ytbkmdnmncaakdaagreat", sum := "9ee5296505e9973721a748f4afa349a0ac2cfb4862f6a54f6b17f4993ce89bcd", func := "zoetrope/zoetropelaw18.ModesBack", spec := "modesBack", unfollowed := true, recurses := true, plainKeys := false, apart := false }
def ModesBackSaid : Prop := modesBackRow.holds Tryz.pinned (OpenSpec.ofChange modesBackSpec)

/-- ITS FALSE NEIGHBOUR: 'it returns false'. Refute it at one input. -/
def modesBackWrong : ChangeSpec := { name := "modesBack", fn := fun _ => fun
  | [d1, d2, d3] => { results := [.lit (.bool false)], args := [d1, d2, d3] }
  | _ => none }
def ModesBackWrongFalsely : Prop := modesBackRow.holds Tryz.pinned (OpenSpec.ofChange modesBackWrong)

/-- 'zoetropelaw18.ModesReads': WHATEVER THE INPUT: true; the input reads as it did. -/
def modesReadsSpec : ChangeSpec := { name := "modesReads", fn := fun _ => fun
  | [d1, d2, d3] => { results := [.lit (.bool true)], args := [d1, d2, d3] }
  | _ => none }
def modesReadsRow : OpenClaim := { program := "ytbkmdnmncaakdaagreat", sum := "9ee5296505e9973721a748f4afa349a0ac2cfb4862f6a54f6b17f4993ce89bcd", func := "zoetrope/zoetropelaw18.ModesReads", spec := "modesReads", unfollowed := true, recurses := true, plainKeys := false, apart := false }
def ModesReadsSaid : Prop := modesReadsRow.holds Tryz.pinned (OpenSpec.ofChange modesReadsSpec)

/-- ITS FALSE NEIGHBOUR: 'it returns false'. Refute it at one input. -/
def modesReadsWrong : ChangeSpec := { name := "modesReads", fn := fun _ => fun
  | [d1, d2, d3] => { results := [.lit (.bool false)], args := [d1, d2, d3] }
  | _ => none }
def ModesReadsWrongFalsely : Prop := modesReadsRow.holds Tryz.pinned (OpenSpec.ofChange modesReadsWrong)

/-- 'zoetropelaw18.ModesWrites': WHATEVER THE INPUT: true; the input reads as it did. -/
def modesWritesSpec : ChangeSpec := { name := "modesWrites", fn := fun _ => fun
  | [d1, d2, d3] => { results := [.lit (.bool true)], args := [d1, d2, d3] }
  | _ => none }
def modesWritesRow : OpenClaim := { program := "ytbkmdnmncaakdaagreat", sum := "9ee5296505e9973721a748f4afa349a0ac2cfb4862f6a54f6b17f4993ce89bcd", func := "zoetrope/zoetropelaw18.ModesWrites", spec := "modesWrites", unfollowed := true, recurses := true, plainKeys := false, apart := false }
def ModesWritesSaid : Prop := modesWritesRow.holds Tryz.pinned (OpenSpec.ofChange modesWritesSpec)

/-- ITS FALSE NEIGHBOUR: 'it returns false'. Refute it at one input. -/
def modesWritesWrong : ChangeSpec := { name := "modesWrites", fn := fun _ => fun
  | [d1, d2, d3] => { results := [.lit (.bool false)], args := [d1, d2, d3] }
  | _ => none }
def ModesWritesWrongFalsely : Prop := modesWritesRow.holds Tryz.pinned (OpenSpec.ofChange modesWritesWrong)

/-- 'zoetropelaw18.ModesNames': WHATEVER THE INPUT: true; the input reads as it did. -/
def modesNamesSpec : ChangeSpec := { name := "modesNames", fn := fun _ => fun
  | [] => { results := [.lit (.bool true)], args := [] }
  | _ => none }
def modesNamesRow : OpenClaim := { program := "ytbkmdnmncaakdaagreat", sum := "9ee5296505e9973721a748f4afa349a0ac2cfb4862f6a54f6b17f4993ce89bcd", func := "zoetrope/zoetropelaw18.ModesNames", spec := "modesNames", unfollowed := true, recurses := true, plainKeys := false, apart := false }
def ModesNamesSaid : Prop := modesNamesRow.holds Tryz.pinned (OpenSpec.ofChange modesNamesSpec)

/-- ITS FALSE NEIGHBOUR: 'it returns false'. Refute it at one input. -/
def modesNamesWrong : ChangeSpec := { name := "modesNames", fn := fun _ => fun
  | [] => { results := [.lit (.bool false)], args := [] }
  | _ => none }
def ModesNamesWrongFalsely : Prop := modesNamesRow.holds Tryz.pinned (OpenSpec.ofChange modesNamesWrong)

/- THE SECOND FORM. 'bulk': how many values and letters a reading holds, each counted each time it is reached (what is shared counts as often as it is met; a slice's spare places count too). A statement '..UptoSaid' is the law's where the arguments, and the package variables that the reading takes, are together of bulk at most 1048576: NARROWER than '..Said'. Prove '..Said' where nothing that the law and all that it calls make is longer than what came in: it says more and counts as full. Else prove '..UptoSaid'. A law counts once. -/
mutual
def uptoBulk {H : Type} : DataW H → Nat
  | .lit (.string bytes) => bytes.length + 1
  | .lit _ => 1
  | .nil => 1
  | .ptr d => uptoBulk d + 1
  | .slice elems spare => uptoBulkAll elems + uptoBulkAll spare + 1
  | .agg parts => uptoBulkAll parts + 1
  | .iface _ d => uptoBulk d + 1
  | .map entries => uptoBulkEntries entries + 1
  | .held _ => 1
def uptoBulkAll {H : Type} : List (DataW H) → Nat
  | [] => 0
  | d :: r => uptoBulk d + uptoBulkAll r
def uptoBulkEntries {H : Type} : List (Lit × DataW H) → Nat
  | [] => 0
  | x :: r => uptoBulkEntry x + uptoBulkEntries r
def uptoBulkEntry {H : Type} : Lit × DataW H → Nat
  | (.string bytes, d) => bytes.length + uptoBulk d + 1
  | (_, d) => uptoBulk d + 1
 end
def uptoSmall : (H : Type) → List (DataW H) → Bool := fun _ ds => decide (uptoBulkAll ds ≤ 1048576)
def OpenSpec.upto (s : _root_.Go.ChangeSpec) : _root_.Go.OpenSpec := { _root_.Go.OpenSpec.ofChange s with cond := some uptoSmall }

/-- 'zoetropelaw18.ModesBack', WHERE WHAT IT READS IS OF BULK AT MOST 1048576: true; the input reads as it did. -/
def modesBackUptoRow : OpenClaim := { program := "ytbkmdnmncaakdaagreat", sum := "9ee5296505e9973721a748f4afa349a0ac2cfb4862f6a54f6b17f4993ce89bcd", func := "zoetrope/zoetropelaw18.ModesBack", spec := "modesBack", unfollowed := true, recurses := true, plainKeys := false, apart := false, narrowed := true }
def ModesBackUptoSaid : Prop := modesBackUptoRow.holds Tryz.pinned (OpenSpec.upto modesBackSpec)

/-- 'zoetropelaw18.ModesReads', WHERE WHAT IT READS IS OF BULK AT MOST 1048576: true; the input reads as it did. -/
def modesReadsUptoRow : OpenClaim := { program := "ytbkmdnmncaakdaagreat", sum := "9ee5296505e9973721a748f4afa349a0ac2cfb4862f6a54f6b17f4993ce89bcd", func := "zoetrope/zoetropelaw18.ModesReads", spec := "modesReads", unfollowed := true, recurses := true, plainKeys := false, apart := false, narrowed := true }
def ModesReadsUptoSaid : Prop := modesReadsUptoRow.holds Tryz.pinned (OpenSpec.upto modesReadsSpec)

/-- 'zoetropelaw18.ModesWrites', WHERE WHAT IT READS IS OF BULK AT MOST 1048576: true; the input reads as it did. -/
def modesWritesUptoRow : OpenClaim := { program := "ytbkmdnmncaakdaagreat", sum := "9ee5296505e9973721a748f4afa349a0ac2cfb4862f6a54f6b17f4993ce89bcd", func := "zoetrope/zoetropelaw18.ModesWrites", spec := "modesWrites", unfollowed := true, recurses := true, plainKeys := false, apart := false, narrowed := true }
def ModesWritesUptoSaid : Prop := modesWritesUptoRow.holds Tryz.pinned (OpenSpec.upto modesWritesSpec)

/-- 'zoetropelaw18.ModesNames', WHERE WHAT IT READS IS OF BULK AT MOST 1048576: true; the input reads as it did. -/
def modesNamesUptoRow : OpenClaim := { program := "ytbkmdnmncaakdaagreat", sum := "9ee5296505e9973721a748f4afa349a0ac2cfb4862f6a54f6b17f4993ce89bcd", func := "zoetrope/zoetropelaw18.ModesNames", spec := "modesNames", unfollowed := true, recurses := true, plainKeys := false, apart := false, narrowed := true }
def ModesNamesUptoSaid : Prop := modesNamesUptoRow.holds Tryz.pinned (OpenSpec.upto modesNamesSpec)

end Rows
end Go.Proofs.YtbkmdnmncaakdaaGreat
