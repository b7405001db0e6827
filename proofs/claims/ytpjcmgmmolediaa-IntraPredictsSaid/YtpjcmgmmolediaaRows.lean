/-
  No cell of these rows narrows 'for every input' (looked for: loops, veiled, ifaces, maps, wideKeys, modest, calm, conditions, laid).
  DERIVED. THE GIVEN ROWS OF THIS SEAT. 8 by the template 'for every input the law returns true; each argument reads behind the call as it read before'; 0 by the template 'total and deterministic' (their statements: YtpjcmgmmolediaaTotals.lean).
  GIVEN WITH THE SEED: the statements are not yours to turn. If you find one false, say at which input.
  Laid BY PROGRAM, IN A SANDBOX (cutbox-rows.mjs): the forced cells as the released guide's own fill.sh prints them over the translation c6d224283ceaad0b… (all of the seat's roots in one cut). By AI agents, Wed Nov 11 2026. No macro, syntax, notation, axiom, sorry.
-/
import Derived.Test.YtpjcmgmmolediaaChecked
import GoSem.Claim
import GoSem.ClaimJoined
import GoSem.ClaimMapViews
import Derived.JoinedTies
import Derived.KernelRfl
namespace Go.Proofs.Ytpjcmgmmolediaa
/- THE CELL 'sum', in the pinned program and in every row, IS THE sha256 OF THE DUMP (.gsa) THAT YtpjcmgmmolediaaProg.lean LOADS. Nothing in Lean hashes anything: it is a label: what it is worth is what the hold of that sum in a sandbox is worth. -/
noncomputable def Try.pinned : Pinned := { name := "ytpjcmgmmolediaa", sum := "c6d224283ceaad0b37693f3c02eef647ffc0626c426617312deb93734ee552c2", checked := Try.checked }
namespace Rows
def none {H : Type} : Left H := { results := [], args := [] }

/-- 'zoetropelaw12.IntraPredicts': WHATEVER THE INPUT: true; the input reads as it did. -/
def intraPredictsSpec : ChangeSpec := { name := "intraPredicts", fn := fun _ => fun
  | [d1, d2, d3] => { results := [.lit (.bool true)], args := [d1, d2, d3] }
  | _ => none }
def intraPredictsRow : OpenClaim := { program := "ytpjcmgmmolediaa", sum := "c6d224283ceaad0b37693f3c02eef647ffc0626c426617312deb93734ee552c2", func := "zoetrope/zoetropelaw12.IntraPredicts", spec := "intraPredicts", unfollowed := true, recurses := true, apart := false }
def IntraPredictsSaid : Prop := intraPredictsRow.holds Try.pinned (OpenSpec.ofChange intraPredictsSpec)

/-- ITS FALSE NEIGHBOUR: 'it returns false'. Refute it at one input. -/
def intraPredictsWrong : ChangeSpec := { name := "intraPredicts", fn := fun _ => fun
  | [d1, d2, d3] => { results := [.lit (.bool false)], args := [d1, d2, d3] }
  | _ => none }
def IntraPredictsWrongFalsely : Prop := intraPredictsRow.holds Try.pinned (OpenSpec.ofChange intraPredictsWrong)

/-- 'zoetropelaw12.IntraAll': WHATEVER THE INPUT: true; the input reads as it did. -/
def intraAllSpec : ChangeSpec := { name := "intraAll", fn := fun _ => fun
  | [d1, d2] => { results := [.lit (.bool true)], args := [d1, d2] }
  | _ => none }
def intraAllRow : OpenClaim := { program := "ytpjcmgmmolediaa", sum := "c6d224283ceaad0b37693f3c02eef647ffc0626c426617312deb93734ee552c2", func := "zoetrope/zoetropelaw12.IntraAll", spec := "intraAll", unfollowed := true, recurses := true, apart := false }
def IntraAllSaid : Prop := intraAllRow.holds Try.pinned (OpenSpec.ofChange intraAllSpec)

/-- ITS FALSE NEIGHBOUR: 'it returns false'. Refute it at one input. -/
def intraAllWrong : ChangeSpec := { name := "intraAll", fn := fun _ => fun
  | [d1, d2] => { results := [.lit (.bool false)], args := [d1, d2] }
  | _ => none }
def IntraAllWrongFalsely : Prop := intraAllRow.holds Try.pinned (OpenSpec.ofChange intraAllWrong)

/-- 'zoetropelaw12.IntraAngles': WHATEVER THE INPUT: true; the input reads as it did. -/
def intraAnglesSpec : ChangeSpec := { name := "intraAngles", fn := fun _ => fun
  | [d1, d2] => { results := [.lit (.bool true)], args := [d1, d2] }
  | _ => none }
def intraAnglesRow : OpenClaim := { program := "ytpjcmgmmolediaa", sum := "c6d224283ceaad0b37693f3c02eef647ffc0626c426617312deb93734ee552c2", func := "zoetrope/zoetropelaw12.IntraAngles", spec := "intraAngles", unfollowed := true, recurses := true, apart := false }
def IntraAnglesSaid : Prop := intraAnglesRow.holds Try.pinned (OpenSpec.ofChange intraAnglesSpec)

/-- ITS FALSE NEIGHBOUR: 'it returns false'. Refute it at one input. -/
def intraAnglesWrong : ChangeSpec := { name := "intraAngles", fn := fun _ => fun
  | [d1, d2] => { results := [.lit (.bool false)], args := [d1, d2] }
  | _ => none }
def IntraAnglesWrongFalsely : Prop := intraAnglesRow.holds Try.pinned (OpenSpec.ofChange intraAnglesWrong)

/-- 'zoetropelaw12.IntraFlat': WHATEVER THE INPUT: true; the input reads as it did. -/
def intraFlatSpec : ChangeSpec := { name := "intraFlat", fn := fun _ => fun
  | [d1, d2, d3] => { results := [.lit (.bool true)], args := [d1, d2, d3] }
  | _ => none }
def intraFlatRow : OpenClaim := { program := "ytpjcmgmmolediaa", sum := "c6d224283ceaad0b37693f3c02eef647ffc0626c426617312deb93734ee552c2", func := "zoetrope/zoetropelaw12.IntraFlat", spec := "intraFlat", unfollowed := true, recurses := true, apart := false }
def IntraFlatSaid : Prop := intraFlatRow.holds Try.pinned (OpenSpec.ofChange intraFlatSpec)

/-- ITS FALSE NEIGHBOUR: 'it returns false'. Refute it at one input. -/
def intraFlatWrong : ChangeSpec := { name := "intraFlat", fn := fun _ => fun
  | [d1, d2, d3] => { results := [.lit (.bool false)], args := [d1, d2, d3] }
  | _ => none }
def IntraFlatWrongFalsely : Prop := intraFlatRow.holds Try.pinned (OpenSpec.ofChange intraFlatWrong)

/-- 'zoetropelaw12.IntraBetween': WHATEVER THE INPUT: true; the input reads as it did. -/
def intraBetweenSpec : ChangeSpec := { name := "intraBetween", fn := fun _ => fun
  | [d1, d2] => { results := [.lit (.bool true)], args := [d1, d2] }
  | _ => none }
def intraBetweenRow : OpenClaim := { program := "ytpjcmgmmolediaa", sum := "c6d224283ceaad0b37693f3c02eef647ffc0626c426617312deb93734ee552c2", func := "zoetrope/zoetropelaw12.IntraBetween", spec := "intraBetween", unfollowed := true, recurses := true, apart := false }
def IntraBetweenSaid : Prop := intraBetweenRow.holds Try.pinned (OpenSpec.ofChange intraBetweenSpec)

/-- ITS FALSE NEIGHBOUR: 'it returns false'. Refute it at one input. -/
def intraBetweenWrong : ChangeSpec := { name := "intraBetween", fn := fun _ => fun
  | [d1, d2] => { results := [.lit (.bool false)], args := [d1, d2] }
  | _ => none }
def IntraBetweenWrongFalsely : Prop := intraBetweenRow.holds Try.pinned (OpenSpec.ofChange intraBetweenWrong)

/-- 'zoetropelaw12.IntraTurned': WHATEVER THE INPUT: true; the input reads as it did. -/
def intraTurnedSpec : ChangeSpec := { name := "intraTurned", fn := fun _ => fun
  | [d1, d2] => { results := [.lit (.bool true)], args := [d1, d2] }
  | _ => none }
def intraTurnedRow : OpenClaim := { program := "ytpjcmgmmolediaa", sum := "c6d224283ceaad0b37693f3c02eef647ffc0626c426617312deb93734ee552c2", func := "zoetrope/zoetropelaw12.IntraTurned", spec := "intraTurned", unfollowed := true, recurses := true, apart := false }
def IntraTurnedSaid : Prop := intraTurnedRow.holds Try.pinned (OpenSpec.ofChange intraTurnedSpec)

/-- ITS FALSE NEIGHBOUR: 'it returns false'. Refute it at one input. -/
def intraTurnedWrong : ChangeSpec := { name := "intraTurned", fn := fun _ => fun
  | [d1, d2] => { results := [.lit (.bool false)], args := [d1, d2] }
  | _ => none }
def IntraTurnedWrongFalsely : Prop := intraTurnedRow.holds Try.pinned (OpenSpec.ofChange intraTurnedWrong)

/-- 'zoetropelaw12.IntraReads': WHATEVER THE INPUT: true; the input reads as it did. -/
def intraReadsSpec : ChangeSpec := { name := "intraReads", fn := fun _ => fun
  | [d1, d2, d3] => { results := [.lit (.bool true)], args := [d1, d2, d3] }
  | _ => none }
def intraReadsRow : OpenClaim := { program := "ytpjcmgmmolediaa", sum := "c6d224283ceaad0b37693f3c02eef647ffc0626c426617312deb93734ee552c2", func := "zoetrope/zoetropelaw12.IntraReads", spec := "intraReads", unfollowed := true, recurses := true, apart := false }
def IntraReadsSaid : Prop := intraReadsRow.holds Try.pinned (OpenSpec.ofChange intraReadsSpec)

/-- ITS FALSE NEIGHBOUR: 'it returns false'. Refute it at one input. -/
def intraReadsWrong : ChangeSpec := { name := "intraReads", fn := fun _ => fun
  | [d1, d2, d3] => { results := [.lit (.bool false)], args := [d1, d2, d3] }
  | _ => none }
def IntraReadsWrongFalsely : Prop := intraReadsRow.holds Try.pinned (OpenSpec.ofChange intraReadsWrong)

/-- 'zoetropelaw12.IntraKnown': WHATEVER THE INPUT: true; the input reads as it did. -/
def intraKnownSpec : ChangeSpec := { name := "intraKnown", fn := fun _ => fun
  | [] => { results := [.lit (.bool true)], args := [] }
  | _ => none }
def intraKnownRow : OpenClaim := { program := "ytpjcmgmmolediaa", sum := "c6d224283ceaad0b37693f3c02eef647ffc0626c426617312deb93734ee552c2", func := "zoetrope/zoetropelaw12.IntraKnown", spec := "intraKnown", unfollowed := true, recurses := true, apart := false }
def IntraKnownSaid : Prop := intraKnownRow.holds Try.pinned (OpenSpec.ofChange intraKnownSpec)

/-- ITS FALSE NEIGHBOUR: 'it returns false'. Refute it at one input. -/
def intraKnownWrong : ChangeSpec := { name := "intraKnown", fn := fun _ => fun
  | [] => { results := [.lit (.bool false)], args := [] }
  | _ => none }
def IntraKnownWrongFalsely : Prop := intraKnownRow.holds Try.pinned (OpenSpec.ofChange intraKnownWrong)

/- THE SECOND FORM. 'bulk': how many values and letters a reading holds, each counted each time it is reached (what is shared counts as often as it is met; a slice's spare places count too). A statement '..UptoSaid' is the law's where the arguments, and the package variables that the reading takes, are together of bulk at most 1048576: NARROWER than '..Said'. Prove '..Said' where nothing that the law and all that it calls make is longer than what came in: it says more and counts as full. Else prove '..UptoSaid'. A law counts once. -/
mutual
def uptoBulk {H : Type} : DataW H → Nat
  | .lit (.string bytes) => bytes.length + 1
  | .lit _ => 1
  | .nil => 1
  | .ptr d => uptoBulk d + 1
  | .slice elems spare => uptoBulkAll elems + uptoBulkAll spare + 1
  | .agg parts => uptoBulkAll parts + 1
  | .iface _ d => uptoBulk d + 1
  | .map entries => uptoBulkEntries entries + 1
  | .held _ => 1
def uptoBulkAll {H : Type} : List (DataW H) → Nat
  | [] => 0
  | d :: r => uptoBulk d + uptoBulkAll r
def uptoBulkEntries {H : Type} : List (Lit × DataW H) → Nat
  | [] => 0
  | x :: r => uptoBulkEntry x + uptoBulkEntries r
def uptoBulkEntry {H : Type} : Lit × DataW H → Nat
  | (.string bytes, d) => bytes.length + uptoBulk d + 1
  | (_, d) => uptoBulk d + 1
 end
def uptoSmall : (H : Type) → List (DataW H) → Bool := fun _ ds => decide (uptoBulkAll ds ≤ 1048576)
def OpenSpec.upto (s : _root_.Go.ChangeSpec) : _root_.Go.OpenSpec := { _root_.Go.OpenSpec.ofChange s with cond := some uptoSmall }

/-- 'zoetropelaw12.IntraPredicts', WHERE WHAT IT READS IS OF BULK AT MOST 1048576: true; the input reads as it did. -/
def intraPredictsUptoRow : OpenClaim := { program := "ytpjcmgmmolediaa", sum := "c6d224283ceaad0b37693f3c02eef647ffc0626c426617312deb93734ee552c2", func := "zoetrope/zoetropelaw12.IntraPredicts", spec := "intraPredicts", unfollowed := true, recurses := true, apart := false, narrowed := true }
def IntraPredictsUptoSaid : Prop := intraPredictsUptoRow.holds Try.pinned (OpenSpec.upto intraPredictsSpec)

/-- 'zoetropelaw12.IntraAll', WHERE WHAT IT READS IS OF BULK AT MOST 1048576: true; the input reads as it did. -/
def intraAllUptoRow : OpenClaim := { program := "ytpjcmgmmolediaa", sum := "c6d224283ceaad0b37693f3c02eef647ffc0626c426617312deb93734ee552c2", func := "zoetrope/zoetropelaw12.IntraAll", spec := "intraAll", unfollowed := true, recurses := true, apart := false, narrowed := true }
def IntraAllUptoSaid : Prop := intraAllUptoRow.holds Try.pinned (OpenSpec.upto intraAllSpec)

/-- 'zoetropelaw12.IntraAngles', WHERE WHAT IT READS IS OF BULK AT MOST 1048576: true; the input reads as it did. -/
def intraAnglesUptoRow : OpenClaim := { program := "ytpjcmgmmolediaa", sum := "c6d224283ceaad0b37693f3c02eef647ffc0626c426617312deb93734ee552c2", func := "zoetrope/zoetropelaw12.IntraAngles", spec := "intraAngles", unfollowed := true, recurses := true, apart := false, narrowed := true }
def IntraAnglesUptoSaid : Prop := intraAnglesUptoRow.holds Try.pinned (OpenSpec.upto intraAnglesSpec)

/-- 'zoetropelaw12.IntraFlat', WHERE WHAT IT READS IS OF BULK AT MOST 1048576: true; the input reads as it did. -/
def intraFlatUptoRow : OpenClaim := { program := "ytpjcmgmmolediaa", sum := "c6d224283ceaad0b37693f3c02eef647ffc0626c426617312deb93734ee552c2", func := "zoetrope/zoetropelaw12.IntraFlat", spec := "intraFlat", unfollowed := true, recurses := true, apart := false, narrowed := true }
def IntraFlatUptoSaid : Prop := intraFlatUptoRow.holds Try.pinned (OpenSpec.upto intraFlatSpec)

/-- 'zoetropelaw12.IntraBetween', WHERE WHAT IT READS IS OF BULK AT MOST 1048576: true; the input reads as it did. -/
def intraBetweenUptoRow : OpenClaim := { program := "ytpjcmgmmolediaa", sum := "c6d224283ceaad0b37693f3c02eef647ffc0626c426617312deb93734ee552c2", func := "zoetrope/zoetropelaw12.IntraBetween", spec := "intraBetween", unfollowed := true, recurses := true, apart := false, narrowed := true }
def IntraBetweenUptoSaid : Prop := intraBetweenUptoRow.holds Try.pinned (OpenSpec.upto intraBetweenSpec)

/-- 'zoetropelaw12.IntraTurned', WHERE WHAT IT READS IS OF BULK AT MOST 1048576: true; the input reads as it did. -/
def intraTurnedUptoRow : OpenClaim := { program := "ytpjcmgmmolediaa", sum := "c6d224283ceaad0b37693f3c02eef647ffc0626c426617312deb93734ee552c2", func := "zoetrope/zoetropelaw12.IntraTurned", spec := "intraTurned", unfollowed := true, recurses := true, apart := false, narrowed := true }
def IntraTurnedUptoSaid : Prop := intraTurnedUptoRow.holds Try.pinned (OpenSpec.upto intraTurnedSpec)

/-- 'zoetropelaw12.IntraReads', WHERE WHAT IT READS IS OF BULK AT MOST 1048576: true; the input reads as it did. -/
def intraReadsUptoRow : OpenClaim := { program := "ytpjcmgmmolediaa", sum := "c6d224283ceaad0b37693f3c02eef647ffc0626c426617312deb93734ee552c2", func := "zoetrope/zoetropelaw12.IntraReads", spec := "intraReads", unfollowed := true, recurses := true, apart := false, narrowed := true }
def IntraReadsUptoSaid : Prop := intraReadsUptoRow.holds Try.pinned (OpenSpec.upto intraReadsSpec)

/-- 'zoetropelaw12.IntraKnown', WHERE WHAT IT READS IS OF BULK AT MOST 1048576: true; the input reads as it did. -/
def intraKnownUptoRow : OpenClaim := { program := "ytpjcmgmmolediaa", sum := "c6d224283ceaad0b37693f3c02eef647ffc0626c426617312deb93734ee552c2", func := "zoetrope/zoetropelaw12.IntraKnown", spec := "intraKnown", unfollowed := true, recurses := true, apart := false, narrowed := true }
def IntraKnownUptoSaid : Prop := intraKnownUptoRow.holds Try.pinned (OpenSpec.upto intraKnownSpec)

end Rows
end Go.Proofs.Ytpjcmgmmolediaa
