/-
  No cell of these rows narrows 'for every input' (looked for: loops, veiled, ifaces, maps, wideKeys, modest, calm, conditions, laid).
  DERIVED. THE GIVEN ROWS OF THIS SEAT. 7 by the template 'for every input the law returns true; each argument reads behind the call as it read before'; 0 by the template 'total and deterministic' (their statements: YtpikblkbeoophaaTotals.lean).
  GIVEN WITH THE SEED: the statements are not yours to turn. If you find one false, say at which input.
  Laid BY PROGRAM, IN A SANDBOX (cutbox-rows.mjs): the forced cells as the released guide's own fill.sh prints them over the translation bfa5cb099ed05afa… (all of the seat's roots in one cut). By AI agents, Wed Nov 11 2026. No macro, syntax, notation, axiom, sorry.
-/
import Derived.Test.YtpikblkbeoophaaChecked
import GoSem.Claim
import GoSem.ClaimJoined
import GoSem.ClaimMapViews
import Derived.JoinedTies
import Derived.KernelRfl
namespace Go.Proofs.Ytpikblkbeoophaa
/- THE CELL 'sum', in the pinned program and in every row, IS THE sha256 OF THE DUMP (.gsa) THAT YtpikblkbeoophaaProg.lean LOADS. Nothing in Lean hashes anything: it is a label: what it is worth is what the hold of that sum in a sandbox is worth. -/
noncomputable def Try.pinned : Pinned := { name := "ytpikblkbeoophaa", sum := "bfa5cb099ed05afa4bc0fa1e77e7aca30bdc2de460fffa726097abe0f99bc9cb", checked := Try.checked }
namespace Rows
def none {H : Type} : Left H := { results := [], args := [] }

/-- 'zoetropelaw02.RacPuts': WHATEVER THE INPUT: true; the input reads as it did. -/
def racPutsSpec : ChangeSpec := { name := "racPuts", fn := fun _ => fun
  | [d] => { results := [.lit (.bool true)], args := [d] }
  | _ => none }
def racPutsRow : OpenClaim := { program := "ytpikblkbeoophaa", sum := "bfa5cb099ed05afa4bc0fa1e77e7aca30bdc2de460fffa726097abe0f99bc9cb", func := "zoetrope/zoetropelaw02.RacPuts", spec := "racPuts", apart := false }
def RacPutsSaid : Prop := racPutsRow.holds Try.pinned (OpenSpec.ofChange racPutsSpec)

/-- ITS FALSE NEIGHBOUR: 'it returns false'. Refute it at one input. -/
def racPutsWrong : ChangeSpec := { name := "racPuts", fn := fun _ => fun
  | [d] => { results := [.lit (.bool false)], args := [d] }
  | _ => none }
def RacPutsWrongFalsely : Prop := racPutsRow.holds Try.pinned (OpenSpec.ofChange racPutsWrong)

/-- 'zoetropelaw02.RacTakes': WHATEVER THE INPUT: true; the input reads as it did. -/
def racTakesSpec : ChangeSpec := { name := "racTakes", fn := fun _ => fun
  | [d1, d2] => { results := [.lit (.bool true)], args := [d1, d2] }
  | _ => none }
def racTakesRow : OpenClaim := { program := "ytpikblkbeoophaa", sum := "bfa5cb099ed05afa4bc0fa1e77e7aca30bdc2de460fffa726097abe0f99bc9cb", func := "zoetrope/zoetropelaw02.RacTakes", spec := "racTakes", apart := false }
def RacTakesSaid : Prop := racTakesRow.holds Try.pinned (OpenSpec.ofChange racTakesSpec)

/-- ITS FALSE NEIGHBOUR: 'it returns false'. Refute it at one input. -/
def racTakesWrong : ChangeSpec := { name := "racTakes", fn := fun _ => fun
  | [d1, d2] => { results := [.lit (.bool false)], args := [d1, d2] }
  | _ => none }
def RacTakesWrongFalsely : Prop := racTakesRow.holds Try.pinned (OpenSpec.ofChange racTakesWrong)

/-- 'zoetropelaw02.RacBack': WHATEVER THE INPUT: true; the input reads as it did. -/
def racBackSpec : ChangeSpec := { name := "racBack", fn := fun _ => fun
  | [d] => { results := [.lit (.bool true)], args := [d] }
  | _ => none }
def racBackRow : OpenClaim := { program := "ytpikblkbeoophaa", sum := "bfa5cb099ed05afa4bc0fa1e77e7aca30bdc2de460fffa726097abe0f99bc9cb", func := "zoetrope/zoetropelaw02.RacBack", spec := "racBack", apart := false }
def RacBackSaid : Prop := racBackRow.holds Try.pinned (OpenSpec.ofChange racBackSpec)

/-- ITS FALSE NEIGHBOUR: 'it returns false'. Refute it at one input. -/
def racBackWrong : ChangeSpec := { name := "racBack", fn := fun _ => fun
  | [d] => { results := [.lit (.bool false)], args := [d] }
  | _ => none }
def RacBackWrongFalsely : Prop := racBackRow.holds Try.pinned (OpenSpec.ofChange racBackWrong)

/-- 'zoetropelaw02.RacEndless': WHATEVER THE INPUT: true; the input reads as it did. -/
def racEndlessSpec : ChangeSpec := { name := "racEndless", fn := fun _ => fun
  | [d1, d2] => { results := [.lit (.bool true)], args := [d1, d2] }
  | _ => none }
def racEndlessRow : OpenClaim := { program := "ytpikblkbeoophaa", sum := "bfa5cb099ed05afa4bc0fa1e77e7aca30bdc2de460fffa726097abe0f99bc9cb", func := "zoetrope/zoetropelaw02.RacEndless", spec := "racEndless", apart := false }
def RacEndlessSaid : Prop := racEndlessRow.holds Try.pinned (OpenSpec.ofChange racEndlessSpec)

/-- ITS FALSE NEIGHBOUR: 'it returns false'. Refute it at one input. -/
def racEndlessWrong : ChangeSpec := { name := "racEndless", fn := fun _ => fun
  | [d1, d2] => { results := [.lit (.bool false)], args := [d1, d2] }
  | _ => none }
def RacEndlessWrongFalsely : Prop := racEndlessRow.holds Try.pinned (OpenSpec.ofChange racEndlessWrong)

/-- 'zoetropelaw02.RacNoughts': WHATEVER THE INPUT: true; the input reads as it did. -/
def racNoughtsSpec : ChangeSpec := { name := "racNoughts", fn := fun _ => fun
  | [d1, d2, d3] => { results := [.lit (.bool true)], args := [d1, d2, d3] }
  | _ => none }
def racNoughtsRow : OpenClaim := { program := "ytpikblkbeoophaa", sum := "bfa5cb099ed05afa4bc0fa1e77e7aca30bdc2de460fffa726097abe0f99bc9cb", func := "zoetrope/zoetropelaw02.RacNoughts", spec := "racNoughts", apart := false }
def RacNoughtsSaid : Prop := racNoughtsRow.holds Try.pinned (OpenSpec.ofChange racNoughtsSpec)

/-- ITS FALSE NEIGHBOUR: 'it returns false'. Refute it at one input. -/
def racNoughtsWrong : ChangeSpec := { name := "racNoughts", fn := fun _ => fun
  | [d1, d2, d3] => { results := [.lit (.bool false)], args := [d1, d2, d3] }
  | _ => none }
def RacNoughtsWrongFalsely : Prop := racNoughtsRow.holds Try.pinned (OpenSpec.ofChange racNoughtsWrong)

/-- 'zoetropelaw02.RacAll': WHATEVER THE INPUT: true; the input reads as it did. -/
def racAllSpec : ChangeSpec := { name := "racAll", fn := fun _ => fun
  | [d1, d2] => { results := [.lit (.bool true)], args := [d1, d2] }
  | _ => none }
def racAllRow : OpenClaim := { program := "ytpikblkbeoophaa", sum := "bfa5cb099ed05afa4bc0fa1e77e7aca30bdc2de460fffa726097abe0f99bc9cb", func := "zoetrope/zoetropelaw02.RacAll", spec := "racAll", apart := false }
def RacAllSaid : Prop := racAllRow.holds Try.pinned (OpenSpec.ofChange racAllSpec)

/-- ITS FALSE NEIGHBOUR: 'it returns false'. Refute it at one input. -/
def racAllWrong : ChangeSpec := { name := "racAll", fn := fun _ => fun
  | [d1, d2] => { results := [.lit (.bool false)], args := [d1, d2] }
  | _ => none }
def RacAllWrongFalsely : Prop := racAllRow.holds Try.pinned (OpenSpec.ofChange racAllWrong)

/-- 'zoetropelaw02.RacKnown': WHATEVER THE INPUT: true; the input reads as it did. -/
def racKnownSpec : ChangeSpec := { name := "racKnown", fn := fun _ => fun
  | [] => { results := [.lit (.bool true)], args := [] }
  | _ => none }
def racKnownRow : OpenClaim := { program := "ytpikblkbeoophaa", sum := "bfa5cb099ed05afa4bc0fa1e77e7aca30bdc2de460fffa726097abe0f99bc9cb", func := "zoetrope/zoetropelaw02.RacKnown", spec := "racKnown", apart := false }
def RacKnownSaid : Prop := racKnownRow.holds Try.pinned (OpenSpec.ofChange racKnownSpec)

/-- ITS FALSE NEIGHBOUR: 'it returns false'. Refute it at one input. -/
def racKnownWrong : ChangeSpec := { name := "racKnown", fn := fun _ => fun
  | [] => { results := [.lit (.bool false)], args := [] }
  | _ => none }
def RacKnownWrongFalsely : Prop := racKnownRow.holds Try.pinned (OpenSpec.ofChange racKnownWrong)

/- THE SECOND FORM. 'bulk': how many values and letters a reading holds, each counted each time it is reached (what is shared counts as often as it is met; a slice's spare places count too). A statement '..UptoSaid' is the law's where the arguments, and the package variables that the reading takes, are together of bulk at most 1048576: NARROWER than '..Said'. Prove '..Said' where nothing that the law and all that it calls make is longer than what came in: it says more and counts as full. Else prove '..UptoSaid'. A law counts once. -/
mutual
def uptoBulk {H : Type} : DataW H → Nat
  | .lit (.string bytes) => bytes.length + 1
  | .lit _ => 1
  | .nil => 1
  | .ptr d => uptoBulk d + 1
  | .slice elems spare => uptoBulkAll elems + uptoBulkAll spare + 1
  | .agg parts => uptoBulkAll parts + 1
  | .iface _ d => uptoBulk d + 1
  | .map entries => uptoBulkEntries entries + 1
  | .held _ => 1
def uptoBulkAll {H : Type} : List (DataW H) → Nat
  | [] => 0
  | d :: r => uptoBulk d + uptoBulkAll r
def uptoBulkEntries {H : Type} : List (Lit × DataW H) → Nat
  | [] => 0
  | x :: r => uptoBulkEntry x + uptoBulkEntries r
def uptoBulkEntry {H : Type} : Lit × DataW H → Nat
  | (.string bytes, d) => bytes.length + uptoBulk d + 1
  | (_, d) => uptoBulk d + 1
 end
def uptoSmall : (H : Type) → List (DataW H) → Bool := fun _ ds => decide (uptoBulkAll ds ≤ 1048576)
def OpenSpec.upto (s : _root_.Go.ChangeSpec) : _root_.Go.OpenSpec := { _root_.Go.OpenSpec.ofChange s with cond := some uptoSmall }

/-- 'zoetropelaw02.RacPuts', WHERE WHAT IT READS IS OF BULK AT MOST 1048576: true; the input reads as it did. -/
def racPutsUptoRow : OpenClaim := { program := "ytpikblkbeoophaa", sum := "bfa5cb099ed05afa4bc0fa1e77e7aca30bdc2de460fffa726097abe0f99bc9cb", func := "zoetrope/zoetropelaw02.RacPuts", spec := "racPuts", apart := false, narrowed := true }
def RacPutsUptoSaid : Prop := racPutsUptoRow.holds Try.pinned (OpenSpec.upto racPutsSpec)

/-- 'zoetropelaw02.RacTakes', WHERE WHAT IT READS IS OF BULK AT MOST 1048576: true; the input reads as it did. -/
def racTakesUptoRow : OpenClaim := { program := "ytpikblkbeoophaa", sum := "bfa5cb099ed05afa4bc0fa1e77e7aca30bdc2de460fffa726097abe0f99bc9cb", func := "zoetrope/zoetropelaw02.RacTakes", spec := "racTakes", apart := false, narrowed := true }
def RacTakesUptoSaid : Prop := racTakesUptoRow.holds Try.pinned (OpenSpec.upto racTakesSpec)

/-- 'zoetropelaw02.RacBack', WHERE WHAT IT READS IS OF BULK AT MOST 1048576: true; the input reads as it did. -/
def racBackUptoRow : OpenClaim := { program := "ytpikblkbeoophaa", sum := "bfa5cb099ed05afa4bc0fa1e77e7aca30bdc2de460fffa726097abe0f99bc9cb", func := "zoetrope/zoetropelaw02.RacBack", spec := "racBack", apart := false, narrowed := true }
def RacBackUptoSaid : Prop := racBackUptoRow.holds Try.pinned (OpenSpec.upto racBackSpec)

/-- 'zoetropelaw02.RacEndless', WHERE WHAT IT READS IS OF BULK AT MOST 1048576: true; the input reads as it did. -/
def racEndlessUptoRow : OpenClaim := { program := "ytpikblkbeoophaa", sum := "bfa5cb099ed05afa4bc0fa1e77e7aca30bdc2de460fffa726097abe0f99bc9cb", func := "zoetrope/zoetropelaw02.RacEndless", spec := "racEndless", apart := false, narrowed := true }
def RacEndlessUptoSaid : Prop := racEndlessUptoRow.holds Try.pinned (OpenSpec.upto racEndlessSpec)

/-- 'zoetropelaw02.RacNoughts', WHERE WHAT IT READS IS OF BULK AT MOST 1048576: true; the input reads as it did. -/
def racNoughtsUptoRow : OpenClaim := { program := "ytpikblkbeoophaa", sum := "bfa5cb099ed05afa4bc0fa1e77e7aca30bdc2de460fffa726097abe0f99bc9cb", func := "zoetrope/zoetropelaw02.RacNoughts", spec := "racNoughts", apart := false, narrowed := true }
def RacNoughtsUptoSaid : Prop := racNoughtsUptoRow.holds Try.pinned (OpenSpec.upto racNoughtsSpec)

/-- 'zoetropelaw02.RacAll', WHERE WHAT IT READS IS OF BULK AT MOST 1048576: true; the input reads as it did. -/
def racAllUptoRow : OpenClaim := { program := "ytpikblkbeoophaa", sum := "bfa5cb099ed05afa4bc0fa1e77e7aca30bdc2de460fffa726097abe0f99bc9cb", func := "zoetrope/zoetropelaw02.RacAll", spec := "racAll", apart := false, narrowed := true }
def RacAllUptoSaid : Prop := racAllUptoRow.holds Try.pinned (OpenSpec.upto racAllSpec)

/-- 'zoetropelaw02.RacKnown', WHERE WHAT IT READS IS OF BULK AT MOST 1048576: true; the input reads as it did. -/
def racKnownUptoRow : OpenClaim := { program := "ytpikblkbeoophaa", sum := "bfa5cb099ed05afa4bc0fa1e77e7aca30bdc2de460fffa726097abe0f99bc9cb", func := "zoetrope/zoetropelaw02.RacKnown", spec := "racKnown", apart := false, narrowed := true }
def RacKnownUptoSaid : Prop := racKnownUptoRow.holds Try.pinned (OpenSpec.upto racKnownSpec)

end Rows
end Go.Proofs.Ytpikblkbeoophaa
