import Derived.Test.YtbkmdnmncaakdaaGreatPbZRow
set_option linter.unusedVariables false
set_option linter.unusedSimpArgs false
namespace Go.Zf
open Go.RowKit
structure Ov where
 has:FuncId→Bool
 run:Oracle→Looper→FuncId→List V→H→Option (Rv × H)
def ovNone:Ov:=⟨fun _=>false,fun _ _ _ _ _=>none⟩
variable {P:Program}
theorem HRel.below {i:Inj} {h:H} {w w':World} (hr:HRel i h w) (hb:Below w.heap.size w w'):HRel i h w' where
 blk:=fun b x hx=>by
  have h1:=hr.blk b x hx
  cases x with
  | dead=>trivial
  | cells c e ro =>
   obtain ⟨y,C,fr,g1,g2,g3,g4⟩:=h1
   exact ⟨y,C,fr,g1,g2,by rw [hb.block _ (hr.bound b y g1),g3],g4⟩
  | map es =>
   obtain ⟨y,E,clk,g1,g2,g3,g4⟩:=h1
   exact ⟨y,E,clk,g1,g2,by rw [hb.block _ (hr.bound b y g1),g3],g4⟩
 inj:=hr.inj
 bound:=fun b x hx=>Nat.lt_of_lt_of_le (hr.bound b x hx) hb.size
end Go.Zf
