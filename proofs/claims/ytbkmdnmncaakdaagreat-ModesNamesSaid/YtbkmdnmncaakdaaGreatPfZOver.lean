import Derived.Test.YtbkmdnmncaakdaaGreatPfZRow
set_option linter.unusedVariables false
set_option linter.unusedSimpArgs false
namespace Go.Zf
open Go.RowKit
structure Ov where
 has:FuncId->Bool
 run:Zs->Yy->FuncId->List V->H->Option (Rv×H)
def lF:Ov:=⟨λ_=>false,λ_ _ _ _ _=>none⟩
variable{P:Program}
theorem Zb.below{i:YJ}{h:H}{w w':World}(hr:Zb i h w)(hb:Below w.heap.size w w'):Zb i h w' where
 Y9:=λb x hx=>by
  have h1:=hr.Y9 b x hx;cases x with
  |dead=>trivial
  |cells c e ro =>
   obtain⟨y,C,fr,g1,g2,g3,g4⟩:=h1;exact⟨y,C,fr,g1,g2,by rw[hb.block _ (hr.bound b y g1),g3],g4⟩
  |map es =>
   obtain⟨y,E,B0,g1,g2,g3,g4⟩:=h1;exact⟨y,E,B0,g1,g2,by rw[hb.block _ (hr.bound b y g1),g3],g4⟩
 inj:=hr.inj
 bound:=λb x hx=>Nat.lt_of_lt_of_le (hr.bound b x hx) hb.size
end Go.Zf
