import Derived.Test.YtbajipmhnoakeaaGreatPnZRow
set_option linter.unusedVariables false
set_option linter.unusedSimpArgs false
namespace Go.Zf
open Go.RowKit
structure Ov where
 has:FuncId→Bool
 run:Oracle→Looper→FuncId→List V→H→Option (Rv × H)
def ovNone:Ov:=⟨fun _=>false,fun _ _ _ _ _=>none⟩
def runW (P:Program) (kp:FuncId→List Nat) (ov:Ov):Nat→Oracle
 | 0,_,_,_=>none
 | n+1,f,args,h=>if ov.has f then ov.run (runW P kp ov n) (loopN (n+1)) f args h else runF P kp (runW P kp ov n) (loopN (n+1)) f args h
def OvOK (P:Program) (ov:Ov):Prop :=
 ∀ K,KOK P K→∀ m f a h r h',ov.has f=true→ov.run K (loopN m) f a h=some (r,h')→CallOK P f a h r h'∧Enters P f∧h.n≤h'.n
variable {P:Program}
theorem HRel.below {i:Inj} {h:H} {w w':World} (hr:HRel i h w) (hb:Below w.heap.size w w'):HRel i h w' where
 blk:=fun b x hx=>by
  have h1:=hr.blk b x hx
  cases x with
  | dead=>trivial
  | cells c e ro =>
   obtain ⟨y,C,fr,g1,g2,g3,g4⟩:=h1
   exact ⟨y,C,fr,g1,g2,by rw [hb.block _ (hr.bound b y g1),g3],g4⟩
  | map es =>
   obtain ⟨y,E,clk,g1,g2,g3,g4⟩:=h1
   exact ⟨y,E,clk,g1,g2,by rw [hb.block _ (hr.bound b y g1),g3],g4⟩
 inj:=hr.inj
 bound:=fun b x hx=>Nat.lt_of_lt_of_le (hr.bound b x hx) hb.size
theorem runW_ok (hD:DrawOK P) (kp:FuncId→List Nat) {ov:Ov} (ho:OvOK P ov):∀ n,KOK P (runW P kp ov n)
 | 0=>⟨fun _ _ _ _ _ e=>(by cases e),fun _ _ _ _ _ e=>(by cases e),fun _ _ _ _ _ e=>(by cases e)⟩
 | n+1=>by
  have ih:=runW_ok hD kp ho n
  have key:∀ f args h r h',runW P kp ov (n+1) f args h=some (r,h')→CallOK P f args h r h'∧Enters P f∧h.n≤h'.n:=by
   intro f args h r h' e
   simp only [runW] at e
   split at e
   ·exact ho _ ih (n+1) _ _ _ _ _ (by assumption) e
   ·exact call_sound hD kp ih (n+1) e
  exact ⟨fun f args h r h' e=>(key f args h r h' e).1,fun f args h r h' e=>(key f args h r h' e).2.1,fun f args h r h' e=>(key f args h r h' e).2.2⟩
end Go.Zf
