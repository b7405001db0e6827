/- RacPuts: the call. -/
import Derived.Test.YtpikblkbeoophaaRn
set_option linter.unusedVariables false
set_option linter.unusedSimpArgs false
namespace Go.Proofs.Ytpikblkbeoophaa
open Go Go.Zf

theorem core3 {Hd : Type} {enc : TypeId × Value → Hd} {W : World} {base : Nat} {v0 : Value} {d0 : DataW Hd} {p0 : List MemPlace} {k : Prop}
    (hok : Value.okWide Try.prog W .any base 22 v0) (hd : DataW.Trod enc Try.prog W 0 (fun _ => true) true 22 v0 d0 p0) (hk : k) :
    Calls Try.prog 3 #[v0] W fun e W' => e = .returned (.bool true) ∧ Go.RowKit.Below W.heap.size W W' := by
  obtain ⟨i, h, x, l, a, _, hx, hP, _, _, hl⟩ := argParts (ArgH.empty W) hok hd
  obtain ⟨h', hr⟩ := puts3_ok hP hl
  exact law_calls (us := [v0]) (callZ_ok mixed kp hr) a.rel (.cons hx .nil) a.dom a.no
end Go.Proofs.Ytpikblkbeoophaa
