import Derived.Test.YtbajipmhnoakeaaGreatPwHh
set_option linter.unusedVariables false
set_option linter.unusedSimpArgs false
set_option maxRecDepth 20000
namespace Go.Proofs.YtbajipmhnoakeaaGreat
open Go Go.Zf Go.RowKit Go.WideShapes
open Go.Zf (wi64)
theorem sets_same {h1 g : H} {c r m : Nat} {st : St} {D F : Nat → Prop} (P : P2 h1 g c r m st D F) : ∃ v15 g15 g16 vr g18 g19,KW 19 [.ptr c 0] g = some (.ret (.tup [.agg [v15],.int .i64 0]),g15) ∧ V.cells v15 = some [v15] ∧ (g15.new (.cells [.nils] 29 false)).wrN g15.n 0 [v15] = some g16 ∧
  KW 21 [.agg [v15],.agg [vr]] g16 = some (.ret (.bool true),g18) ∧ KW 22 [] g18 = some (.ret (.bool true),g19) ∧ Ext g g19 ∧ Ext g g16 ∧
  (∀ x : H,Ext g16 x → x.rdN g15.n 0 1 = some [v15] ∧ x.rdN r 2 1 = some [vr]) ∧ V.same v15 v15 = true ∧ V.same vr vr = true ∧ Ext g16 g18 ∧ Ext g18 g19 := by
 obtain ⟨w,g15,a15,v15,rfl,W15,x15⟩ := (set17_ok P.C).elim
 have hc15 : V.cells v15 = some [v15] := by obtain ⟨_,k3,_⟩ := W15.setR; exact k3.cells
 obtain ⟨g16,hg16⟩ : ∃ z,z = (g15.new (.cells [.nils] 29 false)).put g15.n (.cells [v15] 29 false) := ⟨_,rfl⟩
 have x16 : Ext g15 g16 := by rw [hg16]; exact ((Ext.refl g15).new _).put (Nat.le_refl _) _
 have r16 : g16.get g15.n = some (.cells [v15] 29 false) := by rw [hg16,get_put_same (by rw [H.n_new]; omega)]
 have hst16 : (g15.new (.cells [.nils] 29 false)).wrN g15.n 0 [v15] = some g16 := by rw [wrN_of (o := 0) get_new_same (by simp),hg16]; rfl
 obtain ⟨vr,s17,Wr17,_⟩ := ((P.R.ext x15).ext x16).set
 obtain ⟨w,g18,a18,rfl,x18⟩ := (same15_ok (W15.setR.ext x16) Wr17.setR P.C.ok.1.small).elim
 obtain ⟨w,g19,a19,rfl,x19⟩ := (awake6_ok g18).elim
 have h15 : V.same v15 v15 = true := by obtain ⟨_,k3,_⟩ := W15.setR; exact k3.same
 have hvr : V.same vr vr = true := by obtain ⟨_,k3,_⟩ := Wr17.setR; exact k3.same
 refine ⟨v15,g15,g16,vr,g18,g19,a15,hc15,hst16,a18,a19,((x15.trans x16).trans x18).trans x19,x15.trans x16,fun x hx => ⟨?_,rdN_ext hx s17⟩,h15,hvr,x18,x19⟩
 rw [rdN_of (by rw [hx.get _ (H.get_lt r16)]; exact r16) (by simp)]; rfl
end Go.Proofs.YtbajipmhnoakeaaGreat
