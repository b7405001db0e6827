/- awake. -/
import Derived.Test.YtfjghgjkpenanaaSad
set_option linter.unusedVariables false
set_option linter.unusedSimpArgs false
set_option maxRecDepth 20000
namespace Go.Proofs.Ytfjghgjkpenanaa
open Go Go.Zf
open Go.Zf (wi64)

/-- A coder is as it was when only other blocks changed. -/
theorem CoderAt.mod {D E : Nat → Prop} {h h' : H} {p m : Nat} {st : St} (a : CoderAt D h p m st) (x : Mod E h h') (hd : ∀ b, D b → b < h.n → ¬ E b) : CoderAt D h' p m st :=
  a.keep x.n fun b hb hb2 => x.get b hb2 (hd b hb hb2)
theorem CoderAt.ext {D : Nat → Prop} {h h' : H} {p m : Nat} {st : St} (a : CoderAt D h p m st) (x : Ext h h') : CoderAt D h' p m st := a.keep x.n fun b _ hb => x.get b hb
theorem CoderAt.under {D : Nat → Prop} {h : H} {p m : Nat} {st : St} (a : CoderAt D h p m st) : CoderAt (fun b => D b ∧ b < h.n) h p m st := a.mono fun b hb hd => ⟨hd, hb⟩

def awW : St := ((newW defS true).sym 2 0 1).num 3 5
def awO : List Nat × Nat × Nat := match awW.sd with | .w o l r => (o, l, r) | .r _ _ _ => ([], 0, 0)
def awR : St := (newR (bytes awO.1 awO.2.1) defS true).sym 2 0 0
theorem aw1 : (newW defS true).symV 2 0 1 = 1 := by kernel_rfl
theorem aw2 : ((newW defS true).sym 2 0 1).numV 3 5 = 5 := by kernel_rfl
theorem aw3 : awW.sd = .w awO.1 awO.2.1 awO.2.2 := by kernel_rfl
theorem aw4 : (newR (bytes awO.1 awO.2.1) defS true).symV 2 0 0 = 1 := by kernel_rfl
theorem aw5 : awR.numV 3 0 = 5 := by kernel_rfl
theorem aw6 : awW.n = 4 := by kernel_rfl
theorem aw7 : (awR.num 3 0).n = 4 := by kernel_rfl
theorem aw8 : (bytes awO.1 awO.2.1).length < 100 := by decide

theorem awake22_ok (h : H) : RT (fun w h' => w = .bool true ∧ Ext h h') (KW 22 [] h) := by
  obtain ⟨w, g1, a1, v1, rfl, W1, x1⟩ := (default27_ok h).elim
  obtain ⟨w, g2, a2, p, rfl, C2, x2⟩ := (writer12_ok W1.setR defS_ok true).elim
  obtain ⟨w, g3, a3, rfl, C3, M3⟩ := (symbol30_ok (k := 2) (c := 0) (v := 1) C2 (by decide) (by decide) (by decide) (fun _ => by decide)).elim
  obtain ⟨w, g4, a4, rfl, C4, M4⟩ := (bits29_ok (n := 3) (v := 5) C3 (by decide) (by decide) (fun _ => by decide)).elim
  obtain ⟨w, g5, a5, bv, rfl, Wb, x5⟩ := (bytes19_ok C4 aw3).elim
  obtain ⟨w, g6, a6, v6, rfl, W6, x6⟩ := (default27_ok g5).elim
  have hbl := aw8
  obtain ⟨w, g7, a7, q, rfl, C7, x7⟩ := (reader25_ok (Wb.slb.keep x6.get) (by omega) Wb.byte W6.setR defS_ok true).elim
  obtain ⟨w, g8, a8, rfl, C8, M8⟩ := (symbol30_ok (k := 2) (c := 0) (v := 0) C7 (by decide) (by decide) (by decide) (fun h => by cases h)).elim
  obtain ⟨w, g9, a9, rfl, C9, M9⟩ := (bits29_ok (n := 3) (v := 0) C8 (by decide) (by decide) (fun h => by cases h)).elim
  have X5 : Ext g4 g7 := (x5.trans x6).trans x7
  have C4' := ((C4.under.ext X5).mod M8 fun b hb hb2 hE => by have h1 := hb.2; have h2 : g6.n ≤ b := hE; have := x5.n; have := x6.n; omega)
  have C4'' := C4'.mod M9 fun b hb hb2 hE => by
    have h1 := hb.2
    have := x5.n; have := x6.n; have := x7.n
    rcases hE with h2 | h2
    · have h2 : g6.n ≤ b := h2; omega
    · omega
  have c1 := count32_ok C4''
  have c2 := count32_ok C9
  rw [aw1] at a3
  have e2 : ((newW defS true).sym 2 0 1).numV 3 (5 : Int).toNat = 5 := aw2
  rw [e2] at a4
  rw [aw4] at a8
  have e5 : ((newR (bytes awO.1 awO.2.1) defS true).sym 2 0 0).numV 3 (0 : Int).toNat = 5 := aw5
  rw [e5] at a9
  have e6 : (((newW defS true).sym 2 0 1).num 3 (5 : Int).toNat).n = 4 := aw6
  rw [e6] at c1
  have e7 : (((newR (bytes awO.1 awO.2.1) defS true).sym 2 0 0).num 3 (0 : Int).toNat).n = 4 := aw7
  rw [e7] at c2
  simp at a3 a4 a8 a9
  rw [w22, f22, s22]
  simp [a1, a2, a3, a4, a5, a6, a7, a8, a9, c1, c2]
  have y3 : Ext h g3 := M3.ext (x1.trans x2) fun c hc hd => by have h2 : g1.n ≤ c := hd; have := x1.n; omega
  have y4 : Ext h g4 := M4.ext y3 fun c hc hd => by
    have := x1.n; have := x2.n
    rcases hd with h2 | h2
    · have h2 : g1.n ≤ c := h2; omega
    · omega
  have y7 : Ext h g7 := y4.trans X5
  have y8 : Ext h g8 := M8.ext y7 fun c hc hd => by have h2 : g6.n ≤ c := hd; have := y4.n; have := x5.n; have := x6.n; omega
  have y9 : Ext h g9 := M9.ext y8 fun c hc hd => by
    have := y4.n; have := x5.n; have := x6.n; have := x7.n
    rcases hd with h2 | h2
    · have h2 : g6.n ≤ c := h2; omega
    · omega
  exact ⟨rfl, y9⟩
end Go.Proofs.Ytfjghgjkpenanaa
