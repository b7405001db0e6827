/- The document's coder: Symbol, what is coded. -/
import Derived.Test.YtfjghgjkpenanaaSaj
set_option linter.unusedVariables false
set_option linter.unusedSimpArgs false
set_option maxRecDepth 20000
namespace Go.Proofs.Ytfjghgjkpenanaa
open Go Go.Zf
open Go.Zf (wi64)

/-- A value of a table is coded: writer. Box b: the table's copy. -/
theorem code41_w {Ds D2 : Nat → Prop} {g : H} {m e : Nat} {out : List Nat} {low rng : Nat} {t : Tb} {vc : V} {s : Nat} (E1 : EncD Ds g e 121 out low (.int .u64 rng)) (so : SideOk m (.w out low rng)) (u : U16 D2 g vc t.c) (ok : TabOk t) (hs : s < t.c.length) :
    ∃ g2 g3, KW 69 [.agg [vc, .int .i64 t.n], .int .i64 s] g = some (.ret (.tup [.int .u32 (pt t s : Nat), .int .u32 (pt t (s + 1) : Nat), .int .i64 0]), g2) ∧ Ext g g2 ∧
      KW 70 [.ptr e 0, .int .u32 (pt t s : Nat), .int .u32 (pt t (s + 1) : Nat)] g2 = some (.ret (.int .i64 0), g3) ∧ SideRef (grow Ds g g3) g3 (m + 1) (.ptr e 0) .nilp ((Side.w out low rng).code (pt t s) (pt t (s + 1))) ∧ Mod Ds g g3 ∧ Mod Ds g2 g3 := by
  obtain ⟨w, g2, e69, rfl, x2⟩ := (bounds69_ok u ok hs).elim
  have E2 := E1.keep (h' := g2) fun b _ hb => x2.get b hb
  obtain ⟨g3, e70, E3, M3⟩ := put70_ok E2 so (pt_lt ok hs) (pt_le ok (by omega))
  refine ⟨g2, g3, e69, x2, e70, ⟨e, rfl, rfl, E3.mono fun b hb hd => ?_⟩, (Mod.of x2).tr M3, M3⟩
  rcases hd with hd | ⟨hd1, hd2⟩
  · exact .inl hd
  · exact .inr ⟨by have := x2.n; omega, hd2⟩
/-- .. reader. -/
theorem code41_r {Ds D2 : Nat → Prop} {g : H} {m e : Nat} {rest : List Nat} {code rng : Nat} {t : Tb} {vc : V} (E1 : RefD Ds g m e rest code rng) (so : SideOk m (.r rest code rng)) (u : U16 D2 g vc t.c) (ok : TabOk t) :
    ∃ g2 g3 g4, KW 71 [.ptr e 0] g = some (.ret (.tup [.int .u32 (value code rng : Nat), .int .i64 0]), g) ∧ KW 72 [.agg [vc, .int .i64 t.n], .int .u32 (value code rng : Nat)] g = some (.ret (.tup [.int .i64 (findP t (value code rng) : Nat), .int .i64 0]), g2) ∧ Ext g g2 ∧
      KW 69 [.agg [vc, .int .i64 t.n], .int .i64 (findP t (value code rng) : Nat)] g2 = some (.ret (.tup [.int .u32 (pt t (findP t (value code rng)) : Nat), .int .u32 (pt t (findP t (value code rng) + 1) : Nat), .int .i64 0]), g3) ∧ Ext g2 g3 ∧
      KW 73 [.ptr e 0, .int .u32 (pt t (findP t (value code rng)) : Nat), .int .u32 (pt t (findP t (value code rng) + 1) : Nat)] g3 = some (.ret (.int .i64 0), g4) ∧ SideRef (grow Ds g g4) g4 (m + 1) .nilp (.ptr e 0) ((Side.r rest code rng).code (pt t (findP t (value code rng))) (pt t (findP t (value code rng) + 1))) ∧ Mod Ds g g4 ∧ Mod Ds g3 g4 := by
  have hf := findP_lt ok (value_lt code rng)
  have hE := E1
  obtain ⟨at_, ra, _, _⟩ := E1
  have e71 := value22_ok ra so.1
  obtain ⟨w, g2, e72, rfl, x2⟩ := (find72_ok u ok (value_lt code rng)).elim
  obtain ⟨w, g3, e69, rfl, x3⟩ := (bounds69_ok (u.ext x2) ok hf.1).elim
  have E3 := hE.keep (h' := g3) fun b _ hb => (x2.trans x3).get b hb
  obtain ⟨g4, e73, E4, M4⟩ := take73_ok E3 so hf.2.1 hf.2.2 (pt_le ok (by have := hf.1; omega))
  exact ⟨g2, g3, g4, e71, e72, x2, e69, x3, e73, ⟨e, rfl, rfl, E4.mono fun b hb hd => .inl hd⟩, (Mod.of (x2.trans x3)).tr M4, M4⟩
end Go.Proofs.Ytfjghgjkpenanaa
