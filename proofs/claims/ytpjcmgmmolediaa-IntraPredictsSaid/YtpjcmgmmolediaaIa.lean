/- slope: a map literal is a table. -/
import Derived.Test.YtpjcmgmmolediaaKp
import Derived.Test.YtpjcmgmmolediaaZOver
import Derived.WalkKit
import Derived.ProofKit
import Derived.MapKept
import Derived.Maps.Own
set_option linter.unusedVariables false
set_option linter.unusedSimpArgs false
namespace Go.Proofs.Ytpjcmgmmolediaa
open Go Go.Zf Go.RowKit Go.MapKept

/-- Entries of whole numbers. -/
def entriesOf (ps : List (Int × Int)) (c : Nat) : List MapEntry := (ps.zipIdx c).map fun p => { key := .int .i64 p.1.1, val := .int .i64 p.1.2, born := p.2 }

theorem findNow_ints (t : Int) : ∀ (ps : List (Int × Int)) (c i : Nat), (Instr.findNow (.int .i64) (.int .i64 t) (entriesOf ps c) i).map (fun o => o.map (·.2)) = some ((ps.find? fun p => p.1 == t).map fun p => .int .i64 p.2)
  | [], c, i => rfl
  | p :: ps, c, i => by
    have e : entriesOf (p :: ps) c = { key := .int .i64 p.1, val := .int .i64 p.2, born := c } :: entriesOf ps (c + 1) := rfl
    rw [e]
    simp only [Instr.findNow, Instr.sameNow, if_true, List.find?_cons]
    by_cases h : p.1 = t
    · subst h; simp
    · rw [show (t == p.1) = false by simpa using fun e => h e.symm, show (p.1 == t) = false by simpa using h]
      exact findNow_ints t ps (c + 1) (i + 1)

theorem wpList_insert_int {P : Program} {ops : Array Oper} {rest : List Oper} {o : Oper} {a : Act} {Q : Exit → Act → World → Prop} {w : World}
    {mt kt et : TypeId} (ht : P.underlying mt = some (.map kt et)) (hk : P.underlying kt = some (.int .i64)) {m x v : Operand} (hg : o.guard = none) (hop : o.op = Op.insert mt m x v)
    {B : Nat} (hm : a.eval m = .map (some B)) {n k : Int} (hx : a.eval x = .int .i64 n) (hv : a.eval v = .int .i64 k) {ps : List (Int × Int)} (hb : w.heap[B]? = some (.map (entriesOf ps 0).toArray ps.length))
    (hnew : (ps.find? fun p => p.1 == n) = none)
    (hK : ∀ w', w'.heap[B]? = some (.map (entriesOf (ps ++ [(n, k)]) 0).toArray (ps ++ [(n, k)]).length) → Below B w w' → wpList P ops Q rest (a.put o.dst undef) w') :
    wpList P ops Q (o :: rest) a w := by
  have hf : Instr.findNow (.int .i64) (.int .i64 n) (entriesOf ps 0) 0 = some none := by
    have := findNow_ints n ps 0 0
    rw [hnew] at this
    cases hq : Instr.findNow (.int .i64) (.int .i64 n) (entriesOf ps 0) 0 with
    | none => rw [hq] at this; cases this
    | some o => rw [hq] at this; cases o with
      | none => rfl
      | some p => simp at this
  have hc : (Instr.checkKey false 10000 kt (.int .i64 n)).run P w = .ok () w := run_checkKey (k := .int .i64 n) hk (by simp [IsKey]) false 9999
  have hrun : (Instr.mapUpdate mt (.map (some B)) (.int .i64 n) (.int .i64 k)).run P w = .ok () { w with heap := w.heap.setIfInBounds B (.map ((entriesOf ps 0).toArray.push { key := .int .i64 n, val := .int .i64 k, born := ps.length }) (ps.length + 1)) } := by
    simp [Instr.mapUpdate, run_underlying ht, Go.MapKept.run_getObj_map hb, hc, run_findKey hk hf, Go.MapKept.run_setObj_map _ hb, Result.andThen]
  have hpush : (entriesOf ps 0).toArray.push { key := .int .i64 n, val := .int .i64 k, born := ps.length } = (entriesOf (ps ++ [(n, k)]) 0).toArray := by
    simp [entriesOf, List.zipIdx_append]
  rw [hpush] at hrun
  refine wpList_plain hg fun K' hK' => ?_
  unfold Oper.wp
  simp [execOp, hop, hm, hx, hv, hrun, Result.andThen]
  refine hK' _ _ (hK _ ?_ ?_)
  · rw [(heap_set hb).1]; simp
  · refine ⟨rfl, rfl, rfl, ?_, fun j hj => ?_⟩
    · simp
    · exact (heap_set hb).2 j (by omega)

/-- What a table answers. -/
def tabGet (ps : List (Int × Int)) (t : Int) : Int := ((ps.find? fun p => p.1 == t).map (·.2)).getD 0

theorem wpList_lookup_ints {P : Program} {ops : Array Oper} {rest : List Oper} {o : Oper} {a : Act} {Q : Exit → Act → World → Prop} {w : World}
    {mt kt et : TypeId} (ht : P.underlying mt = some (.map kt et)) (hk : P.underlying kt = some (.int .i64)) (hz : (zeroValue et).run P w = .ok (.int .i64 0) w) {m x : Operand} (hg : o.guard = none) (hop : o.op = Op.lookup mt m x false)
    {B : Nat} (hm : a.eval m = .map (some B)) {t : Int} (hx : a.eval x = .int .i64 t) {ps : List (Int × Int)} (hb : w.heap[B]? = some (.map (entriesOf ps 0).toArray ps.length))
    (hK : wpList P ops Q rest (a.put o.dst (.int .i64 (tabGet ps t))) w) :
    wpList P ops Q (o :: rest) a w := by
  have hc : ∀ e, (Instr.checkKey e 10000 kt (.int .i64 t)).run P w = .ok () w := fun e => run_checkKey (k := .int .i64 t) hk (by simp [IsKey]) e 9999
  have hf := findNow_ints t ps 0 0
  have hrun : (Instr.lookup mt (.map (some B)) (.int .i64 t) false).run P w = .ok (.int .i64 (tabGet ps t)) w := by
    cases hq : Instr.findNow (.int .i64) (.int .i64 t) (entriesOf ps 0) 0 with
    | none => rw [hq] at hf; cases hf
    | some q =>
      rw [hq] at hf
      unfold tabGet
      cases q with
      | none =>
        have hn : (ps.find? fun p => p.1 == t) = none := by
          cases hfd : (ps.find? fun p => p.1 == t) with
          | none => rfl
          | some y => rw [hfd] at hf; simp at hf
        simp [Instr.lookup, run_underlying ht, Go.MapKept.run_getObj_map hb, hc, run_findKey hk hq, Result.andThen, hz, hn]
      | some p =>
        obtain ⟨y, hy1, hy2⟩ : ∃ y, (ps.find? fun p => p.1 == t) = some y ∧ p.2 = .int .i64 y.2 := by
          cases hn : (ps.find? fun p => p.1 == t) with
          | none => rw [hn] at hf; simp at hf
          | some y => rw [hn] at hf; exact ⟨y, rfl, by simpa using hf⟩
        simp [Instr.lookup, run_underlying ht, Go.MapKept.run_getObj_map hb, hc, run_findKey hk hq, Result.andThen, hy1, hy2]
  refine wpList_plain hg fun K' hK' => ?_
  unfold Oper.wp
  simp [execOp, hop, hm, hx, hrun, Result.andThen]
  exact hK' _ _ hK

theorem zero3 (w : World) : (zeroValue 3).run Try.prog w = .ok (.int .i64 0) w := by kernel_rfl
def slopes : List (Int × Int) := [(3,1023),(6,547),(9,372),(14,273),(17,215),(20,178),(23,151),(26,132),(29,116),(32,102),(36,90),(39,80),(42,71),(45,64),(48,57),(51,51),(54,45),(58,40),(61,35),(64,31),(67,27),(70,23),(73,19),(76,15),(81,11),(84,7),(87,3)]

theorem slope_walk (t : Int) (w : World) : Calls Try.prog 65 #[.int .i64 t] w fun e w' => e = .returned (.int .i64 (tabGet slopes t)) ∧ Below w.heap.size w w' := by
  have hmm := @run_makeMap Try.prog
  go_enter Try.func65, Try.ntmps65
  go_wp2_with (first | (refine wpList_insert_int (ps := []) (B := w.heap.size) Try.underlying84 Try.underlying3 (by rfl) (by rfl) (by rfl) (by rfl) (by rfl) (Go.MapKept.heap_alloc w _).1 (by rfl) ?_; intro w1 hb1 hw1) | (refine wpList_insert_int (B := w.heap.size) Try.underlying84 Try.underlying3 (by rfl) (by rfl) (by rfl) (by rfl) (by rfl) (by assumption) (by rfl) ?_; intro w1 hb1 hw1) | (refine wpList_lookup_ints (B := w.heap.size) Try.underlying84 Try.underlying3 (zero3 _) (by rfl) (by rfl) (by rfl) (by rfl) (by assumption) ?_) | go_in)
  all_goals go_ret
  all_goals refine ⟨rfl, ?_⟩
  all_goals repeat (first | exact (Below.refl _ _).alloc (Nat.le_refl _) _ | refine Below.trans ?_ (by assumption))

/-- slope's answers are given. -/
def ov : Ov := fun f a => if f = 65 then (match a with | [.int .i64 t] => some (.int .i64 (tabGet slopes t)) | _ => none) else none
theorem ov_ok : OvOK Try.prog ov where
  ok := fun f a v e i us hv w => by
    unfold ov at e
    split at e
    · rename_i hf
      subst hf
      split at e
      · rename_i t
        cases e
        cases hv with
        | cons h1 h2 =>
          cases h2
          cases h1
          exact (slope_walk t w).mono fun e w' ⟨h1, h2⟩ => ⟨_, h1, .int _ _, h2⟩
      · cases e
    · cases e
  enters := fun f a v e => by
    unfold ov at e
    split at e
    · rename_i hf
      subst hf
      exact ⟨Try.f65, Try.func65, by kernel_rfl, by kernel_rfl⟩
    · cases e
end Go.Proofs.Ytpjcmgmmolediaa
