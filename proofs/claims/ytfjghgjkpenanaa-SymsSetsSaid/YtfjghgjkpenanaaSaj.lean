/- The document's coder: Symbol. -/
import Derived.Test.YtfjghgjkpenanaaSae
set_option linter.unusedVariables false
set_option linter.unusedSimpArgs false
set_option maxRecDepth 20000
namespace Go.Proofs.Ytfjghgjkpenanaa
open Go Go.Zf
open Go.Zf (wi64)

def CoderRef (D : Nat → Prop) (h : H) (p m : Nat) (st : St) : Prop :=
  ∃ vo vi vs Ds Dw, h.get p = some (.cells [vo, vi, vs, .bool st.ad, .int .i64 st.n] 51 false) ∧ D p ∧ SideRef Ds h m vo vi st.sd ∧ SideOk m st.sd ∧ SetW Dw h vs st.S ∧ SetOk st.S ∧ (0 ≤ st.n ∧ st.n ≤ 100 * m) ∧
    (∀ b, Ds b → D b ∧ b ≠ p ∧ b < h.n) ∧ (∀ b, Dw b → D b ∧ b ≠ p ∧ b < h.n ∧ ¬ Ds b)
theorem CoderRef.keep {D : Nat → Prop} {h h' : H} {p m : Nat} {st : St} (a : CoderRef D h p m st) (hn : h.n ≤ h'.n) (hk : ∀ b, D b → b < h.n → h'.get b = h.get b) : CoderRef D h' p m st := by
  obtain ⟨vo, vi, vs, Ds, Dw, h1, h2, h3, h4, h5, h6, h7, h8, h9⟩ := a
  exact ⟨vo, vi, vs, Ds, Dw, by rw [hk p h2 (H.get_lt h1), h1], h2, h3.keep fun b hb hb2 => hk b (h8 b hb).1 hb2, h4, h5.keep fun b hb hb2 => hk b (h9 b hb).1 hb2, h6, h7,
    fun b hb => by have := h8 b hb; exact ⟨this.1, this.2.1, by omega⟩, fun b hb => by have := h9 b hb; exact ⟨this.1, this.2.1, by omega, this.2.2.2⟩⟩
theorem CoderRef.mono {D E : Nat → Prop} {h : H} {p m : Nat} {st : St} (a : CoderRef D h p m st) (hd : ∀ b, b < h.n → D b → E b) : CoderRef E h p m st := by
  obtain ⟨vo, vi, vs, Ds, Dw, h1, h2, h3, h4, h5, h6, h7, h8, h9⟩ := a
  exact ⟨vo, vi, vs, Ds, Dw, h1, hd p (H.get_lt h1) h2, h3, h4, h5, h6, h7,
    fun b hb => by have := h8 b hb; exact ⟨hd b this.2.2 this.1, this.2.1, this.2.2⟩, fun b hb => by have := h9 b hb; exact ⟨hd b this.2.2.1 this.1, this.2.1, this.2.2.1, this.2.2.2⟩⟩
theorem CoderRef.ext {D : Nat → Prop} {h h' : H} {p m : Nat} {st : St} (a : CoderRef D h p m st) (x : Ext h h') : CoderRef D h' p m st := a.keep x.n fun b _ hb => x.get b hb
theorem CoderRef.under {D : Nat → Prop} {h : H} {p m : Nat} {st : St} (a : CoderRef D h p m st) : CoderRef (fun b => D b ∧ b < h.n) h p m st := a.mono fun b hb hd => ⟨hd, hb⟩
theorem CoderRef.mod {D E : Nat → Prop} {h h' : H} {p m : Nat} {st : St} (a : CoderRef D h p m st) (x : Mod E h h') (hd : ∀ b, D b → b < h.n → ¬ E b) : CoderRef D h' p m st :=
  a.keep x.n fun b hb hb2 => x.get b hb2 (hd b hb hb2)
theorem CoderRef.ok {D : Nat → Prop} {h : H} {p m : Nat} {st : St} (a : CoderRef D h p m st) : SetOk st.S ∧ SideOk m st.sd ∧ 0 ≤ st.n ∧ st.n ≤ 100 * m := by
  obtain ⟨vo, vi, vs, Ds, Dw, h1, h2, h3, h4, h5, h6, h7, h8, h9⟩ := a
  exact ⟨h6, h4, h7.1, h7.2⟩
theorem SideRef.ext {D : Nat → Prop} {h h' : H} {m : Nat} {vo vi : V} {sd : Side} (a : SideRef D h m vo vi sd) (x : Ext h h') : SideRef D h' m vo vi sd := a.keep fun b _ hb => x.get b hb
theorem symbol41_no {D : Nat → Prop} {h : H} {p m : Nat} {st : St} {k c v : Int} (a : CoderRef D h p m st) (no : ¬ (0 ≤ k ∧ k < 32)) : RT (fun w h' => w = .tup [.int .i64 0, .int .i64 41] ∧ Ext h h') (KW 41 [.ptr p 0, .int .i64 k, .int .i64 c, .int .i64 v] h) := by
  obtain ⟨w, g, e68, rfl, x⟩ := (shape68_ok k h).elim
  rw [if_neg no] at e68
  rw [w41, f41, s41]
  simp [e68]
  exact ⟨rfl, x⟩
theorem symbol41_bad {D : Nat → Prop} {h : H} {p m : Nat} {st : St} {k : Nat} {c v : Int} (a : CoderRef D h p m st) (hk : k < 32) (no : ¬ (0 ≤ c ∧ c < cx k ∧ (st.sd.writes = true → 0 ≤ v ∧ v < vl k))) : RT (fun w h' => w = .tup [.int .i64 0, .int .i64 2] ∧ Ext h h') (KW 41 [.ptr p 0, .int .i64 k, .int .i64 c, .int .i64 v] h) := by
  obtain ⟨vo, vi, vs, Ds, Dw, h1, h2, h3, h4, h5, h6, h7, h8, h9⟩ := a
  obtain ⟨w, g, e68, rfl, x⟩ := (shape68_ok k h).elim
  rw [if_pos ⟨by omega, by omega⟩, Int.toNat_natCast] at e68
  have hp : g.get p = _ := (x.get _ (H.get_lt h1)).trans h1
  rw [w41, f41, s41]
  by_cases c1 : c < 0
  · simp [e68, c1, gl_t, gk_t]
    exact ⟨rfl, x⟩
  · by_cases c2 : (cx k : Int) ≤ c
    · simp [e68, c1, c2, gl_t, gk_t]
      exact ⟨rfl, x⟩
    · cases hsd : st.sd with
      | r rest code rng => rw [hsd] at no; exact (no ⟨by omega, by omega, fun h => by cases h⟩).elim
      | w out low rng =>
        rw [hsd] at no h3
        obtain ⟨e, rfl, rfl, _⟩ := h3
        by_cases c3 : v < 0
        · simp [e68, c1, c2, rd1_of hp, c3, gl_t]
          exact ⟨rfl, x⟩
        · have c4 : (vl k : Int) ≤ v := by
            by_cases c4 : (vl k : Int) ≤ v
            · exact c4
            · exact (no ⟨by omega, by omega, fun _ => ⟨by omega, by omega⟩⟩).elim
          simp [e68, c1, c2, rd1_of hp, c3, c4, gl_t]
          exact ⟨rfl, x⟩
end Go.Proofs.Ytfjghgjkpenanaa
