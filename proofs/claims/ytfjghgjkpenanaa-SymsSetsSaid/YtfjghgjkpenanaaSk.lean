/- Texts of ours made one: Sc Sd Se Sf Sg Sh Si Sj Sk. -/
import Derived.Test.YtfjghgjkpenanaaRl
/- Tables and sets in the heap. -/
set_option linter.unusedVariables false
set_option linter.unusedSimpArgs false
namespace Go.Proofs.Ytfjghgjkpenanaa
open Go Go.Zf

/-! The types: uint16, api.Table, []api.Table, api.Set. -/
abbrev tU : TypeId := 38
abbrev tT : TypeId := 72
abbrev tR : TypeId := 75
theorem cell72 (h : H) (b o : Nat) : ldV Try.prog 72 h (.ptr b o) = ldn 2 h (.ptr b o) := by
  have h1 : isAggT Try.prog 72 = some true := by kernel_rfl
  have h2 : szT Try.prog 72 = some 2 := by kernel_rfl
  simp [ldV, h1, h2]
theorem cell25 (h : H) (b o : Nat) : ldV Try.prog 25 h (.ptr b o) = ldn 1 h (.ptr b o) := by
  have h1 : isAggT Try.prog 25 = some true := by kernel_rfl
  have h2 : szT Try.prog 25 = some 1 := by kernel_rfl
  simp [ldV, h1, h2]
theorem cell96 (h : H) (b o : Nat) : ldV Try.prog 96 h (.ptr b o) = ldn 96 h (.ptr b o) := by
  have h1 : isAggT Try.prog 96 = some true := by kernel_rfl
  have h2 : szT Try.prog 96 = some 96 := by kernel_rfl
  simp [ldV, h1, h2]
theorem resVs_cell (P : Program) (s : Nat → V) (h : H) (t n : Nat) (rs : List ResultVar) : resVs P s h (.cell t n :: rs) = bd (ldV P n h (s t)) fun v => bd (resVs P s h rs) fun vs => some (v :: vs) := by
  rfl
attribute [simp] cell72 cell25 cell96 resVs_cell

/-! What changes. -/
/-- What changes lies in D. -/
structure Mod (D : Nat → Prop) (h h' : H) : Prop where
  n : h.n ≤ h'.n
  get : ∀ c, c < h.n → ¬ D c → h'.get c = h.get c
def grow (D : Nat → Prop) (h h' : H) : Nat → Prop := fun c => D c ∨ (h.n ≤ c ∧ c < h'.n)
theorem Mod.refl (D : Nat → Prop) (h : H) : Mod D h h := ⟨Nat.le_refl _, fun _ _ _ => rfl⟩
theorem Mod.trans {D : Nat → Prop} {a b c : H} (x : Mod D a b) (y : Mod (grow D a b) b c) : Mod D a c :=
  ⟨Nat.le_trans x.n y.n, fun i hi hd => by
    have := x.n
    rw [y.get i (by omega) (by rintro (h | h); exact hd h; omega), x.get i hi hd]⟩
theorem Mod.tr {D : Nat → Prop} {a b c : H} (x : Mod D a b) (y : Mod D b c) : Mod D a c :=
  ⟨Nat.le_trans x.n y.n, fun i hi hd => by
    have := x.n
    rw [y.get i (by omega) hd, x.get i hi hd]⟩
theorem Mod.mono {D E : Nat → Prop} {a b : H} (x : Mod D a b) (h : ∀ c, c < a.n → D c → E c) : Mod E a b := ⟨x.n, fun i hi hd => x.get i hi fun e => hd (h i hi e)⟩
theorem Mod.of {D : Nat → Prop} {a b : H} (x : Ext a b) : Mod D a b := ⟨x.n, fun i hi _ => x.get i hi⟩
theorem Mod.ext {D : Nat → Prop} {a b : H} (x : Mod D a b) {p : H} (hp : Ext p a) (hd : ∀ c, c < p.n → ¬ D c) : Ext p b :=
  ⟨Nat.le_trans hp.n x.n, fun c hc => by have := hp.n; rw [x.get c (by omega) (hd c hc), hp.get c hc]⟩

/-! Slices. -/
def wordsV (l : List Nat) : List V := l.map fun x => .int .u16 (x : Nat)
theorem wordsV_length (l : List Nat) : (wordsV l).length = l.length := by simp [wordsV]
theorem wordsV_append (l m : List Nat) : wordsV (l ++ m) = wordsV l ++ wordsV m := by simp [wordsV]
/-- The number that stands at a place. -/
def nth (l : List Nat) (i : Nat) : Nat := l.getD i 0
theorem nth_of {l : List Nat} {i : Nat} (h : i < l.length) : nth l i = l[i] := by simp [nth, h]
theorem wordsV_get (l : List Nat) (i : Nat) (h : i < l.length) : (wordsV l)[i]? = some (.int .u16 (nth l i : Nat)) := by simp [wordsV, h, nth]

/-- What a slice's capacity is known to be: enough to cut it. -/
def CapOk (z n : Nat) : Cap → Prop
  | .ex c => n ≤ c
  | .op z' => z' = z
/-- A slice of n elements of z cells each, its block in D. -/
def SlR (D : Nat → Prop) (h : H) (v : V) (t z n : Nat) (cs : List V) : Prop :=
  (v = .nils ∧ n = 0 ∧ cs = []) ∨ ∃ b o k c, v = .sl b o n k ∧ h.get b = some (.cells c t false) ∧ o + n * z ≤ c.length ∧ cs = (c.drop o).take (n * z) ∧ D b ∧ CapOk z n k

section slr
variable {D : Nat → Prop} {h : H} {v : V} {t z n : Nat} {cs : List V}
theorem SlR.length (a : SlR D h v t z n cs) : cs.length = n * z := by
  rcases a with ⟨_, rfl, rfl⟩ | ⟨b, o, k, c, _, _, h3, rfl, _⟩
  · simp
  · rw [List.length_take, List.length_drop]; omega
theorem SlR.len (a : SlR D h v t z n cs) : lnS v = some (.int .i64 n) := by
  rcases a with ⟨rfl, rfl, _⟩ | ⟨b, o, k, c, rfl, _⟩ <;> simp
theorem SlR.lenOf (a : SlR D h v t z n cs) : lenOf v = some n := by
  rcases a with ⟨rfl, rfl, _⟩ | ⟨b, o, k, c, rfl, _⟩ <;> rfl
theorem SlR.cell (a : SlR D h v t z n cs) : v.isCell = true := by
  rcases a with ⟨rfl, rfl, _⟩ | ⟨b, o, k, c, rfl, _⟩ <;> rfl
theorem SlR.cells (a : SlR D h v t z n cs) : V.cells v = some [v] := by
  rcases a with ⟨rfl, rfl, _⟩ | ⟨b, o, k, c, rfl, _⟩ <;> rfl
theorem SlR.same (a : SlR D h v t z n cs) : V.same v v = true := by
  rcases a with ⟨rfl, rfl, _⟩ | ⟨b, o, k, c, rfl, _⟩ <;> simp [V.same]
theorem SlR.ck (a : SlR D h v t z n cs) {β : Type} (k : Option β) : ck (some v) v k = k := by
  rcases a with ⟨rfl, rfl, _⟩ | ⟨b, o, k, c, rfl, _⟩ <;> simp
theorem SlR.stZ (a : SlR D h v t z n cs) (g : H) (b o : Nat) : stZ 1 g (.ptr b o) v = (g.wr1 b o v).bind fun h' => some (.und, h') := stZ_one g b o v a.cell
theorem SlR.first (a : SlR D h v t z n cs) : firstV h z n v = some cs := by
  rcases a with ⟨rfl, rfl, rfl⟩ | ⟨b, o, k, c, rfl, h2, h3, rfl, _⟩
  · rfl
  · show h.rdN b o (n * z) = _; rw [rdN_of h2 h3]
theorem SlR.mono {E : Nat → Prop} (a : SlR D h v t z n cs) (hd : ∀ b, b < h.n → D b → E b) : SlR E h v t z n cs := by
  rcases a with a | ⟨b, o, k, c, h1, h2, h3, h4, h5, h6⟩
  · exact .inl a
  · exact .inr ⟨b, o, k, c, h1, h2, h3, h4, hd b (H.get_lt h2) h5, h6⟩
theorem SlR.keep {h' : H} (a : SlR D h v t z n cs) (hk : ∀ b c, D b → h.get b = some (.cells c t false) → h'.get b = h.get b) : SlR D h' v t z n cs := by
  rcases a with a | ⟨b, o, k, c, h1, h2, h3, h4, h5, h6⟩
  · exact .inl a
  · exact .inr ⟨b, o, k, c, h1, by rw [hk b c h5 h2, h2], h3, h4, h5, h6⟩
theorem SlR.ext {h' : H} (a : SlR D h v t z n cs) (x : Ext h h') : SlR D h' v t z n cs := a.keep fun b c _ hb => x.get b (H.get_lt hb)
theorem SlR.nil (D : Nat → Prop) (h : H) (t z : Nat) : SlR D h .nils t z 0 [] := .inl ⟨rfl, rfl, rfl⟩
theorem SlR.of {b : Nat} {k : Cap} {c : List V} (hb : h.get b = some (.cells c t false)) (hl : c.length = n * z) (hd : D b) (hk : CapOk z n k := by first | assumption | exact Nat.le_refl _ | rfl) : SlR D h (.sl b 0 n k) t z n c :=
  .inr ⟨b, 0, k, c, rfl, hb, by omega, by rw [List.drop_zero, List.take_of_length_le (by omega)], hd, hk⟩
theorem GrowV.slr {p : Nat} (a : GrowV p h v t z cs n) (hd : ∀ b, p ≤ b → D b) : SlR D h v t z n cs := by
  rcases a with ⟨rfl, rfl, rfl⟩ | ⟨b, rfl, h2, h3, h4⟩
  · exact SlR.nil _ _ _ _
  · exact SlR.of h2 h3 (hd b h4)
/-- Its elements. -/
theorem SlR.at (a : SlR D h v t z n cs) {i : Nat} (hi : i < n) : ∃ b o, iaS z v (.int .i64 i) = some (.ptr b o) ∧ D b ∧ (∃ c, h.get b = some (.cells c t false)) ∧ (∀ j, j < z → h.rd1 b (o + j) = cs[i * z + j]?) ∧ h.rdN b o z = some ((cs.drop (i * z)).take z) := by
  rcases a with ⟨rfl, rfl, _⟩ | ⟨b, o, k, c, rfl, h2, h3, rfl, h5, _⟩
  · omega
  · have hz : i * z + z ≤ n * z := by have := Nat.mul_le_mul_right z hi; rw [Nat.succ_mul] at this; exact this
    refine ⟨b, o + i * z, by simp [hi], h5, ⟨c, h2⟩, fun j hj => ?_, ?_⟩
    · rw [rd1_of h2, List.getElem?_take, if_pos (by omega), List.getElem?_drop]; congr 1; omega
    · rw [rdN_of h2 (by omega)]
      congr 1
      apply List.ext_getElem?
      intro j
      simp only [List.getElem?_take, List.getElem?_drop]
      by_cases hj : j < z
      · rw [if_pos hj, if_pos hj, if_pos (by omega)]; congr 1; omega
      · rw [if_neg hj, if_neg hj]
theorem SlR.at1 (a : SlR D h v t 1 n cs) {i : Nat} (hi : i < n) : ∃ b o, iaS 1 v (.int .i64 i) = some (.ptr b o) ∧ h.rd1 b o = cs[i]? ∧ D b ∧ ∃ c, h.get b = some (.cells c t false) := by
  obtain ⟨b, o, h1, h2, h3, h4, _⟩ := a.at hi
  exact ⟨b, o, h1, by have := h4 0 (by omega); simpa using this, h2, h3⟩
theorem SlR.at2 (a : SlR D h v t 2 n cs) {i : Nat} (hi : i < n) {x y : V} (hx : cs[2 * i]? = some x) (hy : cs[2 * i + 1]? = some y) : ∃ b o, iaS 2 v (.int .i64 i) = some (.ptr b o) ∧ h.rd1 b o = some x ∧ h.rd1 b (o + 1) = some y ∧ h.rdN b o 2 = some [x, y] ∧ D b ∧ ∃ c, h.get b = some (.cells c t false) := by
  obtain ⟨b, o, h1, h2, h3, h4, h5⟩ := a.at hi
  refine ⟨b, o, h1, by have := h4 0 (by omega); rw [Nat.add_zero, Nat.add_zero, Nat.mul_comm, hx] at this; exact this, by have := h4 1 (by omega); rw [this, Nat.mul_comm, hy], ?_, h2, h3⟩
  rw [h5]
  congr 1
  apply List.ext_getElem?
  intro j
  simp only [List.getElem?_take, List.getElem?_drop, Nat.mul_comm i 2]
  match j with
  | 0 => simp [hx]
  | 1 => simp [hy]
  | j + 2 => simp; omega
end slr

/-! Tables, sets. -/
structure Tb where
  c : List Nat
  n : Int
def U16 (D : Nat → Prop) (h : H) (v : V) (c : List Nat) : Prop := SlR D h v tU 1 c.length (wordsV c) ∧ ∀ x ∈ c, x < 65536
def Els (D : Nat → Prop) (h : H) (cs : List V) (r : List Tb) : Prop := ∀ (i : Nat) (t : Tb), r[i]? = some t → ∃ vc, cs[2 * i]? = some vc ∧ cs[2 * i + 1]? = some (.int .i64 t.n) ∧ U16 D h vc t.c
def RowR (D : Nat → Prop) (h : H) (v : V) (r : List Tb) : Prop := ∃ cs, SlR D h v tT 2 r.length cs ∧ Els D h cs r
def SetR (D : Nat → Prop) (h : H) (v : V) (S : List (List Tb)) : Prop := ∃ cs, SlR D h v tR 1 S.length cs ∧ ∀ (k : Nat) (r : List Tb), S[k]? = some r → ∃ vr, cs[k]? = some vr ∧ RowR D h vr r

section sets
variable {D E : Nat → Prop} {h h' : H} {v : V}
theorem U16.keep {c : List Nat} (a : U16 D h v c) (hk : ∀ b c, D b → h.get b = some (.cells c tU false) → h'.get b = h.get b) : U16 D h' v c := ⟨a.1.keep hk, a.2⟩
theorem U16.ext {c : List Nat} (a : U16 D h v c) (x : Ext h h') : U16 D h' v c := ⟨a.1.ext x, a.2⟩
theorem U16.mono {c : List Nat} (a : U16 D h v c) (hd : ∀ b, b < h.n → D b → E b) : U16 E h v c := ⟨a.1.mono hd, a.2⟩
theorem U16.at {c : List Nat} (a : U16 D h v c) {i : Nat} (hi : i < c.length) : ∃ b o, iaS 1 v (.int .i64 i) = some (.ptr b o) ∧ h.rd1 b o = some (.int .u16 (nth c i : Nat)) ∧ D b ∧ ∃ c, h.get b = some (.cells c tU false) := by
  obtain ⟨b, o, h1, h2, h3⟩ := a.1.at1 hi
  exact ⟨b, o, h1, by rw [h2, wordsV_get c i hi], h3⟩
theorem U16.lt {c : List Nat} (a : U16 D h v c) (i : Nat) : nth c i < 65536 := by
  by_cases hi : i < c.length
  · rw [nth_of hi]; exact a.2 _ (List.getElem_mem hi)
  · simp [nth, List.getElem?_eq_none (show c.length ≤ i by omega)]
theorem Els.keep {cs : List V} {r : List Tb} (a : Els D h cs r) (hk : ∀ b c, D b → h.get b = some (.cells c tU false) → h'.get b = h.get b) : Els D h' cs r := fun i t hi => by
  obtain ⟨vc, h1, h2, h3⟩ := a i t hi; exact ⟨vc, h1, h2, h3.keep hk⟩
theorem Els.ext {cs : List V} {r : List Tb} (a : Els D h cs r) (x : Ext h h') : Els D h' cs r := a.keep fun b c _ hb => x.get b (H.get_lt hb)
theorem Els.mono {cs : List V} {r : List Tb} (a : Els D h cs r) (hd : ∀ b, b < h.n → D b → E b) : Els E h cs r := fun i t hi => by
  obtain ⟨vc, h1, h2, h3⟩ := a i t hi; exact ⟨vc, h1, h2, h3.mono hd⟩
theorem Els.nil (D : Nat → Prop) (h : H) : Els D h [] [] := fun i t hi => by simp at hi
theorem Els.snoc {cs : List V} {r : List Tb} {t : Tb} (a : Els D h cs r) (hl : cs.length = r.length * 2) (u : U16 D h v t.c) : Els D h (cs ++ [v, .int .i64 t.n]) (r ++ [t]) := fun i s hi => by
  by_cases e : i < r.length
  · rw [List.getElem?_append_left e] at hi
    obtain ⟨vc, h1, h2, h3⟩ := a i s hi
    exact ⟨vc, by rw [List.getElem?_append_left (by omega), h1], by rw [List.getElem?_append_left (by omega), h2], h3⟩
  · rw [List.getElem?_append_right (by omega)] at hi
    have hi0 : i = r.length := by
      by_cases e2 : i = r.length
      · exact e2
      · rw [List.getElem?_eq_none (by simp; omega)] at hi; cases hi
    subst hi0
    simp at hi
    subst hi
    exact ⟨v, by rw [List.getElem?_append_right (by omega)]; simp [hl, Nat.mul_comm], by rw [List.getElem?_append_right (by omega)]; simp [hl, Nat.mul_comm], u⟩
theorem RowR.keep {r : List Tb} (a : RowR D h v r) (hk : ∀ b, D b → b < h.n → h'.get b = h.get b) : RowR D h' v r := by
  obtain ⟨cs, h1, h2⟩ := a
  exact ⟨cs, h1.keep fun b c hd hb => hk b hd (H.get_lt hb), h2.keep fun b c hd hb => hk b hd (H.get_lt hb)⟩
theorem RowR.mono {r : List Tb} (a : RowR D h v r) (hd : ∀ b, b < h.n → D b → E b) : RowR E h v r := by
  obtain ⟨cs, h1, h2⟩ := a
  exact ⟨cs, h1.mono hd, h2.mono hd⟩
theorem SetR.keep {S : List (List Tb)} (a : SetR D h v S) (hk : ∀ b, D b → b < h.n → h'.get b = h.get b) : SetR D h' v S := by
  obtain ⟨cs, h1, h2⟩ := a
  exact ⟨cs, h1.keep fun b c hd hb => hk b hd (H.get_lt hb), fun k r hr => by obtain ⟨vr, k1, k2⟩ := h2 k r hr; exact ⟨vr, k1, k2.keep hk⟩⟩
theorem SetR.ext {S : List (List Tb)} (a : SetR D h v S) (x : Ext h h') : SetR D h' v S := a.keep fun b _ hb => x.get b hb
theorem SetR.mono {S : List (List Tb)} (a : SetR D h v S) (hd : ∀ b, b < h.n → D b → E b) : SetR E h v S := by
  obtain ⟨cs, h1, h2⟩ := a
  exact ⟨cs, h1.mono hd, fun k r hr => by obtain ⟨vr, k1, k2⟩ := h2 k r hr; exact ⟨vr, k1, k2.mono hd⟩⟩
theorem SetR.row {S : List (List Tb)} (a : SetR D h v S) {k : Nat} {r : List Tb} (hr : S[k]? = some r) : ∃ b o vr, iaS 1 v (.int .i64 k) = some (.ptr b o) ∧ h.rd1 b o = some vr ∧ RowR D h vr r ∧ D b ∧ b < h.n := by
  obtain ⟨cs, h1, h2⟩ := a
  obtain ⟨vr, k1, k2⟩ := h2 k r hr
  have hk : k < S.length := by
    by_cases e : k < S.length
    · exact e
    · rw [List.getElem?_eq_none (by omega)] at hr; cases hr
  obtain ⟨b, o, j1, j2, j3, c, j4⟩ := h1.at1 hk
  exact ⟨b, o, vr, j1, by rw [j2, k1], k2, j3, H.get_lt j4⟩
theorem RowR.tab {r : List Tb} (a : RowR D h v r) {i : Nat} {t : Tb} (hr : r[i]? = some t) : ∃ b o vc, iaS 2 v (.int .i64 i) = some (.ptr b o) ∧ h.rd1 b o = some vc ∧ h.rd1 b (o + 1) = some (.int .i64 t.n) ∧ h.rdN b o 2 = some [vc, .int .i64 t.n] ∧ U16 D h vc t.c ∧ D b ∧ b < h.n := by
  obtain ⟨cs, h1, h2⟩ := a
  obtain ⟨vc, k1, k2, k3⟩ := h2 i t hr
  have hk : i < r.length := by
    by_cases e : i < r.length
    · exact e
    · rw [List.getElem?_eq_none (by omega)] at hr; cases hr
  obtain ⟨b, o, j1, j2, j3, j4, j5, c, j6⟩ := h1.at2 hk k1 k2
  exact ⟨b, o, vc, j1, j2, j3, j4, k3, j5, H.get_lt j6⟩
end sets
end Go.Proofs.Ytfjghgjkpenanaa
/- Tables: whether they may be, their bounds. -/
set_option linter.unusedVariables false
set_option linter.unusedSimpArgs false
namespace Go.Proofs.Ytfjghgjkpenanaa
open Go Go.Zf
open Go.Zf (wi64)

/-! What is meant. -/
def Sorted (c : List Nat) : Prop := ∀ i, i + 1 < c.length → nth c i ≤ nth c (i + 1)
def TabOk (t : Tb) : Prop := (2 ≤ t.c.length ∧ t.c.length ≤ 16) ∧ (0 ≤ t.n ∧ t.n ≤ 32) ∧ Sorted t.c ∧ nth t.c (t.c.length - 1) = 32768
noncomputable instance (t : Tb) : Decidable (TabOk t) := Classical.propDecidable _
noncomputable instance (c : List Nat) : Decidable (Sorted c) := Classical.propDecidable _
/-- Where a value's part ends. -/
def pt (t : Tb) (j : Nat) : Nat := if j = 0 then 0 else nth t.c (j - 1) * (32768 - 4 * t.c.length) / 32768 + 4 * j
theorem sorted_le {c : List Nat} (h : Sorted c) : ∀ {j i : Nat}, i ≤ j → j < c.length → nth c i ≤ nth c j
  | 0, i, h1, h2 => by have : i = 0 := by omega
                       subst this; exact Nat.le_refl _
  | j + 1, i, h1, h2 => by
    by_cases e : i = j + 1
    · subst e; exact Nat.le_refl _
    · exact Nat.le_trans (sorted_le h (j := j) (by omega) (by omega)) (h j h2)
theorem TabOk.le {t : Tb} (a : TabOk t) {i : Nat} (hi : i < t.c.length) : nth t.c i ≤ 32768 := by
  have := sorted_le a.2.2.1 (i := i) (j := t.c.length - 1) (by omega) (by omega)
  rw [a.2.2.2] at this; exact this
theorem pt_zero (t : Tb) : pt t 0 = 0 := by simp [pt]
theorem pt_succ (t : Tb) (s : Nat) : pt t (s + 1) = nth t.c s * (32768 - 4 * t.c.length) / 32768 + 4 * (s + 1) := by simp [pt]
theorem pt_lt {t : Tb} (a : TabOk t) {s : Nat} (hs : s < t.c.length) : pt t s < pt t (s + 1) := by
  rw [pt_succ]
  cases s with
  | zero => rw [pt_zero]; omega
  | succ s =>
    rw [pt_succ]
    have h1 := a.2.2.1 s hs
    have h2 := Nat.div_le_div_right (c := 32768) (Nat.mul_le_mul_right (32768 - 4 * t.c.length) h1)
    omega
theorem pt_last {t : Tb} (a : TabOk t) : pt t t.c.length = 32768 := by
  obtain ⟨⟨l1, l2⟩, _, _, h⟩ := a
  obtain ⟨n, hn⟩ : ∃ n, t.c.length = n + 1 := ⟨t.c.length - 1, by omega⟩
  rw [hn] at h ⊢
  rw [pt_succ, hn]
  simp only [Nat.add_sub_cancel] at h
  rw [h, Nat.mul_comm, Nat.mul_div_cancel _ (by decide)]
  omega
theorem pt_mono {t : Tb} (a : TabOk t) : ∀ {j i : Nat}, i ≤ j → j ≤ t.c.length → pt t i ≤ pt t j
  | 0, i, h1, h2 => by have : i = 0 := by omega
                       subst this; exact Nat.le_refl _
  | j + 1, i, h1, h2 => by
    by_cases e : i = j + 1
    · subst e; exact Nat.le_refl _
    · exact Nat.le_trans (pt_mono a (j := j) (by omega) (by omega)) (Nat.le_of_lt (pt_lt a (by omega)))
theorem pt_le {t : Tb} (a : TabOk t) {j : Nat} (hj : j ≤ t.c.length) : pt t j ≤ 32768 := by rw [← pt_last a]; exact pt_mono a hj (Nat.le_refl _)

/-! The functions. -/
theorem sizes80_ok (n : Int) (h : H) : KW 80 [.int .i64 n] h = some (.ret (.bool (decide (2 ≤ n) && decide (n ≤ 16))), h) := by
  rw [w80, f80, s80]
  by_cases h1 : 2 ≤ n
  · simp [h1]
  · simp [h1]
theorem nan99_ok (a : Int) (h : H) : KW 99 [.int .u16 a] h = some (.ret (.bool false), h) := by
  rw [w99, f99, s99]; simp
theorem less96_ok (a b : Int) (h : H) : KW 96 [.int .u16 a, .int .u16 b] h = some (.ret (.bool (decide (a < b))), h) := by
  rw [w96, f96, s96]; simp [nan99_ok, gl_t, gk_t]

theorem sorted86_ok {D : Nat → Prop} {h : H} {v : V} {c : List Nat} (u : U16 D h v c) (hl : c.length < 1000) : KW 86 [v] h = some (.ret (.bool (decide (Sorted c))), h) := by
  have loop := loop_run (body := l86_0 KW loopZ) (fun n e g => g = h ∧ e.s [0, 2, 3] 0 = v ∧ e.s [0, 2, 3] 3 = .int .i64 ((n : Int) - 1) ∧ n ≤ c.length ∧ ∀ j, n ≤ j + 1 → j + 1 < c.length → nth c j ≤ nth c (j + 1))
    (fun s => s.h = h ∧ ((s.x = .ex 0 ∧ Sorted c) ∨ (s.x = .rt ∧ s.e.s [0, 2, 3] 2 = .bool false ∧ ¬ Sorted c)))
    (fun n e g ⟨hg, p0, p3, hn, hs⟩ => by
      subst hg
      by_cases h0 : (0 : Int) < (n : Int) - 1
      · obtain ⟨i, rfl⟩ : ∃ i, n = i + 2 := ⟨n - 2, by omega⟩
        obtain ⟨b, o, q1, q2, _⟩ := u.at (i := i + 1) (by omega)
        obtain ⟨b', o', r1, r2, _⟩ := u.at (i := i) (by omega)
        have z1 : ((i + 2 : Nat) : Int) - 1 = ((i + 1 : Nat) : Int) := by omega
        rw [z1] at p3
        simp [l86_0, p3, show (0 : Int) < (i : Int) + 1 by omega]
        have q1' : iaS 1 v (.int .i64 ((i : Int) + 1)) = some (.ptr b o) := by simpa using q1
        have z2' : IntKind.i64.wrap (i : Int) = (i : Int) := wi64 (by omega) (by omega)
        simp [p0, q1', q2, z2', r1, r2, less96_ok]
        by_cases hc : nth c (i + 1) < nth c i
        · simp [hc]
          refine ⟨rfl, .inr ⟨rfl, by simp, fun hS => ?_⟩⟩
          have := hS i (by omega)
          omega
        · simp [hc]
          refine ⟨i + 1, by omega, rfl, by simp [p0], by simp [z2'], by omega, fun j hj hj2 => ?_⟩
          by_cases e : j = i
          · subst e; omega
          · exact hs j (by omega) hj2
      · simp [l86_0, p3, show ¬ (0 : Int) < (n : Int) - 1 by omega, show ¬ 1 < (n : Int) by omega, show ¬ 1 < n by omega]
        exact ⟨rfl, .inl ⟨rfl, fun j hj => hs j (by omega) hj⟩⟩)
  have hl0 := u.1.len
  obtain ⟨s, r1, r2, r3⟩ := loop c.length ⟨[v, .bool false, .int .i64 ((c.length : Int) - 1)], 3, .int .i64 ((c.length : Int) - 1)⟩ h ⟨rfl, by simp, by simp, by omega, fun j hj hj2 => by omega⟩
  rw [w86, f86, s86]
  have z : IntKind.i64.wrap ((c.length : Int) - 1) = (c.length : Int) - 1 := wi64 (by omega) (by omega)
  obtain ⟨x, e', h'⟩ := s
  simp only at r2 r3
  subst r2
  simp [hl0, z, r1]
  rcases r3 with ⟨rfl, hs⟩ | ⟨rfl, p2, hs⟩
  · simp [hs]
  · simp [p2, hs]

/-- A table that is handed over is put into a box. -/
theorem box72 {D : Nat → Prop} {h : H} {v : V} {t : Tb} (u : U16 D h v t.c) : ∃ h1, bx h 72 (.agg [v, .int .i64 t.n]) = some (.ptr h.n 0, h1) ∧ Ext h h1 ∧ h1.get h.n = some (.cells [v, .int .i64 t.n] 72 false) ∧ h1.n = h.n + 1 ∧ U16 D h1 v t.c :=
  ⟨h.new (.cells [v, .int .i64 t.n] 72 false), rfl, (Ext.refl h).new _, get_new_same, H.n_new _ _, u.ext ((Ext.refl h).new _)⟩

theorem check58_ok {D : Nat → Prop} {h : H} {v : V} {t : Tb} (u : U16 D h v t.c) (hl : t.c.length < 1000) : RT (fun w h' => w = .int .i64 (if TabOk t then 0 else 2) ∧ Ext h h') (KW 58 [.agg [v, .int .i64 t.n]] h) := by
  obtain ⟨h1, b1, x1, g1, n1, u1⟩ := box72 u
  have ul := u1.1.len
  have us := sorted86_ok u1 hl
  have st := sizes80_ok (t.c.length : Int)
  rw [w58, f58, s58]
  by_cases c1 : 2 ≤ t.c.length ∧ t.c.length ≤ 16
  · obtain ⟨c1, c2⟩ := c1
    rw [show (decide (2 ≤ (t.c.length : Int)) && decide ((t.c.length : Int) ≤ 16)) = true by rw [Bool.and_eq_true, decide_eq_true_eq, decide_eq_true_eq]; omega] at st
    by_cases c3 : t.n < 0
    · simp [b1, rd1_of g1, ul, st, c1, c2, c3]
      exact ⟨by rw [if_neg]; intro a; have := a.2.1; omega, x1⟩
    · by_cases c4 : 32 < t.n
      · simp [b1, rd1_of g1, ul, st, c1, c2, c3, c4]
        exact ⟨by rw [if_neg]; intro a; have := a.2.1; omega, x1⟩
      · by_cases c5 : Sorted t.c
        · obtain ⟨b, o, q1, q2, _⟩ := u1.at (i := t.c.length - 1) (by omega)
          have z1 : IntKind.i64.wrap ((t.c.length : Int) - 1) = ((t.c.length - 1 : Nat) : Int) := by rw [wi64 (by omega) (by omega)]; omega
          obtain ⟨x, hx⟩ : ∃ x, x = nth t.c (t.c.length - 1) := ⟨_, rfl⟩
          rw [← hx] at q2
          by_cases c6 : x = 32768
          · simp [b1, rd1_of g1, ul, st, c1, c2, c3, c4, us, c5, z1, q1, q2, c6]
            exact ⟨by rw [if_pos ⟨⟨c1, c2⟩, ⟨by omega, by omega⟩, c5, by rw [← hx, c6]⟩], x1⟩
          · have c6' : ¬ (x : Int) = 32768 := by omega
            simp [b1, rd1_of g1, ul, st, c1, c2, c3, c4, us, c5, z1, q1, q2, c6, c6']
            exact ⟨by rw [if_neg]; intro a; exact c6 (by rw [hx]; exact a.2.2.2), x1⟩
        · simp [b1, rd1_of g1, ul, st, c1, c2, c3, c4, us, c5]
          exact ⟨by rw [if_neg]; intro a; exact c5 a.2.2.1, x1⟩
  · have e1 : (decide (2 ≤ (t.c.length : Int)) && decide ((t.c.length : Int) ≤ 16)) = false := by
      rw [Bool.and_eq_false_iff]; simp only [decide_eq_false_iff_not]; omega
    rw [e1] at st
    simp [b1, rd1_of g1, ul, st]
    exact ⟨by rw [if_neg]; intro a; exact c1 a.1, x1⟩

/-- An end of a part. -/
theorem end95_ok {D : Nat → Prop} {h : H} {v : V} {t : Tb} (u : U16 D h v t.c) (ok : TabOk t) {j : Nat} (hj : j ≤ t.c.length) : RT (fun w h' => w = .int .u32 (pt t j : Nat) ∧ Ext h h') (KW 95 [.agg [v, .int .i64 t.n], .int .i64 ((j : Int) - 1)] h) := by
  obtain ⟨h1, b1, x1, g1, n1, u1⟩ := box72 u
  have ul := u1.1.len
  rw [w95, f95, s95]
  cases j with
  | zero =>
    simp [b1]
    exact ⟨by simp [pt], x1⟩
  | succ s =>
    obtain ⟨b, o, q1, q2, _⟩ := u1.at (i := s) (by omega)
    have hc := ok.le (i := s) (by omega)
    obtain ⟨x, hx⟩ : ∃ x, x = nth t.c s := ⟨_, rfl⟩
    obtain ⟨n, hn⟩ : ∃ n, n = t.c.length := ⟨_, rfl⟩
    have hp := pt_succ t s
    have hpl := pt_le ok hj
    rw [hp, ← hx, ← hn] at hpl
    rw [← hx] at q2 hc
    rw [hp, ← hx, ← hn]
    rw [← hn] at ul hj
    have l1 := ok.1.1
    have l2 := ok.1.2
    rw [← hn] at l1 l2
    have zs : ((s + 1 : Nat) : Int) - 1 = (s : Int) := by omega
    have z1 : IntKind.u32.wrap (x : Int) = x := wu32 (by omega) (by omega)
    have z2 : IntKind.i64.wrap (4 * (n : Int)) = 4 * n := wi64 (by omega) (by omega)
    have z3 : IntKind.i64.wrap (32768 - 4 * (n : Int)) = 32768 - 4 * n := wi64 (by omega) (by omega)
    have z4 : IntKind.u32.wrap (32768 - 4 * (n : Int)) = 32768 - 4 * n := wu32 (by omega) (by omega)
    have m1 := mul_bd (a := (x : Int)) (b := 32768 - 4 * (n : Int)) (A := 32768) (B := 32768) (by omega) (by omega) (by omega) (by omega)
    have z5 : IntKind.u32.wrap ((x : Int) * (32768 - 4 * n)) = x * (32768 - 4 * n) := wu32 m1.1 (by omega)
    have z6 : IntKind.i64.wrap ((s : Int) + 1) = s + 1 := wi64 (by omega) (by omega)
    have z7 : IntKind.i64.wrap (4 * ((s : Int) + 1)) = 4 * (s + 1) := wi64 (by omega) (by omega)
    have z8 : IntKind.u32.wrap (4 * ((s : Int) + 1)) = 4 * (s + 1) := wu32 (by omega) (by omega)
    have e1 : ((x * (32768 - 4 * n) / 32768 + 4 * (s + 1) : Nat) : Int) = (x : Int) * (32768 - 4 * n) / 32768 + 4 * (s + 1) := by
      rw [Int.natCast_add, Int.natCast_ediv, Int.natCast_mul, Int.ofNat_sub (by omega)]; simp
    have z9 : IntKind.u32.wrap ((x : Int) * (32768 - 4 * n) / 32768 + 4 * (s + 1)) = ((x * (32768 - 4 * n) / 32768 + 4 * (s + 1) : Nat) : Int) := by
      rw [← e1]; exact wu32 (by omega) (by omega)
    rw [zs]
    simp [b1, show ¬ (s : Int) < 0 by omega, rd1_of g1, ul, q1, q2, z1, z2, z3, z4, z5, z6, z7, z8, z9, u1.1.ck, show (min 15 IntKind.u32.bits) = 15 from rfl]
    exact ⟨rfl, x1⟩
end Go.Proofs.Ytfjghgjkpenanaa
/- Tables: bounds, what is found; the document's. -/
set_option linter.unusedVariables false
set_option linter.unusedSimpArgs false
namespace Go.Proofs.Ytfjghgjkpenanaa
open Go Go.Zf
open Go.Zf (wi64)

theorem asked59_ok {D : Nat → Prop} {h : H} {v : V} {t : Tb} (u : U16 D h v t.c) (hl : t.c.length < 1000) (s : Int) : RT (fun w h' => w = .bool (decide (TabOk t ∧ 0 ≤ s ∧ s < t.c.length)) ∧ Ext h h') (KW 59 [.agg [v, .int .i64 t.n], .int .i64 s] h) := by
  obtain ⟨h1, b1, x1, g1, n1, u1⟩ := box72 u
  obtain ⟨w, h2, e2, rfl, x2⟩ := (check58_ok u1 hl).elim
  have g2 : h2.get h.n = _ := (x2.get _ (H.get_lt g1)).trans g1
  have ul := u1.1.len
  rw [w59, f59, s59]
  by_cases c1 : TabOk t
  · by_cases c2 : 0 ≤ s
    · simp [b1, rdN_of (o := 0) (n := 2) g1 (by simp), e2, c1, c2, rd1_of g2, ul, pk_bool]
      exact ⟨by simp, x1.trans x2⟩
    · simp [b1, rdN_of (o := 0) (n := 2) g1 (by simp), e2, c1, c2, gl_t]
      exact ⟨by simp, x1.trans x2⟩
  · simp [b1, rdN_of (o := 0) (n := 2) g1 (by simp), e2, c1, gl_t]
    exact ⟨by simp, x1.trans x2⟩

theorem bounds85_ok {D : Nat → Prop} {h : H} {v : V} {t : Tb} (u : U16 D h v t.c) (ok : TabOk t) {s : Nat} (hs : s < t.c.length) : RT (fun w h' => w = .tup [.int .u32 (pt t s : Nat), .int .u32 (pt t (s + 1) : Nat), .int .i64 0] ∧ Ext h h') (KW 85 [.agg [v, .int .i64 t.n], .int .i64 s] h) := by
  obtain ⟨h1, b1, x1, g1, n1, u1⟩ := box72 u
  have hl : t.c.length < 1000 := by have := ok.1; omega
  obtain ⟨w, h2, e2, rfl, x2⟩ := (asked59_ok u1 hl (s : Int)).elim
  rw [show decide (TabOk t ∧ 0 ≤ (s : Int) ∧ (s : Int) < t.c.length) = true by rw [decide_eq_true_eq]; exact ⟨ok, by omega, by omega⟩] at e2
  obtain ⟨w, h3, e3, rfl, x3⟩ := (end95_ok (u1.ext x2) ok (j := s) (by omega)).elim
  obtain ⟨w, h4, e4, rfl, x4⟩ := (end95_ok ((u1.ext x2).ext x3) ok (j := s + 1) (by omega)).elim
  rw [show ((s + 1 : Nat) : Int) - 1 = (s : Int) by omega] at e4
  have g2 : h2.get h.n = _ := (x2.get _ (H.get_lt g1)).trans g1
  have g3 : h3.get h.n = _ := (x3.get _ (H.get_lt g2)).trans g2
  have z : IntKind.i64.wrap ((s : Int) - 1) = (s : Int) - 1 := wi64 (by omega) (by omega)
  rw [w85, f85, s85]
  simp [b1, rdN_of (o := 0) (n := 2) g1 (by simp), rdN_of (o := 0) (n := 2) g2 (by simp), rdN_of (o := 0) (n := 2) g3 (by simp), e2, e3, e4, z, ck, V.same, V.sames, u.1.same]
  exact ⟨rfl, ((x1.trans x2).trans x3).trans x4⟩

/-- The value that has a place. -/
def findP (t : Tb) (at_ : Nat) : Nat := (List.range t.c.length).findIdx fun s => at_ < pt t (s + 1)
theorem findP_eq {t : Tb} {at_ s : Nat} (hs : s < t.c.length) (h1 : at_ < pt t (s + 1)) (h2 : ∀ j, j < s → pt t (j + 1) ≤ at_) : findP t at_ = s := by
  unfold findP
  rw [List.findIdx_eq (by simpa using hs)]
  refine ⟨by simpa using h1, fun j hj => ?_⟩
  have := h2 j hj
  simp; omega
theorem findP_lt {t : Tb} (ok : TabOk t) {at_ : Nat} (h : at_ < 32768) : findP t at_ < t.c.length ∧ pt t (findP t at_) ≤ at_ ∧ at_ < pt t (findP t at_ + 1) := by
  have h0 : ∃ n, n ≤ t.c.length ∧ at_ < pt t n ∧ ∀ j, j < n → pt t j ≤ at_ := by
    have hall : ∀ m, m ≤ t.c.length → (∃ n, n ≤ m ∧ at_ < pt t n ∧ ∀ j, j < n → pt t j ≤ at_) ∨ ∀ j, j ≤ m → pt t j ≤ at_ := by
      intro m
      induction m with
      | zero => intro _; exact .inr fun j hj => by have : j = 0 := by omega
                                                   subst this; rw [pt_zero]; omega
      | succ m ih =>
        intro hm
        rcases ih (by omega) with ⟨n, a, b⟩ | a
        · exact .inl ⟨n, by omega, b⟩
        · by_cases hc : at_ < pt t (m + 1)
          · exact .inl ⟨m + 1, by omega, hc, fun j hj => a j (by omega)⟩
          · exact .inr fun j hj => by
              by_cases e : j = m + 1
              · subst e; omega
              · exact a j (by omega)
    rcases hall t.c.length (Nat.le_refl _) with a | a
    · exact a
    · have := a _ (Nat.le_refl _); rw [pt_last ok] at this; omega
  obtain ⟨n, a, b, c⟩ := h0
  cases n with
  | zero => rw [pt_zero] at b; omega
  | succ n =>
    have e := findP_eq (t := t) (at_ := at_) (s := n) (by omega) b (fun j hj => c (j + 1) (by omega))
    rw [e]
    exact ⟨by omega, c n (by omega), b⟩

theorem find84_ok {D : Nat → Prop} {h : H} {v : V} {t : Tb} (u : U16 D h v t.c) (ok : TabOk t) {at_ : Nat} (ha : at_ < 32768) : RT (fun w h' => w = .tup [.int .i64 (findP t at_ : Nat), .int .i64 0] ∧ Ext h h') (KW 84 [.agg [v, .int .i64 t.n], .int .u32 at_] h) := by
  obtain ⟨h1, b1, x1, g1, n1, u1⟩ := box72 u
  have hl : t.c.length < 1000 := by have := ok.1; omega
  obtain ⟨w, h2, e2, rfl, x2⟩ := (check58_ok u1 hl).elim
  rw [if_pos ok] at e2
  have loop := loop_run (body := l84_0 KW loopZ) (fun n e g => Ext h2 g ∧ n ≤ t.c.length ∧ 0 < n ∧ e.s [0, 1, 2, 4, 5, 6] 1 = .int .u32 at_ ∧ e.s [0, 1, 2, 4, 5, 6] 2 = .ptr h.n 0 ∧ e.s [0, 1, 2, 4, 5, 6] 6 = .int .i64 ((t.c.length - n : Nat) : Int) ∧ ∀ j, j < t.c.length - n → pt t (j + 1) ≤ at_)
    (fun s => Ext h2 s.h ∧ s.x = .ex 0 ∧ s.e.s [0, 1, 2, 4, 5, 6] 6 = .int .i64 (findP t at_ : Nat))
    (fun n e g ⟨xg, hn, hn0, p1, p2, p6, hj⟩ => by
      obtain ⟨k, hk⟩ : ∃ k, k = t.c.length - n := ⟨_, rfl⟩
      rw [← hk] at p6 hj
      have gg : g.get h.n = _ := (xg.get _ (by have := x2.n; omega)).trans ((x2.get _ (H.get_lt g1)).trans g1)
      obtain ⟨w, h3, e3, rfl, x3⟩ := (end95_ok ((u1.ext x2).ext xg) ok (j := k + 1) (by omega)).elim
      rw [show ((k + 1 : Nat) : Int) - 1 = (k : Int) by omega] at e3
      by_cases hc : pt t (k + 1) ≤ at_
      · have z : IntKind.i64.wrap ((k : Int) + 1) = k + 1 := wi64 (by omega) (by omega)
        have hn1 : n ≠ 1 := by
          intro e; subst e
          have : k + 1 = t.c.length := by omega
          rw [this, pt_last ok] at hc; omega
        simp [l84_0, p2, rdN_of (o := 0) (n := 2) gg (by simp), p6, e3, p1, hc, z]
        refine ⟨n - 1, by omega, xg.trans x3, by omega, by omega, by simp [p1], by simp [p2], by simp; omega, fun j hj2 => ?_⟩
        by_cases e : j = k
        · subst e; exact hc
        · exact hj j (by omega)
      · simp [l84_0, p2, rdN_of (o := 0) (n := 2) gg (by simp), p6, e3, p1, hc]
        refine ⟨xg.trans x3, rfl, ?_⟩
        rw [findP_eq (s := k) (by omega) (by omega) hj]
        simp [p6])
  obtain ⟨s, r1, r2, r3, r4⟩ := loop t.c.length ⟨[.agg [v, .int .i64 t.n], .int .u32 at_, .ptr h.n 0, .int .i64 0, .int .i64 0, .int .i64 0], 6, .int .i64 0⟩ h2 ⟨Ext.refl h2, Nat.le_refl _, by have := ok.1; omega, by simp, by simp, by simp, fun j hj => by omega⟩
  obtain ⟨x, e', h'⟩ := s
  simp only at r2 r3 r4
  subst r3
  rw [w84, f84, s84]
  simp [b1, rdN_of (o := 0) (n := 2) g1 (by simp), e2, show ¬ (32768 : Int) ≤ at_ by omega, r1, r4, show ¬ 32768 ≤ at_ by omega]
  exact ⟨rfl, (x1.trans x2).trans r2⟩
end Go.Proofs.Ytfjghgjkpenanaa
/- Tables: what they learn. -/
set_option linter.unusedVariables false
set_option linter.unusedSimpArgs false
namespace Go.Proofs.Ytfjghgjkpenanaa
open Go Go.Zf
open Go.Zf (wi64)

/-- A slice over the whole of a block of its own, from p on. -/
def NewS (p : Nat) (h : H) (v : V) (t z : Nat) (cs : List V) (n : Nat) : Prop :=
  (v = .nils ∧ n = 0 ∧ cs = []) ∨ ∃ b k, v = .sl b 0 n k ∧ h.get b = some (.cells cs t false) ∧ cs.length = n * z ∧ p ≤ b ∧ CapOk z n k
theorem NewS.slr {D : Nat → Prop} {p : Nat} {h : H} {v : V} {t z n : Nat} {cs : List V} (a : NewS p h v t z cs n) (hd : ∀ b, p ≤ b → b < h.n → D b) : SlR D h v t z n cs := by
  rcases a with ⟨rfl, rfl, rfl⟩ | ⟨b, k, rfl, h2, h3, h4, h5⟩
  · exact SlR.nil _ _ _ _
  · exact SlR.of h2 h3 (hd b h4 (H.get_lt h2)) h5
theorem GrowV.newS {p : Nat} {h : H} {v : V} {t z n : Nat} {cs : List V} (a : GrowV p h v t z cs n) : NewS p h v t z cs n := by
  rcases a with a | ⟨b, h1, h2⟩
  · exact .inl a
  · exact .inr ⟨b, _, h1, h2.1, h2.2.1, h2.2.2, rfl⟩

/-- append to a slice of nothing. -/
theorem apZ_clone {D : Nat → Prop} {h : H} {v : V} {e z bytes n : Nat} {cs : List V} (a : SlR D h v e z n cs) (hb : n * bytes ≤ 140737488355328) :
    ∃ v' h', apZ e z bytes (h.new (.cells [] e false)) (.sl h.n 0 0 (.ex 0)) v = some (v', h') ∧ NewS h.n h' v' e z cs n ∧ Ext h h' ∧ (0 < n → ∃ b, v' = .sl b 0 n (.op z)) := by
  have x := (Ext.refl h).new (.cells [] e false)
  have a1 := a.ext x
  have hl := a1.lenOf
  have hf := a1.first
  have hc := a.length
  have g0 : (h.new (.cells [] e false)).get h.n = some (.cells [] e false) := get_new_same
  cases n with
  | zero =>
    have : cs = [] := by cases cs with
      | nil => rfl
      | cons a l => simp at hc
    subst this
    refine ⟨.sl h.n 0 0 (.ex 0), (h.new (.cells [] e false)).put h.n (.cells [] e false), ?_, .inr ⟨h.n, _, rfl, get_put_same (H.get_lt g0), by simp, Nat.le_refl _, Nat.le_refl _⟩, x.put (Nat.le_refl _) _, fun h => by omega⟩
    simp [apZ, hl, hf, apN, wrN_of (o := 0) g0, splice]
  | succ n =>
    refine ⟨.sl (h.n + 1) 0 (n + 1) (.op z), (h.new (.cells [] e false)).new (.cells cs e false), ?_, .inr ⟨h.n + 1, _, rfl, get_new_eq (by rw [H.n_new]), hc, by omega, rfl⟩, x.new _, fun _ => ⟨_, rfl⟩⟩
    simp [apZ, hl, hf, apN, hb, rdN_of (o := 0) (n := 0) g0, H.n_new]

theorem clone61_ok {D : Nat → Prop} {h : H} {v : V} {c : List Nat} (u : U16 D h v c) (hl : c.length < 1000) : RT (fun w h' => NewS h.n h' w tU 1 (wordsV c) c.length ∧ Ext h h' ∧ (0 < c.length → ∃ b, w = .sl b 0 c.length (.op 1))) (KW 61 [v] h) := by
  rw [w61, f61, s61]
  rcases u.1 with ⟨rfl, h2, h3⟩ | ⟨b, o, k, cs, hv, h2, h3, h4, h5⟩
  · simp
    exact ⟨.inl ⟨rfl, h2, h3⟩, Ext.refl h, fun h => by omega⟩
  · obtain ⟨v', h', k1, k2, k3, k4⟩ := apZ_clone (bytes := 2) u.1 (by omega)
    have hn : binK 3 .eql v .nils = some (.bool false) := by rw [hv]; rfl
    simp [hn, bs, fillW, k1]
    exact ⟨k2, k3, k4⟩

/-! How fast. -/
def rateP (t : Tb) : Nat := 3 + (if t.c.length < 4 then 1 else 2) + (if 15 < t.n then 1 else 0) + (if 31 < t.n then 1 else 0)
theorem rateP_lt (t : Tb) : rateP t < 8 := by unfold rateP; split <;> split <;> split <;> omega
theorem len98_ok {n : Nat} (h1 : 2 ≤ n) (h2 : n ≤ 16) (h : H) : ∃ m : Nat, KW 98 [.int .u64 n] h = some (.ret (.int .i64 m), h) ∧ min (m - 1) 2 = (if n < 4 then 1 else 2) ∧ 1 ≤ m ∧ m < 10 := by
  have hn : n = 2 ∨ n = 3 ∨ n = 4 ∨ n = 5 ∨ n = 6 ∨ n = 7 ∨ n = 8 ∨ n = 9 ∨ n = 10 ∨ n = 11 ∨ n = 12 ∨ n = 13 ∨ n = 14 ∨ n = 15 ∨ n = 16 := by omega
  rw [w98]
  rcases hn with rfl | rfl | rfl | rfl | rfl | rfl | rfl | rfl | rfl | rfl | rfl | rfl | rfl | rfl | rfl
  · exact ⟨2, by kernel_rfl, by decide, by omega, by omega⟩
  · exact ⟨2, by kernel_rfl, by decide, by omega, by omega⟩
  · exact ⟨3, by kernel_rfl, by decide, by omega, by omega⟩
  · exact ⟨3, by kernel_rfl, by decide, by omega, by omega⟩
  · exact ⟨3, by kernel_rfl, by decide, by omega, by omega⟩
  · exact ⟨3, by kernel_rfl, by decide, by omega, by omega⟩
  · exact ⟨4, by kernel_rfl, by decide, by omega, by omega⟩
  · exact ⟨4, by kernel_rfl, by decide, by omega, by omega⟩
  · exact ⟨4, by kernel_rfl, by decide, by omega, by omega⟩
  · exact ⟨4, by kernel_rfl, by decide, by omega, by omega⟩
  · exact ⟨4, by kernel_rfl, by decide, by omega, by omega⟩
  · exact ⟨4, by kernel_rfl, by decide, by omega, by omega⟩
  · exact ⟨4, by kernel_rfl, by decide, by omega, by omega⟩
  · exact ⟨4, by kernel_rfl, by decide, by omega, by omega⟩
  · exact ⟨5, by kernel_rfl, by decide, by omega, by omega⟩

theorem rate60_ok {D : Nat → Prop} {h : H} {v : V} {t : Tb} (u : U16 D h v t.c) (ok : TabOk t) : RT (fun w h' => w = .int .i64 (rateP t : Nat) ∧ Ext h h') (KW 60 [.agg [v, .int .i64 t.n]] h) := by
  obtain ⟨h1, b1, x1, g1, n1, u1⟩ := box72 u
  have ul := u1.1.len
  obtain ⟨m, e2, hm, m1, m2⟩ := len98_ok ok.1.1 ok.1.2 h1
  have e87 : KW 87 [.int .u64 (t.c.length : Int)] h1 = some (.ret (.int .i64 m), h1) := by
    rw [w87, f87, s87]; simp [e2]
  have z0 : IntKind.u64.wrap (t.c.length : Int) = t.c.length := by have := ok.1; exact wu64 (by omega) (by omega)
  have z1 : IntKind.i64.wrap ((m : Int) - 1) = ((m - 1 : Nat) : Int) := by rw [wi64 (by omega) (by omega)]; omega
  obtain ⟨q, hq⟩ : ∃ q, q = (if t.c.length < 4 then 1 else 2) := ⟨_, rfl⟩
  have e3 : (if (2 : Int) < ((m - 1 : Nat) : Int) then (2 : Int) else ((m - 1 : Nat) : Int)) = (q : Int) := by
    rw [hq, ← hm]; split <;> omega
  have hq2 : q ≤ 2 := by rw [hq]; split <;> omega
  have z2 : IntKind.i64.wrap (3 + (q : Int)) = 3 + q := wi64 (by omega) (by omega)
  have z3 : IntKind.i64.wrap (3 + (q : Int) + 1) = 3 + q + 1 := wi64 (by omega) (by omega)
  have z4 : IntKind.i64.wrap (3 + (q : Int) + 1 + 1) = 3 + q + 1 + 1 := wi64 (by omega) (by omega)
  have hr : (rateP t : Int) = 3 + q + (if 15 < t.n then 1 else 0) + (if 31 < t.n then 1 else 0) := by
    unfold rateP; rw [← hq]; split <;> split <;> simp
  rw [hr]
  rw [w60, f60, s60]
  by_cases c1 : 15 < t.n
  · by_cases c2 : 31 < t.n
    · simp [b1, rd1_of g1, ul, z0, e87, z1, e3, z2, c1, c2, z3, z4]
      exact ⟨rfl, x1⟩
    · simp [b1, rd1_of g1, ul, z0, e87, z1, e3, z2, c1, c2, z3, z4]
      exact ⟨rfl, x1⟩
  · simp [b1, rd1_of g1, ul, z0, e87, z1, e3, z2, c1, show ¬ 31 < t.n by omega]
    exact ⟨rfl, x1⟩
end Go.Proofs.Ytfjghgjkpenanaa
/- Adapt. -/
set_option linter.unusedVariables false
set_option linter.unusedSimpArgs false
namespace Go.Proofs.Ytfjghgjkpenanaa
open Go Go.Zf
open Go.Zf (wi64)

/-- A list of which the first j are f's, the others g's. -/
def mix (f g : Nat → Nat) (m j : Nat) : List Nat := (List.range m).map fun i => if i < j then f i else g i
theorem mix_length (f g : Nat → Nat) (m j : Nat) : (mix f g m j).length = m := by simp [mix]
theorem mix_nth (f g : Nat → Nat) {m j i : Nat} (h : i < m) : nth (mix f g m j) i = if i < j then f i else g i := by
  rw [nth_of (by rw [mix_length]; exact h)]; simp [mix]
theorem mix_set (f g : Nat → Nat) (m j : Nat) : (mix f g m j).set j (f j) = mix f g m (j + 1) := by
  apply List.ext_getElem
  · simp [mix]
  · intro i h1 h2
    rw [List.getElem_set]
    simp only [mix, List.getElem_map, List.getElem_range]
    by_cases e : j = i
    · subst e; simp
    · simp only [e, if_false]
      by_cases h : i < j
      · simp [h, Nat.lt_succ_of_lt h]
      · rw [if_neg h, if_neg (by omega)]
theorem list_eq_nth {l m : List Nat} (h : l.length = m.length) (hn : ∀ i, i < l.length → nth l i = nth m i) : l = m := by
  apply List.ext_getElem h
  intro i h1 h2
  have := hn i h1
  rwa [nth_of h1, nth_of h2] at this
theorem mix_zero (l : List Nat) (f : Nat → Nat) : mix f (nth l) l.length 0 = l := by
  apply list_eq_nth (mix_length _ _ _ _)
  intro i hi
  rw [mix_length] at hi
  rw [mix_nth f _ hi, if_neg (by omega)]
theorem wordsV_set (l : List Nat) (i x : Nat) : (wordsV l).set i (.int .u16 x) = wordsV (l.set i x) := by simp [wordsV, List.map_set]

/-- A place of a table that has learnt. -/
def adF (t : Tb) (s i : Nat) : Nat := if i + 1 = t.c.length then nth t.c i else if i < s then nth t.c i - nth t.c i / 2 ^ rateP t else nth t.c i + (32768 - nth t.c i) / 2 ^ rateP t
def adaptP (t : Tb) (s : Nat) : Tb := ⟨(List.range t.c.length).map (adF t s), min (t.n + 1) 32⟩
theorem adaptP_len (t : Tb) (s : Nat) : (adaptP t s).c.length = t.c.length := by simp [adaptP]
theorem adaptP_nth {t : Tb} {s i : Nat} (h : i < t.c.length) : nth (adaptP t s).c i = adF t s i := by
  rw [nth_of (by rw [adaptP_len]; exact h)]; simp [adaptP]
theorem mix_all (t : Tb) (s : Nat) : mix (adF t s) (nth t.c) t.c.length (t.c.length - 1) = (adaptP t s).c := by
  apply list_eq_nth (by rw [mix_length, adaptP_len])
  intro i hi
  rw [mix_length] at hi
  rw [mix_nth _ _ hi, adaptP_nth hi]
  split
  · rfl
  · rw [adF, if_pos (by omega)]
theorem adF_le {t : Tb} (ok : TabOk t) (s : Nat) {i : Nat} (hi : i < t.c.length) : adF t s i ≤ 32768 := by
  have := ok.le hi
  unfold adF
  split
  · exact this
  · split
    · exact Nat.le_trans (Nat.sub_le _ _) this
    · have := Nat.div_le_self (32768 - nth t.c i) (2 ^ rateP t)
      generalize (32768 - nth t.c i) / 2 ^ rateP t = a at *
      omega
theorem adF_mono {t : Tb} (ok : TabOk t) (s : Nat) {i : Nat} (hi : i + 1 < t.c.length) : adF t s i ≤ adF t s (i + 1) := by
  have h1 := ok.2.2.1 i hi
  have h2 := ok.le hi
  have h3 := ok.le (show i < t.c.length by omega)
  obtain ⟨q, hq⟩ : ∃ q, q = 2 ^ rateP t := ⟨_, rfl⟩
  have hq1 : 1 ≤ q := by rw [hq]; exact Nat.two_pow_pos _
  have hl := ok.2.2.2
  unfold adF
  rw [← hq, if_neg (show ¬ i + 1 = t.c.length by omega)]
  obtain ⟨x, hx⟩ : ∃ x, x = nth t.c i := ⟨_, rfl⟩
  obtain ⟨y, hy⟩ : ∃ x, x = nth t.c (i + 1) := ⟨_, rfl⟩
  rw [← hx, ← hy]
  rw [← hx] at h1 h3
  rw [← hy] at h1 h2
  have d1 : x - x / q ≤ y - y / q := by
    have hm : ∀ k, x + k - (x + k) / q ≥ x - x / q := by
      intro k
      induction k with
      | zero => exact Nat.le_refl _
      | succ k ih =>
        have := Nat.div_le_self (x + k) q
        have hd : (x + (k + 1)) / q ≤ (x + k) / q + 1 := by
          rw [← Nat.add_assoc]
          calc (x + k + 1) / q ≤ (x + k + q) / q := Nat.div_le_div_right (by omega)
            _ = (x + k) / q + 1 := Nat.add_div_right _ (by omega)
        omega
    have := hm (y - x); rw [show x + (y - x) = y by omega] at this; exact this
  have d2 : x + (32768 - x) / q ≤ y + (32768 - y) / q := by
    have hm : ∀ k, x + k ≤ 32768 → x + (32768 - x) / q ≤ x + k + (32768 - (x + k)) / q := by
      intro k
      induction k with
      | zero => intro _; exact Nat.le_refl _
      | succ k ih =>
        intro hk
        have h := ih (by omega)
        have hd : (32768 - (x + k)) / q ≤ (32768 - (x + (k + 1))) / q + 1 := by
          calc (32768 - (x + k)) / q ≤ (32768 - (x + (k + 1)) + q) / q := Nat.div_le_div_right (by omega)
            _ = _ := Nat.add_div_right _ (by omega)
        omega
    have := hm (y - x) (by omega); rw [show x + (y - x) = y by omega] at this; exact this
  have d3 : x - x / q ≤ y := Nat.le_trans (Nat.sub_le _ _) h1
  have d4 : y - y / q ≤ y + (32768 - y) / q := Nat.le_trans (Nat.sub_le _ _) (Nat.le_add_right _ _)
  have d5 : y ≤ y + (32768 - y) / q := Nat.le_add_right _ _
  by_cases e1 : i + 1 + 1 = t.c.length
  · rw [if_pos e1]
    have hy2 : y = 32768 := by rw [hy, ← hl]; congr 1; omega
    have := Nat.div_le_self (32768 - x) q
    split
    · exact d3
    · generalize (32768 - x) / q = a at *; omega
  · rw [if_neg e1]
    by_cases e2 : i < s
    · rw [if_pos e2]
      by_cases e3 : i + 1 < s
      · rw [if_pos e3]; exact d1
      · rw [if_neg e3]; exact Nat.le_trans d3 d5
    · rw [if_neg e2, if_neg (by omega)]; exact d2
theorem adaptP_ok {t : Tb} (ok : TabOk t) (s : Nat) : TabOk (adaptP t s) := by
  have h1 := ok.1
  refine ⟨by rw [adaptP_len]; exact ok.1, ?_, ?_, ?_⟩
  · have := ok.2.1; simp only [adaptP]; omega
  · intro i hi
    rw [adaptP_len] at hi
    rw [adaptP_nth (by omega), adaptP_nth hi]
    exact adF_mono ok s hi
  · rw [adaptP_len, adaptP_nth (by omega), adF, if_pos (by omega)]; exact ok.2.2.2

structure I35 (h0 : H) (t : Tb) (s p q b rate : Nat) (m : Int) (n : Nat) (e : E) (g : H) : Prop where
  hn : n ≤ t.c.length - 1
  x : ∀ c, c < h0.n → c ≠ b → g.get c = h0.get c
  gn : h0.n ≤ g.n
  w : g.get b = some (.cells (wordsV (mix (adF t s) (nth t.c) t.c.length (t.c.length - 1 - n))) 38 false)
  p1 : e.s [0, 1, 2, 4, 5, 6, 7, 8, 9, 31, 32, 33] 1 = .int .i64 s
  p4 : e.s [0, 1, 2, 4, 5, 6, 7, 8, 9, 31, 32, 33] 4 = .ptr p 0
  p6 : e.s [0, 1, 2, 4, 5, 6, 7, 8, 9, 31, 32, 33] 6 = .int .i64 rate
  p7 : e.s [0, 1, 2, 4, 5, 6, 7, 8, 9, 31, 32, 33] 7 = .ptr q 0
  p31 : e.s [0, 1, 2, 4, 5, 6, 7, 8, 9, 31, 32, 33] 31 = .sl b 0 (t.c.length - 1) (.op 1)
  p32 : e.s [0, 1, 2, 4, 5, 6, 7, 8, 9, 31, 32, 33] 32 = .int .i64 ((t.c.length - 1 : Nat) : Int)
  p33 : e.s [0, 1, 2, 4, 5, 6, 7, 8, 9, 31, 32, 33] 33 = .int .i64 ((t.c.length - 1 - n : Nat) : Int)

theorem loop35 {h0 : H} {t : Tb} {s p q b : Nat} {m : Int} (ok : TabOk t) (hq : h0.get q = some (.cells [.sl b 0 t.c.length (.op 1), .int .i64 m] 72 false)) (hqb : q ≠ b) {n : Nat} {e : E} {g : H} (hi : I35 h0 t s p q b (rateP t) m n e g) :
    ∃ e' g', loopZ (l35_0 KW loopZ) e g = some ⟨.ex 0, e', g'⟩ ∧ I35 h0 t s p q b (rateP t) m 0 e' g' := by
  have loop := loop_run (body := l35_0 KW loopZ) (I35 h0 t s p q b (rateP t) m) (fun s' => s'.x = .ex 0 ∧ I35 h0 t s p q b (rateP t) m 0 s'.e s'.h)
    (fun n e g hi => by
      obtain ⟨hn, x, gn, w, p1, p4, p6, p7, p31, p32, p33⟩ := hi
      cases n with
      | zero =>
        simp [l35_0, p33, p32]
        exact ⟨rfl, hn, x, gn, w, by simp [p1], by simp [p4], by simp [p6], by simp [p7], by simp [p31], by simp [p32], by simp [p33]⟩
      | succ n =>
        obtain ⟨k, hk⟩ : ∃ k, k = t.c.length - 1 - (n + 1) := ⟨_, rfl⟩
        have hk2 : t.c.length - 1 - n = k + 1 := by omega
        have hkl : k < t.c.length := by omega
        rw [← hk] at p33 w
        have hle := ok.le hkl
        have hR := rateP_lt t
        obtain ⟨Q, hQ⟩ : ∃ Q, Q = 2 ^ rateP t := ⟨_, rfl⟩
        obtain ⟨R, hRe⟩ : ∃ R, R = rateP t := ⟨_, rfl⟩
        have hset := mix_set (adF t s) (nth t.c) t.c.length k
        have hnth := mix_nth (adF t s) (nth t.c) (j := k) hkl
        rw [if_neg (Nat.lt_irrefl k)] at hnth
        have hml := mix_length (adF t s) (nth t.c) t.c.length k
        have hF : adF t s k = if k < s then nth t.c k - nth t.c k / Q else nth t.c k + (32768 - nth t.c k) / Q := by
          rw [adF, if_neg (by omega), ← hQ]
        obtain ⟨c, hc⟩ : ∃ c, c = nth t.c k := ⟨_, rfl⟩
        rw [← hc] at hnth hF hle
        obtain ⟨l, hl⟩ : ∃ l, l = mix (adF t s) (nth t.c) t.c.length k := ⟨_, rfl⟩
        rw [← hl] at w hset hnth hml
        have hget := wordsV_get l k (by omega)
        rw [hnth] at hget
        have hqg : g.get q = some (.cells [.sl b 0 t.c.length (.op 1), .int .i64 m] 72 false) := by rw [x q (H.get_lt hq) hqb, hq]
        have z1 : IntKind.i64.wrap ((k : Int) + 1) = k + 1 := by have := ok.1; exact wi64 (by omega) (by omega)
        have hmin : min R IntKind.u16.bits = R := Nat.min_eq_left (by rw [hRe, show IntKind.u16.bits = 16 from rfl]; omega)
        have zf : ∀ y : Int, y.fdiv (2 ^ R) = y / (Q : Int) := fun y => by
          rw [Int.fdiv_eq_ediv_of_nonneg _ (Int.pow_nonneg (by decide)), hQ, hRe]; simp
        rw [← hRe] at p6
        have hQ1 : 1 ≤ Q := by rw [hQ]; exact Nat.two_pow_pos _
        have d1 := Nat.div_le_self c Q
        have d2 := Nat.div_le_self (32768 - c) Q
        have z3 : IntKind.u16.wrap (32768 - (c : Int)) = ((32768 - c : Nat) : Int) := by rw [wu16 (by omega) (by omega)]; omega
        have hwr := fun v => wr1_of w (o := k) (by rw [wordsV_length]; omega) v
        have hxx : ∀ g2, g2 = g.put b (.cells (wordsV (mix (adF t s) (nth t.c) t.c.length (k + 1))) 38 false) → (∀ d, d < h0.n → d ≠ b → g2.get d = h0.get d) ∧ h0.n ≤ g2.n ∧ g2.get b = some (.cells (wordsV (mix (adF t s) (nth t.c) t.c.length (k + 1))) 38 false) := by
          intro g2 hg2
          exact ⟨fun d hd hdb => by rw [hg2, get_put_ne hdb, x d hd hdb], by rw [hg2, H.n_put]; exact gn, by rw [hg2, get_put_same (H.get_lt w)]⟩
        obtain ⟨g2, hg2⟩ : ∃ g2, g2 = g.put b (.cells (wordsV (mix (adF t s) (nth t.c) t.c.length (k + 1))) 38 false) := ⟨_, rfl⟩
        obtain ⟨y1, y2, y3⟩ := hxx g2 hg2
        have hs2 := wordsV_set l k (adF t s k)
        rw [hset] at hs2
        have b1 : c - c / Q ≤ 32768 := Nat.le_trans (Nat.sub_le _ _) hle
        have b2 : c + (32768 - c) / Q ≤ 32768 := by generalize (32768 - c) / Q = a at *; omega
        by_cases hs : k < s
        · rw [if_pos hs] at hF
          have e1 : ((c - c / Q : Nat) : Int) = (c : Int) - (c : Int) / (Q : Int) := by rw [Int.ofNat_sub d1, Int.natCast_ediv]
          have z4 : IntKind.u16.wrap ((c : Int) - (c : Int) / (Q : Int)) = ((adF t s k : Nat) : Int) := by
            rw [hF, ← e1]; exact wu16 (Int.natCast_nonneg _) (by omega)
          simp [l35_0, p33, p32, show k < t.c.length - 1 by omega, show (k : Int) < ((t.c.length - 1 : Nat) : Int) by omega, p31, rd1_of w, hget, p1, hs, p7, rd1_of hqg, hkl, p6, show ¬ (R : Int) < 0 by omega, hmin, zf, z4, hwr, hs2, z1, ← hg2]
          exact ⟨n, Nat.lt_succ_self n, by omega, y1, y2, by rw [hk2]; exact y3, by simp [p1], by simp [p4], by simp [p6, hRe], by simp [p7], by simp [p31], by simp [p32], by simp [hk2]⟩
        · rw [if_neg hs] at hF
          have e1 : ((c + (32768 - c) / Q : Nat) : Int) = (c : Int) + ((32768 - c : Nat) : Int) / (Q : Int) := by rw [Int.natCast_add, Int.natCast_ediv]
          have z4 : IntKind.u16.wrap ((c : Int) + ((32768 - c : Nat) : Int) / (Q : Int)) = ((adF t s k : Nat) : Int) := by
            rw [hF, ← e1]; exact wu16 (Int.natCast_nonneg _) (by omega)
          simp [l35_0, p33, p32, show k < t.c.length - 1 by omega, show (k : Int) < ((t.c.length - 1 : Nat) : Int) by omega, p31, rd1_of w, hget, p1, hs, p7, rd1_of hqg, hkl, p6, show ¬ (R : Int) < 0 by omega, hmin, z3, zf, z4, hwr, hs2, z1, ← hg2]
          exact ⟨n, Nat.lt_succ_self n, by omega, y1, y2, by rw [hk2]; exact y3, by simp [p1], by simp [p4], by simp [p6, hRe], by simp [p7], by simp [p31], by simp [p32], by simp [hk2]⟩)
  obtain ⟨⟨x, e', g'⟩, r1, r2, r3⟩ := loop n e g hi
  simp only at r2 r3
  subst r2
  exact ⟨e', g', r1, r3⟩

/-- A table that is answered: it lies from p on. -/
def NewT (p : Nat) (h : H) (v : V) (t : Tb) : Prop := ∃ vc, v = .agg [vc, .int .i64 t.n] ∧ U16 (fun b => p ≤ b) h vc t.c

theorem adapt35_ok {D : Nat → Prop} {h : H} {v : V} {t : Tb} (u : U16 D h v t.c) (ok : TabOk t) {s : Nat} (hs : s < t.c.length) :
    RT (fun w h' => ∃ vt, w = .tup [vt, .int .i64 0] ∧ NewT h.n h' vt (adaptP t s) ∧ Ext h h') (KW 35 [.agg [v, .int .i64 t.n], .int .i64 s] h) := by
  have l1 := ok.1
  obtain ⟨h1, b1, x1, g1, n1, u1⟩ := box72 u
  obtain ⟨h2, hh2⟩ : ∃ g, g = h1.new (.cells [.nils, .int .i64 0] 72 false) := ⟨_, rfl⟩
  have x2 : Ext h1 h2 := by rw [hh2]; exact (Ext.refl h1).new _
  have n2 : h2.n = h1.n + 1 := by rw [hh2, H.n_new]
  have r2 : h2.get h1.n = some (.cells [.nils, .int .i64 0] 72 false) := by rw [hh2, get_new_same]
  have u2 := u1.ext x2
  obtain ⟨w, h3, e3, rfl, x3⟩ := (asked59_ok u2 (by omega) (s : Int)).elim
  rw [show decide (TabOk t ∧ 0 ≤ (s : Int) ∧ (s : Int) < t.c.length) = true by rw [decide_eq_true_eq]; exact ⟨ok, by omega, by omega⟩] at e3
  have u3 := u2.ext x3
  obtain ⟨w, h4, e4, rfl, x4⟩ := (rate60_ok u3 ok).elim
  have u4 := u3.ext x4
  obtain ⟨vc, h5, e5, k5, x5, q5⟩ := (clone61_ok u4 (by omega)).elim
  obtain ⟨b, rfl⟩ := q5 (by omega)
  have hb5 : h5.get b = some (.cells (wordsV t.c) 38 false) ∧ h4.n ≤ b := by
    rcases k5 with ⟨e, _⟩ | ⟨b', k', e, a1, a2, a3⟩
    · cases e
    · cases e; exact ⟨a1, a3.1⟩
  obtain ⟨hb5, hb4⟩ := hb5
  have ge2 : h2.get h.n = _ := (x2.get _ (H.get_lt g1)).trans g1
  have ge3 : h3.get h.n = _ := (x3.get _ (H.get_lt ge2)).trans ge2
  have ge4 : h4.get h.n = _ := (x4.get _ (H.get_lt ge3)).trans ge3
  have ge5 : h5.get h.n = _ := (x5.get _ (H.get_lt ge4)).trans ge4
  have ra3 : h3.get h1.n = _ := (x3.get _ (H.get_lt r2)).trans r2
  have ra4 : h4.get h1.n = _ := (x4.get _ (H.get_lt ra3)).trans ra3
  have ra5 : h5.get h1.n = _ := (x5.get _ (H.get_lt ra4)).trans ra4
  obtain ⟨m, hm⟩ : ∃ m, m = min (t.n + 1) 32 := ⟨_, rfl⟩
  have zn : IntKind.i64.wrap (t.n + 1) = t.n + 1 := by have := ok.2.1; exact wi64 (by omega) (by omega)
  have hmin : (if (32 : Int) < t.n + 1 then (32 : Int) else t.n + 1) = m := by rw [hm]; split <;> omega
  obtain ⟨h6, hh6⟩ : ∃ g, g = (h5.new (.cells [.nils, .int .i64 0] 72 false)).put h5.n (.cells [.sl b 0 t.c.length (.op 1), .int .i64 m] 72 false) := ⟨_, rfl⟩
  have x6 : Ext h5 h6 := by rw [hh6]; exact ((Ext.refl h5).new _).put (Nat.le_refl _) _
  have n6 : h6.n = h5.n + 1 := by rw [hh6, H.n_put, H.n_new]
  have g6 : h6.get h5.n = some (.cells [.sl b 0 t.c.length (.op 1), .int .i64 m] 72 false) := by rw [hh6, get_put_same (by rw [H.n_new]; omega)]
  have ge6 : h6.get h.n = _ := (x6.get _ (H.get_lt ge5)).trans ge5
  have ra6 : h6.get h1.n = _ := (x6.get _ (H.get_lt ra5)).trans ra5
  have hb6 : h6.get b = _ := (x6.get _ (H.get_lt hb5)).trans hb5
  have hbl := H.get_lt hb5
  have zl : IntKind.i64.wrap ((t.c.length : Int) - 1) = ((t.c.length - 1 : Nat) : Int) := by rw [wi64 (by omega) (by omega)]; omega
  have hsl : slS 1 (.sl b 0 t.c.length (.op 1)) none (some (.int .i64 ((t.c.length - 1 : Nat) : Int))) none = some (.sl b 0 (t.c.length - 1) (.op 1)) := by
    simp [slS, optB, sbV]
  obtain ⟨e', g', r1, I⟩ := loop35 (h0 := h6) (t := t) (s := s) (p := h1.n) (q := h5.n) (b := b) (m := m) ok g6 (by omega) (n := t.c.length - 1)
    (e := ⟨[.agg [v, .int .i64 t.n], .int .i64 s, .ptr h.n 0, .ptr h1.n 0, .int .i64 0, .int .i64 (rateP t : Nat), .ptr h5.n 0, .tup [], .tup [], .sl b 0 (t.c.length - 1) (.op 1), .int .i64 ((t.c.length - 1 : Nat) : Int), .int .i64 0], 33, .int .i64 0⟩) (g := h6)
    ⟨Nat.le_refl _, fun c _ _ => rfl, Nat.le_refl _, by rw [Nat.sub_self, mix_zero]; exact hb6, by simp, by simp, by simp, by simp, by simp, by simp, by simp⟩
  obtain ⟨_, xx, gn, gw, p1, p4, p6, p7, p31, p32, p33⟩ := I
  have x7 : ∀ c, c < h4.n → g'.get c = h4.get c := fun c hc => by
    have := x5.n; have := x6.n
    rw [xx c (by omega) (by omega), x6.get c (by omega), x5.get c hc]
  have ra7 : g'.get h1.n = _ := (x7 _ (H.get_lt ra4)).trans ra4
  have q7 : g'.get h5.n = _ := (xx h5.n (by omega) (by omega)).trans g6
  obtain ⟨h8, hh8⟩ : ∃ g, g = g'.put h1.n (.cells [.sl b 0 t.c.length (.op 1), .int .i64 m] 72 false) := ⟨_, rfl⟩
  have r8 : h8.get h1.n = some (.cells [.sl b 0 t.c.length (.op 1), .int .i64 m] 72 false) := by rw [hh8, get_put_same (H.get_lt ra7)]
  have b8 : h8.get b = _ := (show h8.get b = g'.get b by rw [hh8, get_put_ne (by have := H.get_lt ra4; omega)]).trans gw
  rw [w35, f35, s35]
  simp [b1, nw, ← hh2, rdN_of (o := 0) (n := 2) ge2 (by simp), e3, rdN_of (o := 0) (n := 2) ge3 (by simp), e4, rd1_of ge4, e5, rd1_of ge5, zn, hmin, bl, fillW, splice, wrN_of (o := 0) get_new_same, ← hh6, u.1.ck, rd1_of g6, rd1_of ge6, u.1.len, zl, hsl, r1, p7, rdN_of (o := 0) (n := 2) q7 (by simp), p4, wrN_of (o := 0) ra7, ← hh8, rdN_of (o := 0) (n := 2) r8 (by simp)]
  have hx4 : Ext h h4 := ((x1.trans x2).trans x3).trans x4
  refine ⟨_, rfl, ⟨_, by rw [hm]; rfl, ?_, ?_⟩, ?_⟩
  · rw [Nat.sub_zero, mix_all] at b8
    rw [adaptP_len]
    refine SlR.of b8 ?_ ?_
    · rw [wordsV_length, adaptP_len]; omega
    · have := x1.n; have := x2.n; have := x3.n; have := x4.n; show h.n ≤ b; omega
  · intro y hy
    obtain ⟨i, hi, rfl⟩ := List.getElem_of_mem hy
    rw [← nth_of hi]
    rw [adaptP_len] at hi
    rw [adaptP_nth hi]
    have := adF_le ok s hi
    omega
  · refine ⟨by rw [hh8, H.n_put]; have := hx4.n; have := x5.n; omega, fun c hc => ?_⟩
    have := x1.n; have := hx4.n
    rw [hh8, get_put_ne (by omega), x7 c (by omega), hx4.get c hc]
end Go.Proofs.Ytfjghgjkpenanaa
/- The document's tables: whether they may be, bounds, what is found. -/
set_option linter.unusedVariables false
set_option linter.unusedSimpArgs false
namespace Go.Proofs.Ytfjghgjkpenanaa
open Go Go.Zf
open Go.Zf (wi64)

theorem loop62 {D : Nat → Prop} {g : H} {v : V} {t : Tb} {b : Nat} (u : U16 D g v t.c) (hb : g.get b = some (.cells [v, .int .i64 t.n] 72 false)) (hl : t.c.length < 1000) (en : E) (he1 : en.s [0, 1, 2, 3, 4] 1 = .ptr b 0) (he3 : en.s [0, 1, 2, 3, 4] 3 = .int .i64 t.c.length) (he4 : en.s [0, 1, 2, 3, 4] 4 = .int .i64 1) (h2 : 2 ≤ t.c.length) :
    ∃ s, loopZ (l62_0 KW loopZ) en g = some s ∧ s.h = g ∧ ((s.x = .ex 0 ∧ Sorted t.c) ∨ (s.x = .rt ∧ s.e.s [0, 1, 2, 3, 4] 2 = .int .i64 2 ∧ ¬ Sorted t.c)) := by
  have loop := loop_run (body := l62_0 KW loopZ) (fun n e h => h = g ∧ n < t.c.length ∧ e.s [0, 1, 2, 3, 4] 1 = .ptr b 0 ∧ e.s [0, 1, 2, 3, 4] 3 = .int .i64 t.c.length ∧ e.s [0, 1, 2, 3, 4] 4 = .int .i64 ((t.c.length - n : Nat) : Int) ∧ ∀ j, j + 1 < t.c.length - n → nth t.c j ≤ nth t.c (j + 1))
    (fun s => s.h = g ∧ ((s.x = .ex 0 ∧ Sorted t.c) ∨ (s.x = .rt ∧ s.e.s [0, 1, 2, 3, 4] 2 = .int .i64 2 ∧ ¬ Sorted t.c)))
    (fun n e h ⟨hg, hn, p1, p3, p4, hs⟩ => by
      subst hg
      cases n with
      | zero =>
        simp [l62_0, p3, p4]
        exact ⟨rfl, .inl ⟨rfl, fun j hj => hs j (by omega)⟩⟩
      | succ n =>
        obtain ⟨k, hk⟩ : ∃ k, k + 1 = t.c.length - (n + 1) := ⟨t.c.length - (n + 1) - 1, by omega⟩
        have hk2 : t.c.length - n = k + 2 := by omega
        rw [← hk] at p4 hs
        obtain ⟨b1, o1, q1, q2, _⟩ := u.at (i := k + 1) (by omega)
        obtain ⟨b2, o2, r1, r2, _⟩ := u.at (i := k) (by omega)
        have q1' : iaS 1 v (.int .i64 ((k : Int) + 1)) = some (.ptr b1 o1) := by simpa using q1
        have z1 : IntKind.i64.wrap (k : Int) = k := wi64 (by omega) (by omega)
        have z2 : IntKind.i64.wrap ((k : Int) + 1 + 1) = (k : Int) + 1 + 1 := wi64 (by omega) (by omega)
        by_cases hc : nth t.c (k + 1) < nth t.c k
        · simp [l62_0, p3, p4, show (k : Int) + 1 < t.c.length by omega, show k + 1 < t.c.length by omega, p1, rd1_of hb, q1', q2, z1, r1, r2, u.1.ck, hc]
          exact ⟨rfl, .inr ⟨rfl, by simp, fun hS => by have := hS k (by omega); omega⟩⟩
        · simp [l62_0, p3, p4, show (k : Int) + 1 < t.c.length by omega, show k + 1 < t.c.length by omega, p1, rd1_of hb, q1', q2, z1, r1, r2, u.1.ck, hc, z2]
          refine ⟨n, Nat.lt_succ_self n, rfl, by omega, by simp [p1], by simp [p3], by simp [hk2]; omega, fun j hj => ?_⟩
          by_cases e : j = k
          · subst e; omega
          · exact hs j (by omega))
  exact loop (t.c.length - 1) en g ⟨rfl, by omega, he1, he3, by rw [he4]; simp; omega, fun j hj => by omega⟩

theorem check62_ok {D : Nat → Prop} {h : H} {v : V} {t : Tb} (u : U16 D h v t.c) (hl : t.c.length < 1000) : RT (fun w h' => w = .int .i64 (if TabOk t then 0 else 2) ∧ Ext h h') (KW 62 [.agg [v, .int .i64 t.n]] h) := by
  obtain ⟨h1, b1, x1, g1, n1, u1⟩ := box72 u
  have ul := u1.1.len
  rw [w62, f62, s62]
  by_cases c1 : t.c.length < 2
  · simp [b1, rd1_of g1, ul, show (t.c.length : Int) < 2 by omega, gl_t]
    exact ⟨by rw [if_neg]; intro a; have := a.1; omega, x1⟩
  · by_cases c2 : 16 < t.c.length
    · simp [b1, rd1_of g1, ul, show ¬ (t.c.length : Int) < 2 by omega, show (16 : Int) < t.c.length by omega, gl_t]
      exact ⟨by rw [if_neg]; intro a; have := a.1; omega, x1⟩
    · by_cases c3 : t.n < 0
      · simp [b1, rd1_of g1, ul, show ¬ (t.c.length : Int) < 2 by omega, show ¬ (16 : Int) < t.c.length by omega, c3, gl_t]
        exact ⟨by rw [if_neg]; intro a; have := a.2.1; omega, x1⟩
      · by_cases c4 : 32 < t.n
        · simp [b1, rd1_of g1, ul, show ¬ (t.c.length : Int) < 2 by omega, show ¬ (16 : Int) < t.c.length by omega, c3, c4, gl_t]
          exact ⟨by rw [if_neg]; intro a; have := a.2.1; omega, x1⟩
        · obtain ⟨b, o, q1, q2, _⟩ := u1.at (i := t.c.length - 1) (by omega)
          have z1 : IntKind.i64.wrap ((t.c.length : Int) - 1) = ((t.c.length - 1 : Nat) : Int) := by rw [wi64 (by omega) (by omega)]; omega
          obtain ⟨x, hx⟩ : ∃ x, x = nth t.c (t.c.length - 1) := ⟨_, rfl⟩
          rw [← hx] at q2
          by_cases c6 : x = 32768
          · obtain ⟨⟨sx, se, sh⟩, r1, r2, r3⟩ := loop62 u1 g1 hl ⟨[.agg [v, .int .i64 t.n], .ptr h.n 0, .int .i64 0, .int .i64 t.c.length, .int .i64 1], 4, .int .i64 1⟩ (by simp) (by simp) (by simp) (by omega)
            simp only at r2 r3
            subst r2
            have c6' : (x : Int) = 32768 := by omega
            rcases r3 with ⟨rfl, hs⟩ | ⟨rfl, p2, hs⟩
            · simp [b1, rd1_of g1, ul, show ¬ (t.c.length : Int) < 2 by omega, show ¬ (16 : Int) < t.c.length by omega, c3, c4, z1, q1, q2, c6, r1]
              exact ⟨by rw [if_pos ⟨⟨by omega, by omega⟩, ⟨by omega, by omega⟩, hs, by rw [← hx, c6]⟩], x1⟩
            · simp [b1, rd1_of g1, ul, show ¬ (t.c.length : Int) < 2 by omega, show ¬ (16 : Int) < t.c.length by omega, c3, c4, z1, q1, q2, c6, r1, p2]
              exact ⟨by rw [if_neg]; intro a; exact hs a.2.2.1, x1⟩
          · have c6' : ¬ (x : Int) = 32768 := by omega
            simp [b1, rd1_of g1, ul, show ¬ (t.c.length : Int) < 2 by omega, show ¬ (16 : Int) < t.c.length by omega, c3, c4, z1, q1, q2, c6, c6']
            exact ⟨by rw [if_neg]; intro a; exact c6 (by rw [hx]; exact a.2.2.2), x1⟩

theorem end89_ok {D : Nat → Prop} {h : H} {v : V} {t : Tb} (u : U16 D h v t.c) (ok : TabOk t) {j : Nat} (hj : j ≤ t.c.length) : RT (fun w h' => w = .int .i64 (pt t j : Nat) ∧ Ext h h') (KW 89 [.agg [v, .int .i64 t.n], .int .i64 ((j : Int) - 1)] h) := by
  obtain ⟨h1, b1, x1, g1, n1, u1⟩ := box72 u
  have ul := u1.1.len
  rw [w89, f89, s89]
  cases j with
  | zero =>
    simp [b1]
    exact ⟨by simp [pt], x1⟩
  | succ s =>
    obtain ⟨b, o, q1, q2, _⟩ := u1.at (i := s) (by omega)
    have hc := ok.le (i := s) (by omega)
    obtain ⟨x, hx⟩ : ∃ x, x = nth t.c s := ⟨_, rfl⟩
    obtain ⟨n, hn⟩ : ∃ n, n = t.c.length := ⟨_, rfl⟩
    have hp := pt_succ t s
    have hpl := pt_le ok hj
    rw [hp, ← hx, ← hn] at hpl
    rw [← hx] at q2 hc
    rw [hp, ← hx, ← hn]
    rw [← hn] at ul hj
    have l1 := ok.1.1
    have l2 := ok.1.2
    rw [← hn] at l1 l2
    have zs : ((s + 1 : Nat) : Int) - 1 = (s : Int) := by omega
    have z1 : IntKind.i64.wrap (x : Int) = x := wi64 (by omega) (by omega)
    have z2 : IntKind.i64.wrap (4 * (n : Int)) = 4 * n := wi64 (by omega) (by omega)
    have z3 : IntKind.i64.wrap (32768 - 4 * (n : Int)) = 32768 - 4 * n := wi64 (by omega) (by omega)
    have m1 := mul_bd (a := (x : Int)) (b := 32768 - 4 * (n : Int)) (A := 32768) (B := 32768) (by omega) (by omega) (by omega) (by omega)
    obtain ⟨m, hm⟩ : ∃ m, m = (x : Int) * (32768 - 4 * n) := ⟨_, rfl⟩
    rw [← hm] at m1
    have z5 : IntKind.i64.wrap m = m := wi64 (by omega) (by omega)
    have z6 : IntKind.i64.wrap ((s : Int) + 1) = s + 1 := wi64 (by omega) (by omega)
    have z7 : IntKind.i64.wrap (4 * ((s : Int) + 1)) = 4 * (s + 1) := wi64 (by omega) (by omega)
    have hd : m.tdiv 32768 = m / 32768 := Int.tdiv_eq_ediv_of_nonneg m1.1
    have z8 : IntKind.i64.wrap (m / 32768) = m / 32768 := wi64 (by omega) (by omega)
    have e1 : ((x * (32768 - 4 * n) / 32768 + 4 * (s + 1) : Nat) : Int) = m / 32768 + 4 * (s + 1) := by
      rw [hm, Int.natCast_add, Int.natCast_ediv, Int.natCast_mul, Int.ofNat_sub (by omega)]; simp
    have z9 : IntKind.i64.wrap (m / 32768 + 4 * ((s : Int) + 1)) = m / 32768 + 4 * (s + 1) := wi64 (by omega) (by omega)
    rw [zs, e1]
    simp [b1, show ¬ (s : Int) < 0 by omega, rd1_of g1, ul, q1, q2, z1, z2, z3, ← hm, z5, hd, z8, z6, z7, z9, u1.1.ck]
    exact ⟨rfl, x1⟩

theorem bounds69_ok {D : Nat → Prop} {h : H} {v : V} {t : Tb} (u : U16 D h v t.c) (ok : TabOk t) {s : Nat} (hs : s < t.c.length) : RT (fun w h' => w = .tup [.int .u32 (pt t s : Nat), .int .u32 (pt t (s + 1) : Nat), .int .i64 0] ∧ Ext h h') (KW 69 [.agg [v, .int .i64 t.n], .int .i64 s] h) := by
  obtain ⟨h1, b1, x1, g1, n1, u1⟩ := box72 u
  have hl : t.c.length < 1000 := by have := ok.1; omega
  obtain ⟨w, h2, e2, rfl, x2⟩ := (check62_ok u1 hl).elim
  rw [if_pos ok] at e2
  obtain ⟨w, h3, e3, rfl, x3⟩ := (end89_ok (u1.ext x2) ok (j := s) (by omega)).elim
  obtain ⟨w, h4, e4, rfl, x4⟩ := (end89_ok ((u1.ext x2).ext x3) ok (j := s + 1) (by omega)).elim
  rw [show ((s + 1 : Nat) : Int) - 1 = (s : Int) by omega] at e4
  have g2 : h2.get h.n = _ := (x2.get _ (H.get_lt g1)).trans g1
  have g3 : h3.get h.n = _ := (x3.get _ (H.get_lt g2)).trans g2
  have z : IntKind.i64.wrap ((s : Int) - 1) = (s : Int) - 1 := wi64 (by omega) (by omega)
  have p1 := pt_le ok (j := s) (by omega)
  have p2 := pt_le ok (j := s + 1) (by omega)
  have z2 : IntKind.u32.wrap ((pt t s : Nat) : Int) = (pt t s : Nat) := wu32 (by omega) (by omega)
  have z3 : IntKind.u32.wrap ((pt t (s + 1) : Nat) : Int) = (pt t (s + 1) : Nat) := wu32 (by omega) (by omega)
  rw [w69, f69, s69]
  simp [b1, rdN_of (o := 0) (n := 2) g1 (by simp), rdN_of (o := 0) (n := 2) g2 (by simp), rdN_of (o := 0) (n := 2) g3 (by simp), e2, show ¬ (s : Int) < 0 by omega, rd1_of g2, u.1.len, hs, e3, e4, z, z2, z3, ck, V.same, V.sames, u.1.same, show ¬ (t.c.length : Int) ≤ s by omega, show ¬ t.c.length ≤ s by omega]
  exact ⟨rfl, ((x1.trans x2).trans x3).trans x4⟩

theorem find72_ok {D : Nat → Prop} {h : H} {v : V} {t : Tb} (u : U16 D h v t.c) (ok : TabOk t) {at_ : Nat} (ha : at_ < 32768) : RT (fun w h' => w = .tup [.int .i64 (findP t at_ : Nat), .int .i64 0] ∧ Ext h h') (KW 72 [.agg [v, .int .i64 t.n], .int .u32 at_] h) := by
  obtain ⟨h1, b1, x1, g1, n1, u1⟩ := box72 u
  have hl : t.c.length < 1000 := by have := ok.1; omega
  obtain ⟨w, h2, e2, rfl, x2⟩ := (check62_ok u1 hl).elim
  rw [if_pos ok] at e2
  have za : IntKind.i64.wrap (at_ : Int) = at_ := wi64 (by omega) (by omega)
  have loop := loop_run (body := l72_0 KW loopZ) (fun n e g => Ext h2 g ∧ n ≤ t.c.length ∧ 0 < n ∧ e.s [0, 1, 2, 4, 5, 6] 1 = .int .u32 at_ ∧ e.s [0, 1, 2, 4, 5, 6] 2 = .ptr h.n 0 ∧ e.s [0, 1, 2, 4, 5, 6] 6 = .int .i64 ((t.c.length - n : Nat) : Int) ∧ ∀ j, j < t.c.length - n → pt t (j + 1) ≤ at_)
    (fun s => Ext h2 s.h ∧ s.x = .ex 0 ∧ s.e.s [0, 1, 2, 4, 5, 6] 6 = .int .i64 (findP t at_ : Nat))
    (fun n e g ⟨xg, hn, hn0, p1, p2, p6, hj⟩ => by
      obtain ⟨k, hk⟩ : ∃ k, k = t.c.length - n := ⟨_, rfl⟩
      rw [← hk] at p6 hj
      have gg : g.get h.n = _ := (xg.get _ (by have := x2.n; omega)).trans ((x2.get _ (H.get_lt g1)).trans g1)
      obtain ⟨w, h3, e3, rfl, x3⟩ := (end89_ok ((u1.ext x2).ext xg) ok (j := k + 1) (by omega)).elim
      rw [show ((k + 1 : Nat) : Int) - 1 = (k : Int) by omega] at e3
      by_cases hc : pt t (k + 1) ≤ at_
      · have z : IntKind.i64.wrap ((k : Int) + 1) = k + 1 := wi64 (by omega) (by omega)
        have hn1 : n ≠ 1 := by
          intro e; subst e
          have : k + 1 = t.c.length := by omega
          rw [this, pt_last ok] at hc; omega
        simp [l72_0, p2, rdN_of (o := 0) (n := 2) gg (by simp), p6, e3, p1, za, hc, z]
        refine ⟨n - 1, by omega, xg.trans x3, by omega, by omega, by simp [p1], by simp [p2], by simp; omega, fun j hj2 => ?_⟩
        by_cases e : j = k
        · subst e; exact hc
        · exact hj j (by omega)
      · simp [l72_0, p2, rdN_of (o := 0) (n := 2) gg (by simp), p6, e3, p1, za, hc]
        refine ⟨xg.trans x3, rfl, ?_⟩
        rw [findP_eq (s := k) (by omega) (by omega) hj]
        simp [p6])
  obtain ⟨s, r1, r2, r3, r4⟩ := loop t.c.length ⟨[.agg [v, .int .i64 t.n], .int .u32 at_, .ptr h.n 0, .int .i64 0, .int .i64 0, .int .i64 0], 6, .int .i64 0⟩ h2 ⟨Ext.refl h2, Nat.le_refl _, by have := ok.1; omega, by simp, by simp, by simp, fun j hj => by omega⟩
  obtain ⟨x, e', h'⟩ := s
  simp only at r2 r3 r4
  subst r3
  rw [w72, f72, s72]
  simp [b1, rdN_of (o := 0) (n := 2) g1 (by simp), e2, show ¬ (32767 : Int) < at_ by omega, r1, r4, show ¬ 32767 < at_ by omega]
  exact ⟨rfl, (x1.trans x2).trans r2⟩
end Go.Proofs.Ytfjghgjkpenanaa
/- The document's Adapt. -/
set_option linter.unusedVariables false
set_option linter.unusedSimpArgs false
namespace Go.Proofs.Ytfjghgjkpenanaa
open Go Go.Zf
open Go.Zf (wi64)

theorem log91_ok {n : Nat} (h1 : 2 ≤ n) (h2 : n ≤ 16) (h : H) : ∃ m : Nat, KW 91 [.int .i64 n] h = some (.ret (.int .i64 m), h) ∧ min m 2 = (if n < 4 then 1 else 2) ∧ m < 10 := by
  have loop := loop_run (body := l91_0 KW loopZ) (fun x e g => g = h ∧ 1 ≤ x ∧ e.s [0, 2, 3] 0 = .int .i64 x ∧ ∃ k : Nat, e.s [0, 2, 3] 3 = .int .i64 k ∧ x * 2 ^ k ≤ n ∧ n < (x + 1) * 2 ^ k ∧ k < 5)
    (fun s => s.h = h ∧ s.x = .ex 0 ∧ ∃ k : Nat, s.e.s [0, 2, 3] 3 = .int .i64 k ∧ 2 ^ k ≤ n ∧ n < 2 * 2 ^ k ∧ k < 5)
    (fun x e g ⟨hg, hx, p0, k, p3, a1, a2, a3⟩ => by
      subst hg
      by_cases hc : 1 < x
      · have hd : (x : Int).tdiv 2 = ((x / 2 : Nat) : Int) := by rw [Int.tdiv_eq_ediv_of_nonneg (by omega)]; simp
        have hxn : x ≤ 16 := by have := Nat.le_mul_of_pos_right x (Nat.two_pow_pos k); omega
        have z1 : IntKind.i64.wrap ((x / 2 : Nat) : Int) = ((x / 2 : Nat) : Int) := wi64 (by omega) (by omega)
        have z2 : IntKind.i64.wrap ((k : Int) + 1) = k + 1 := wi64 (by omega) (by omega)
        simp [l91_0, p0, hc, show (1 : Int) < x by omega, hd, p3, z2]
        have e1 : x / 2 * 2 ^ (k + 1) ≤ x * 2 ^ k := by
          rw [Nat.pow_succ, ← Nat.mul_assoc, Nat.mul_comm (x / 2) (2 ^ k), Nat.mul_assoc, Nat.mul_comm x]
          exact Nat.mul_le_mul_left _ (by omega)
        have e2 : (x + 1) * 2 ^ k ≤ (x / 2 + 1) * 2 ^ (k + 1) := by
          rw [Nat.pow_succ, ← Nat.mul_assoc, Nat.mul_comm (x / 2 + 1) (2 ^ k), Nat.mul_assoc, Nat.mul_comm (x + 1)]
          exact Nat.mul_le_mul_left _ (by omega)
        refine ⟨x / 2, by omega, rfl, by omega, by simp; exact z1, k + 1, by simp, by omega, by omega, ?_⟩
        have h16 : x / 2 * 2 ^ (k + 1) ≤ 16 := by omega
        have := Nat.le_mul_of_pos_left (2 ^ (k + 1)) (show 0 < x / 2 by omega)
        have h17 : 2 ^ (k + 1) ≤ 2 ^ 4 := by omega
        have := (Nat.pow_le_pow_iff_right (by decide)).mp h17
        omega
      · have : x = 1 := by omega
        subst this
        simp [l91_0, p0]
        exact ⟨rfl, rfl, k, by simp [p3], by omega, by omega, a3⟩)
  obtain ⟨⟨sx, se, sh⟩, r1, r2, r3, k, r4, r5, r6, r7⟩ := loop n ⟨[.int .i64 n, .int .i64 0, .int .i64 0], 3, .int .i64 0⟩ h ⟨rfl, by omega, by simp, 0, by simp, by simp, by simp, by omega⟩
  simp only at r2 r3 r4
  subst r2 r3
  refine ⟨k, ?_, ?_, by omega⟩
  · rw [w91, f91, s91]
    simp [r1, r4]
  · have hk : k = 0 ∨ k = 1 ∨ k = 2 ∨ k = 3 ∨ k = 4 := by omega
    rcases hk with rfl | rfl | rfl | rfl | rfl <;> split <;> omega

/-- A table that is being made: a box with a slice that grows. -/
structure Box (q : Nat) (u : Int) (l : List Nat) (g : H) (sv : V) : Prop where
  b : g.get q = some (.cells [sv, .int .i64 u] 72 false)
  s : GrowV (q + 1) g sv 38 1 (wordsV l) l.length
theorem Box.push {q : Nat} {u : Int} {l : List Nat} {g : H} {sv : V} (a : Box q u l g sv) (x : Nat) (hl : l.length < 100000) :
    ∃ v' g1 g2, apZ 38 1 2 (g.new (.cells [.int .u16 x] 38 false)) sv (.sl g.n 0 1 (.ex 1)) = some (v', g1) ∧ g1.wr1 q 0 v' = some g2 ∧ (∀ h b o, stZ 1 h (.ptr b o) v' = (h.wr1 b o v').bind fun h' => some (.und, h')) ∧ Box q u (l ++ [x]) g2 v' ∧ (∀ c, c < q → g2.get c = g.get c) ∧ g.n ≤ g2.n := by
  have hq := H.get_lt a.b
  obtain ⟨v', g1, k1, k2, k3, k4⟩ := push1 (bytes := 2) (.int .u16 x) a.s (by omega) (by omega)
  have hb1 : g1.get q = some (.cells [sv, .int .i64 u] 72 false) := by rw [k4 q hq (a.s.fresh.ne (by omega)), a.b]
  refine ⟨v', g1, _, k1, by rw [wr1_of hb1 (by simp)], k2.stZ, ⟨by rw [get_put_same (H.get_lt hb1)]; rfl, ?_⟩, fun c hc => by rw [get_put_ne (by omega), k4 c (by omega) (a.s.fresh.ne (by omega))], by rw [H.n_put]; exact k3⟩
  rw [wordsV_append, List.length_append]
  exact k2.put (k2.fresh.ne (by omega))
/-- What is answered then. -/
theorem Box.newT {p q : Nat} {t : Tb} {g : H} {sv : V} (a : Box q t.n t.c g sv) (hp : p ≤ q) (hc : ∀ x ∈ t.c, x < 65536) : NewT p g (.agg [sv, .int .i64 t.n]) t :=
  ⟨sv, rfl, GrowV.slr a.s fun b hb => by show p ≤ b; omega, hc⟩

def tabN (f : Nat → Nat) (m : Nat) : List Nat := (List.range m).map f
theorem tabN_length (f : Nat → Nat) (m : Nat) : (tabN f m).length = m := by simp [tabN]
theorem tabN_succ (f : Nat → Nat) (m : Nat) : tabN f (m + 1) = tabN f m ++ [f m] := by simp [tabN, List.range_succ]

structure I74 (h0 : H) (t : Tb) (s a q p Q : Nat) (n : Nat) (e : E) (g : H) : Prop where
  hn : n ≤ t.c.length
  x : ∀ c, c < q → g.get c = h0.get c
  gn : h0.n ≤ g.n
  b : ∃ sv, Box q (min (t.n + 1) 32) (tabN (adF t s) (t.c.length - n)) g sv
  p1 : e.s [0, 1, 2, 4, 5, 6, 7, 8, 9, 10, 11, 12] 1 = .int .i64 s
  p2 : e.s [0, 1, 2, 4, 5, 6, 7, 8, 9, 10, 11, 12] 2 = .ptr a 0
  p4 : e.s [0, 1, 2, 4, 5, 6, 7, 8, 9, 10, 11, 12] 4 = .ptr p 0
  p6 : e.s [0, 1, 2, 4, 5, 6, 7, 8, 9, 10, 11, 12] 6 = .int .i64 t.c.length
  p8 : e.s [0, 1, 2, 4, 5, 6, 7, 8, 9, 10, 11, 12] 8 = .int .i64 Q
  p10 : e.s [0, 1, 2, 4, 5, 6, 7, 8, 9, 10, 11, 12] 10 = .ptr q 0
  p11 : e.s [0, 1, 2, 4, 5, 6, 7, 8, 9, 10, 11, 12] 11 = .int .i64 ((t.c.length - n : Nat) : Int)

theorem loop74 {D : Nat → Prop} {h0 : H} {v : V} {t : Tb} {s a q p Q : Nat} (hQ : Q = 2 ^ rateP t) (ok : TabOk t) (u : U16 D h0 v t.c) (ha : h0.get a = some (.cells [v, .int .i64 t.n] 72 false)) (hq : ∀ c, c < h0.n → c ≠ q → c < q) (haq : a < q) (hqn : q < h0.n) (huq : ∀ c o k n, v = .sl c o k n → c < q) {n : Nat} {e : E} {g : H} (hi : I74 h0 t s a q p Q n e g) :
    ∃ e' g', loopZ (l74_1 KW loopZ) e g = some ⟨.ex 2, e', g'⟩ ∧ I74 h0 t s a q p Q 0 e' g' := by
  have l1 := ok.1
  have loop := loop_run (body := l74_1 KW loopZ) (I74 h0 t s a q p Q) (fun s' => s'.x = .ex 2 ∧ I74 h0 t s a q p Q 0 s'.e s'.h)
    (fun n e g hi => by
      obtain ⟨hn, x, gn, ⟨sv, B⟩, p1, p2, p4, p6, p8, p10, p11⟩ := hi
      cases n with
      | zero =>
        simp [l74_1, p11, p6]
        exact ⟨rfl, hn, x, gn, ⟨sv, B⟩, by simp [p1], by simp [p2], by simp [p4], by simp [p6], by simp [p8], by simp [p10], by simp [p11]⟩
      | succ n =>
        obtain ⟨k, hk⟩ : ∃ k, k = t.c.length - (n + 1) := ⟨_, rfl⟩
        have hk2 : t.c.length - n = k + 1 := by omega
        have hkl : k < t.c.length := by omega
        rw [← hk] at p11 B
        have hle := ok.le hkl
        have hQ1 : 1 ≤ Q := by rw [hQ]; exact Nat.two_pow_pos _
        obtain ⟨b, o, q1, q2, q3⟩ := u.at (i := k) hkl
        have hbq : b < q := by obtain ⟨o', m', k', e⟩ := iaS_ptr q1; exact huq _ _ _ _ e
        have q2' : g.rd1 b o = some (.int .u16 (nth t.c k : Nat)) := by unfold H.rd1; rw [x b hbq]; exact q2
        have hag : g.get a = some (.cells [v, .int .i64 t.n] 72 false) := by rw [x a haq, ha]
        have hF : adF t s k = if k + 1 = t.c.length then nth t.c k else if k < s then nth t.c k - nth t.c k / Q else nth t.c k + (32768 - nth t.c k) / Q := by
          rw [adF, ← hQ]
        obtain ⟨c, hc⟩ : ∃ c, c = nth t.c k := ⟨_, rfl⟩
        rw [← hc] at hF hle q2'
        have hfl := adF_le ok s hkl
        obtain ⟨F, hFe⟩ : ∃ F, F = adF t s k := ⟨_, rfl⟩
        rw [← hFe] at hF hfl
        obtain ⟨v', g1, g2, a1, a2, a3, a4, a5, a6⟩ := B.push F (by rw [tabN_length]; omega)
        have hsv := B.s.same
        have z0 : IntKind.i64.wrap (c : Int) = c := wi64 (by omega) (by omega)
        have z1 : IntKind.i64.wrap ((t.c.length : Int) - 1) = ((t.c.length - 1 : Nat) : Int) := by rw [wi64 (by omega) (by omega)]; omega
        have z2 : IntKind.i64.wrap ((k : Int) + 1) = k + 1 := wi64 (by omega) (by omega)
        have zF : IntKind.u16.wrap (F : Int) = F := wu16 (by omega) (by omega)
        have zF2 : IntKind.i64.wrap (F : Int) = F := wi64 (by omega) (by omega)
        have d1 := Nat.div_le_self c Q
        have d2 := Nat.div_le_self (32768 - c) Q
        have hB : ∃ sv, Box q (min (t.n + 1) 32) (tabN (adF t s) (t.c.length - n)) g2 sv := ⟨v', by rw [hk2, tabN_succ, ← hFe]; exact a4⟩
        have hx2 : ∀ c, c < q → g2.get c = h0.get c := fun c hc => by rw [a5 c hc, x c hc]
        by_cases e1 : k + 1 = t.c.length
        · rw [if_pos e1] at hF
          subst hF
          simp [l74_1, p11, p6, show (k : Int) < t.c.length by omega, hkl, p2, rd1_of hag, q1, q2', z0, z1, show ¬ (k : Int) < ((t.c.length - 1 : Nat) : Int) by omega, show ¬ k < t.c.length - 1 by omega, gl_t, p10, rd1_of B.b, zF, bs, fillW, splice, a1, a3, a2, ck, hsv, V.same, z2]
          exact ⟨n, Nat.lt_succ_self n, by omega, hx2, by omega, hB, by simp [p1], by simp [p2], by simp [p4], by simp [p6], by simp [p8], by simp [p10], by simp [hk2]⟩
        · rw [if_neg e1] at hF
          by_cases e2 : k < s
          · rw [if_pos e2] at hF
            obtain ⟨y, hy⟩ : ∃ y, y = c / Q := ⟨_, rfl⟩
            rw [← hy] at hF d1
            have t1 : ((c : Int)).tdiv (Q : Int) = (y : Int) := by rw [Int.tdiv_eq_ediv_of_nonneg (by omega), hy]; simp
            have t2 : IntKind.i64.wrap (y : Int) = y := wi64 (by omega) (by omega)
            have t3 : (c : Int) - (y : Int) = F := by omega
            simp [l74_1, p11, p6, show (k : Int) < t.c.length by omega, hkl, p2, rd1_of hag, q1, q2', z0, z1, show (k : Int) < ((t.c.length - 1 : Nat) : Int) by omega, show k < t.c.length - 1 by omega, p1, show ¬ (s : Int) ≤ k by omega, show ¬ s ≤ k by omega, p8, show ¬ (Q : Int) = 0 by omega, show ¬ Q = 0 by omega, t1, t2, t3, zF2, zF, p10, rd1_of B.b, bs, fillW, splice, a1, a3, a2, ck, hsv, V.same, z2]
            exact ⟨n, Nat.lt_succ_self n, by omega, hx2, by omega, hB, by simp [p1], by simp [p2], by simp [p4], by simp [p6], by simp [p8], by simp [p10], by simp [hk2]⟩
          · rw [if_neg e2] at hF
            obtain ⟨y, hy⟩ : ∃ y, y = (32768 - c) / Q := ⟨_, rfl⟩
            rw [← hy] at hF d2
            obtain ⟨w, hw⟩ : ∃ w, w = 32768 - c := ⟨_, rfl⟩
            have t0 : IntKind.i64.wrap (32768 - (c : Int)) = w := by rw [wi64 (by omega) (by omega)]; omega
            have t1 : ((w : Int)).tdiv (Q : Int) = (y : Int) := by rw [Int.tdiv_eq_ediv_of_nonneg (by omega), hy, hw]; simp
            have t2 : IntKind.i64.wrap (y : Int) = y := wi64 (by omega) (by omega)
            have t3 : (c : Int) + (y : Int) = F := by omega
            simp [l74_1, p11, p6, show (k : Int) < t.c.length by omega, hkl, p2, rd1_of hag, q1, q2', z0, z1, show (k : Int) < ((t.c.length - 1 : Nat) : Int) by omega, show k < t.c.length - 1 by omega, p1, show (s : Int) ≤ k by omega, show s ≤ k by omega, p8, show ¬ (Q : Int) = 0 by omega, show ¬ Q = 0 by omega, t0, t1, t2, t3, zF2, zF, p10, rd1_of B.b, bs, fillW, splice, a1, a3, a2, ck, hsv, V.same, z2]
            exact ⟨n, Nat.lt_succ_self n, by omega, hx2, by omega, hB, by simp [p1], by simp [p2], by simp [p4], by simp [p6], by simp [p8], by simp [p10], by simp [hk2]⟩)
  obtain ⟨⟨x, e', g'⟩, r1, r2, r3⟩ := loop n e g hi
  simp only at r2 r3
  subst r2
  exact ⟨e', g', r1, r3⟩

theorem SlR.under {D : Nat → Prop} {h : H} {v : V} {t z n : Nat} {cs : List V} (a : SlR D h v t z n cs) : ∀ c o m k, v = .sl c o m k → c < h.n := by
  rcases a with ⟨rfl, _⟩ | ⟨b, o, k, c, rfl, hb, _⟩
  · intro c o m k e; cases e
  · intro c o m k e; cases e; exact H.get_lt hb

def pw (n : Nat) : Nat := 2 ^ n
/-- Temporaries that are as they were. -/
def Keeps (K T : List Nat) (e e0 : E) : Prop := ∀ i, i ∈ T → e.s K i = e0.s K i

theorem loop74p {g : H} {R : Nat} (hR : R < 8) (en : E) (e7 : en.s [0, 1, 2, 4, 5, 6, 7, 8, 9, 10, 11, 12] 7 = .int .i64 R) (e8 : en.s [0, 1, 2, 4, 5, 6, 7, 8, 9, 10, 11, 12] 8 = .int .i64 1) (e9 : en.s [0, 1, 2, 4, 5, 6, 7, 8, 9, 10, 11, 12] 9 = .int .i64 0) :
    ∃ e', loopZ (l74_0 KW loopZ) en g = some ⟨.ex 0, e', g⟩ ∧ e'.s [0, 1, 2, 4, 5, 6, 7, 8, 9, 10, 11, 12] 8 = .int .i64 (pw R : Nat) ∧ Keeps [0, 1, 2, 4, 5, 6, 7, 8, 9, 10, 11, 12] [0, 1, 2, 4, 5, 6] e' en := by
  have loop := loop_run (body := l74_0 KW loopZ) (fun n e h => h = g ∧ n ≤ R ∧ e.s [0, 1, 2, 4, 5, 6, 7, 8, 9, 10, 11, 12] 7 = .int .i64 R ∧ e.s [0, 1, 2, 4, 5, 6, 7, 8, 9, 10, 11, 12] 8 = .int .i64 (pw (R - n) : Nat) ∧ e.s [0, 1, 2, 4, 5, 6, 7, 8, 9, 10, 11, 12] 9 = .int .i64 ((R - n : Nat) : Int) ∧ Keeps [0, 1, 2, 4, 5, 6, 7, 8, 9, 10, 11, 12] [0, 1, 2, 4, 5, 6] e en)
    (fun s => s.h = g ∧ s.x = .ex 0 ∧ s.e.s [0, 1, 2, 4, 5, 6, 7, 8, 9, 10, 11, 12] 8 = .int .i64 (pw R : Nat) ∧ Keeps [0, 1, 2, 4, 5, 6, 7, 8, 9, 10, 11, 12] [0, 1, 2, 4, 5, 6] s.e en)
    (fun n e h ⟨hg, hn, p7, p8, p9, hi⟩ => by
      subst hg
      have i0 := hi 0 (by simp); have i1 := hi 1 (by simp); have i2 := hi 2 (by simp); have i4 := hi 4 (by simp); have i5 := hi 5 (by simp); have i6 := hi 6 (by simp)
      obtain ⟨y, hy⟩ : ∃ y, y = pw (R - n) := ⟨_, rfl⟩
      rw [← hy] at p8
      have hy8 : y ≤ 128 := by rw [hy, pw, show 128 = 2 ^ 7 from rfl]; exact Nat.pow_le_pow_right (by decide) (by omega)
      cases n with
      | zero =>
        simp only [Nat.sub_zero] at hy
        simp [l74_0, p7, p9]
        exact ⟨rfl, rfl, by simp [p8, hy], fun i hm => by
          simp only [List.mem_cons, List.not_mem_nil, or_false] at hm
          rcases hm with rfl | rfl | rfl | rfl | rfl | rfl <;> simp [i0, i1, i2, i4, i5, i6]⟩
      | succ n =>
        obtain ⟨k, hk⟩ : ∃ k, k = R - (n + 1) := ⟨_, rfl⟩
        have hk2 : R - n = k + 1 := by omega
        rw [← hk] at p9 hy
        have z1 : IntKind.i64.wrap ((y : Int) * 2) = (pw (k + 1) : Nat) := by rw [wi64 (by omega) (by omega), pw, Nat.pow_succ, hy, pw]; simp
        have z2 : IntKind.i64.wrap ((k : Int) + 1) = k + 1 := wi64 (by omega) (by omega)
        obtain ⟨y2, hy2⟩ : ∃ y2, y2 = pw (k + 1) := ⟨_, rfl⟩
        rw [← hy2] at z1
        simp [l74_0, p7, p9, show k < R by omega, show (k : Int) < R by omega, p8, z1, z2]
        exact ⟨n, Nat.lt_succ_self n, rfl, by omega, by simp [p7], by rw [hk2, hy2]; simp [hy2], by simp [hk2], fun i hm => by
          simp only [List.mem_cons, List.not_mem_nil, or_false] at hm
          rcases hm with rfl | rfl | rfl | rfl | rfl | rfl <;> simp [i0, i1, i2, i4, i5, i6]⟩)
  obtain ⟨⟨x, e', g'⟩, r1, r2, r3, r4, r5⟩ := loop R en g ⟨rfl, Nat.le_refl _, e7, by rw [e8, Nat.sub_self]; rfl, by rw [e9, Nat.sub_self]; rfl, fun i _ => rfl⟩
  simp only at r2 r3 r4 r5
  subst r2 r3
  exact ⟨e', r1, r4, r5⟩

theorem adapt74_ok {D : Nat → Prop} {h : H} {v : V} {t : Tb} (u : U16 D h v t.c) (ok : TabOk t) {s : Nat} (hs : s < t.c.length) :
    RT (fun w h' => ∃ vt, w = .tup [vt, .int .i64 0] ∧ NewT h.n h' vt (adaptP t s) ∧ Ext h h') (KW 74 [.agg [v, .int .i64 t.n], .int .i64 s] h) := by
  have l1 := ok.1
  obtain ⟨h1, b1, x1, g1, n1, u1⟩ := box72 u
  obtain ⟨h2, hh2⟩ : ∃ g, g = h1.new (.cells [.nils, .int .i64 0] 72 false) := ⟨_, rfl⟩
  have x2 : Ext h1 h2 := by rw [hh2]; exact (Ext.refl h1).new _
  have n2 : h2.n = h1.n + 1 := by rw [hh2, H.n_new]
  have r2 : h2.get h1.n = some (.cells [.nils, .int .i64 0] 72 false) := by rw [hh2, get_new_same]
  have u2 := u1.ext x2
  obtain ⟨w, h3, e3, rfl, x3⟩ := (check62_ok u2 (by omega)).elim
  rw [if_pos ok] at e3
  have ge2 : h2.get h.n = _ := (x2.get _ (H.get_lt g1)).trans g1
  have ge3 : h3.get h.n = _ := (x3.get _ (H.get_lt ge2)).trans ge2
  have ra3 : h3.get h1.n = _ := (x3.get _ (H.get_lt r2)).trans r2
  obtain ⟨lg, e4, hlg, hlg2⟩ := log91_ok ok.1.1 ok.1.2 h3
  obtain ⟨m, hm⟩ : ∃ m, m = min (t.n + 1) 32 := ⟨_, rfl⟩
  have zn : IntKind.i64.wrap (t.n + 1) = t.n + 1 := by have := ok.2.1; exact wi64 (by omega) (by omega)
  have hmin : (if (32 : Int) < t.n + 1 then (32 : Int) else t.n + 1) = m := by rw [hm]; split <;> omega
  obtain ⟨h4, hh4⟩ : ∃ g, g = (h3.new (.cells [.nils, .int .i64 0] 72 false)).put h3.n (.cells [.nils, .int .i64 m] 72 false) := ⟨_, rfl⟩
  have x4 : Ext h3 h4 := by rw [hh4]; exact ((Ext.refl h3).new _).put (Nat.le_refl _) _
  have n4 : h4.n = h3.n + 1 := by rw [hh4, H.n_put, H.n_new]
  have g4 : h4.get h3.n = some (.cells [.nils, .int .i64 m] 72 false) := by rw [hh4, get_put_same (by rw [H.n_new]; omega)]
  have ge4 : h4.get h.n = _ := (x4.get _ (H.get_lt ge3)).trans ge3
  have ra4 : h4.get h1.n = _ := (x4.get _ (H.get_lt ra3)).trans ra3
  have u4 := (u2.ext x3).ext x4
  have hx3 : Ext h h3 := (x1.trans x2).trans x3
  -- how fast
  obtain ⟨R, hR⟩ : ∃ R, R = rateP t := ⟨_, rfl⟩
  have hR8 : R < 8 := by rw [hR]; exact rateP_lt t
  obtain ⟨q, hq⟩ : ∃ q, q = (if t.c.length < 4 then 1 else 2) := ⟨_, rfl⟩
  have e5 : (if (2 : Int) < (lg : Int) then (2 : Int) else (lg : Int)) = (q : Int) := by rw [hq, ← hlg]; split <;> omega
  have hq2 : q ≤ 2 := by rw [hq]; split <;> omega
  have z2 : IntKind.i64.wrap (3 + (q : Int)) = 3 + q := wi64 (by omega) (by omega)
  have z3 : IntKind.i64.wrap (3 + (q : Int) + 1) = 3 + q + 1 := wi64 (by omega) (by omega)
  have z4 : IntKind.i64.wrap (3 + (q : Int) + 1 + 1) = 3 + q + 1 + 1 := wi64 (by omega) (by omega)
  have hr : (R : Int) = 3 + q + (if 15 < t.n then 1 else 0) + (if 31 < t.n then 1 else 0) := by
    rw [hR]; unfold rateP; rw [← hq]; split <;> split <;> simp
  have hslt : ¬ (t.c.length : Int) ≤ s := by omega
  have hslt2 : ¬ t.c.length ≤ s := by omega
  obtain ⟨e6, k1, k2, k3⟩ := loop74p (g := h3) hR8 ⟨[.agg [v, .int .i64 t.n], .int .i64 s, .ptr h.n 0, .ptr h1.n 0, .int .i64 0, .int .i64 t.c.length, .int .i64 R, .int .i64 1, .int .i64 0, .tup [], .tup [], .tup []], 9, .int .i64 0⟩ (by simp) (by simp) (by simp)
  have k30 := k3 0 (by simp); have k31 := k3 1 (by simp); have k32 := k3 2 (by simp); have k34 := k3 4 (by simp); have k35 := k3 5 (by simp); have k36 := k3 6 (by simp)
  simp at k30 k31 k32 k34 k35 k36
  obtain ⟨Q, hQ⟩ : ∃ Q, Q = 2 ^ rateP t := ⟨_, rfl⟩
  rw [hR, pw, ← hQ] at k2
  obtain ⟨e7, g7, j1, I⟩ := loop74 (Q := Q) hQ (h0 := h4) (t := t) (s := s) (a := h.n) (q := h3.n) (p := h1.n) ok u4 ge4 (fun c hc hcq => by omega) (by have := x2.n; have := x3.n; omega) (by omega)
    (fun c o k n e => by have := u.1.under _ _ _ _ e; have := hx3.n; omega) (n := t.c.length)
    (e := ⟨[.agg [v, .int .i64 t.n], .int .i64 s, .ptr h.n 0, .ptr h1.n 0, .int .i64 0, .int .i64 t.c.length, e6.s [0, 1, 2, 4, 5, 6, 7, 8, 9, 10, 11, 12] 7, .int .i64 Q, e6.s [0, 1, 2, 4, 5, 6, 7, 8, 9, 10, 11, 12] 9, .ptr h3.n 0, .int .i64 0, e6.s [0, 1, 2, 4, 5, 6, 7, 8, 9, 10, 11, 12] 12], 11, .int .i64 0⟩) (g := h4)
    ⟨Nat.le_refl _, fun c _ => rfl, Nat.le_refl _, ⟨.nils, by rw [Nat.sub_self, ← hm]; exact ⟨g4, GrowV.nil _ _ _ _⟩⟩, by simp, by simp, by simp, by simp, by simp, by simp, by simp⟩
  obtain ⟨_, xx, gn, ⟨sv, B⟩, p1, p2, p4, p6, p8, p10, p11⟩ := I
  have n32 : h1.n < h3.n := by have := x3.n; omega
  have ra7 : g7.get h1.n = _ := (xx _ n32).trans ra4
  obtain ⟨h8, hh8⟩ : ∃ g, g = g7.put h1.n (.cells [sv, .int .i64 m] 72 false) := ⟨_, rfl⟩
  have r8 : h8.get h1.n = some (.cells [sv, .int .i64 m] 72 false) := by rw [hh8, get_put_same (H.get_lt ra7)]
  rw [← hm] at B
  have Bb := B.b
  have fin_ : ∃ vt, V.tup [.agg [sv, .int .i64 m], .int .i64 0] = .tup [vt, .int .i64 0] ∧ NewT h.n h8 vt (adaptP t s) ∧ Ext h h8 := by
    refine ⟨_, rfl, ⟨sv, by rw [hm]; rfl, ?_⟩, ?_⟩
    · have hS := B.s
      rw [Nat.sub_zero] at hS
      have hG : GrowV (h3.n + 1) h8 sv 38 1 (wordsV (adaptP t s).c) (adaptP t s).c.length := by
        rw [hh8]; exact hS.put (hS.fresh.ne (by omega))
      exact ⟨GrowV.slr hG fun b hb => by have := hx3.n; show h.n ≤ b; omega, fun y hy => by
        obtain ⟨i, hi, rfl⟩ := List.getElem_of_mem hy
        rw [← nth_of hi]
        rw [adaptP_len] at hi
        rw [adaptP_nth hi]
        have := adF_le ok s hi
        omega⟩
    · refine ⟨by rw [hh8, H.n_put]; have := hx3.n; omega, fun c hc => ?_⟩
      have := x1.n; have := hx3.n
      rw [hh8, get_put_ne (by omega), xx c (by omega), x4.get c (by omega), hx3.get c hc]
  rw [w74, f74, s74]
  by_cases c1 : 15 < t.n
  · by_cases c2 : 31 < t.n
    · have hr2 : (R : Int) = 3 + q + 1 + 1 := by rw [hr, if_pos c1, if_pos c2]
      rw [← hr2] at z4
      simp [b1, nw, ← hh2, rdN_of (o := 0) (n := 2) ge2 (by simp), e3, show ¬ (s : Int) < 0 by omega, rd1_of ge3, u.1.len, hslt, hslt2, e4, e5, z2, c1, z3, c2, ← hr2, z4, k1, k30, k31, k32, k34, k35, k36, k2, zn, hmin, bl, fillW, splice, wrN_of (o := 0) get_new_same, ← hh4, j1, p10, rdN_of (o := 0) (n := 2) Bb (by simp), p4, wrN_of (o := 0) ra7, ← hh8, rdN_of (o := 0) (n := 2) r8 (by simp)]
      exact fin_
    · have hr2 : (R : Int) = 3 + q + 1 := by rw [hr, if_pos c1, if_neg c2]; omega
      rw [← hr2] at z3
      simp [b1, nw, ← hh2, rdN_of (o := 0) (n := 2) ge2 (by simp), e3, show ¬ (s : Int) < 0 by omega, rd1_of ge3, u.1.len, hslt, hslt2, e4, e5, z2, c1, z3, c2, ← hr2, k1, k30, k31, k32, k34, k35, k36, k2, zn, hmin, bl, fillW, splice, wrN_of (o := 0) get_new_same, ← hh4, j1, p10, rdN_of (o := 0) (n := 2) Bb (by simp), p4, wrN_of (o := 0) ra7, ← hh8, rdN_of (o := 0) (n := 2) r8 (by simp)]
      exact fin_
  · have hr2 : (R : Int) = 3 + q := by rw [hr, if_neg c1, if_neg (by omega)]; omega
    rw [← hr2] at z2
    simp [b1, nw, ← hh2, rdN_of (o := 0) (n := 2) ge2 (by simp), e3, show ¬ (s : Int) < 0 by omega, rd1_of ge3, u.1.len, hslt, hslt2, e4, e5, z2, c1, show ¬ 31 < t.n by omega, ← hr2, k1, k30, k31, k32, k34, k35, k36, k2, zn, hmin, bl, fillW, splice, wrN_of (o := 0) get_new_same, ← hh4, j1, p10, rdN_of (o := 0) (n := 2) Bb (by simp), p4, wrN_of (o := 0) ra7, ← hh8, rdN_of (o := 0) (n := 2) r8 (by simp)]
    exact fin_
end Go.Proofs.Ytfjghgjkpenanaa
/- Flat, Steep, of both. -/
set_option linter.unusedVariables false
set_option linter.unusedSimpArgs false
namespace Go.Proofs.Ytfjghgjkpenanaa
open Go Go.Zf
open Go.Zf (wi64)

def flF (n i : Nat) : Nat := 32768 * (i + 1) / n
def stF (n i : Nat) : Nat := if i + 1 = n then 32768 else 32768 - 32768 / pw (i + 1)
def flatP (n : Nat) : Tb := ⟨tabN (flF n) n, 0⟩
def steepP (n : Nat) : Tb := ⟨tabN (stF n) n, 0⟩
theorem flF_le {n i : Nat} (hi : i < n) : flF n i ≤ 32768 := by
  unfold flF
  have : 32768 * (i + 1) / n ≤ 32768 * n / n := Nat.div_le_div_right (Nat.mul_le_mul_left _ (by omega))
  rwa [Nat.mul_div_cancel _ (by omega)] at this
theorem stF_le (n i : Nat) : stF n i ≤ 32768 := by
  unfold stF
  split
  · exact Nat.le_refl _
  · exact Nat.sub_le _ _
theorem mem_tabN {f : Nat → Nat} {m x : Nat} (h : x ∈ tabN f m) : ∃ i, i < m ∧ f i = x := by
  simp only [tabN, List.mem_map, List.mem_range] at h; exact h
theorem mix_full (f g : Nat → Nat) (m : Nat) : mix f g m m = tabN f m := by
  apply List.ext_getElem
  · simp [mix, tabN]
  · intro i h1 h2
    have : i < m := by simpa [mix] using h1
    simp [mix, tabN, this]
theorem zeros (f : Nat → Nat) (n : Nat) : reps n [V.int .u16 0] = wordsV (mix f (fun _ => 0) n 0) := by
  rw [reps_one]
  apply List.ext_getElem
  · simp [wordsV, mix]
  · intro i h1 h2; simp [wordsV, mix]

/-! The document's. -/
theorem flat49_ok {n : Nat} (h2 : 2 ≤ n) (h16 : n ≤ 16) (h : H) : RT (fun w h' => ∃ vt, w = .tup [vt, .int .i64 0] ∧ NewT h.n h' vt (flatP n) ∧ Ext h h') (KW 49 [.int .i64 n] h) := by
  obtain ⟨h1, hh1⟩ : ∃ g, g = h.new (.cells [.nils, .int .i64 0] 72 false) := ⟨_, rfl⟩
  have x1 : Ext h h1 := by rw [hh1]; exact (Ext.refl h).new _
  have n1 : h1.n = h.n + 1 := by rw [hh1, H.n_new]
  have r1 : h1.get h.n = some (.cells [.nils, .int .i64 0] 72 false) := by rw [hh1, get_new_same]
  obtain ⟨h3, hh3⟩ : ∃ g, g = h1.new (.cells [.nils, .int .i64 0] 72 false) := ⟨_, rfl⟩
  have x3 : Ext h1 h3 := by rw [hh3]; exact (Ext.refl h1).new _
  have r3 : h3.get h1.n = some (.cells [.nils, .int .i64 0] 72 false) := by rw [hh3, get_new_same]
  have loop := loop_run (body := l49_0 KW loopZ) (fun k e g => k ≤ n ∧ (∀ c, c < h1.n → g.get c = h3.get c) ∧ h3.n ≤ g.n ∧ (∃ sv, Box h1.n 0 (tabN (flF n) (n - k)) g sv) ∧ e.s [0, 2, 3, 4, 5] 0 = .int .i64 n ∧ e.s [0, 2, 3, 4, 5] 2 = .ptr h.n 0 ∧ e.s [0, 2, 3, 4, 5] 4 = .ptr h1.n 0 ∧ e.s [0, 2, 3, 4, 5] 5 = .int .i64 ((n - k : Nat) : Int))
    (fun s => s.x = .ex 0 ∧ (∀ c, c < h1.n → s.h.get c = h3.get c) ∧ h3.n ≤ s.h.n ∧ (∃ sv, Box h1.n 0 (tabN (flF n) n) s.h sv) ∧ s.e.s [0, 2, 3, 4, 5] 2 = .ptr h.n 0 ∧ s.e.s [0, 2, 3, 4, 5] 4 = .ptr h1.n 0)
    (fun k e g ⟨hk, xx, gn, ⟨sv, B⟩, p0, p2, p4, p5⟩ => by
      cases k with
      | zero =>
        simp [l49_0, p0, p5]
        exact ⟨rfl, xx, gn, ⟨sv, B⟩, by simp [p2], by simp [p4]⟩
      | succ k =>
        obtain ⟨i, hi⟩ : ∃ i, i = n - (k + 1) := ⟨_, rfl⟩
        have hi2 : n - k = i + 1 := by omega
        rw [← hi] at p5 B
        have hF := flF_le (n := n) (i := i) (by omega)
        obtain ⟨v', g1, g2, a1, a2, a3, a4, a5, a6⟩ := B.push (flF n i) (by rw [tabN_length]; omega)
        have hsv := B.s.same
        have z1 : IntKind.i64.wrap ((i : Int) + 1) = i + 1 := wi64 (by omega) (by omega)
        have z2 : IntKind.i64.wrap (32768 * ((i : Int) + 1)) = 32768 * (i + 1) := wi64 (by omega) (by omega)
        obtain ⟨F, hFe⟩ : ∃ F, F = flF n i := ⟨_, rfl⟩
        have t1 : (32768 * ((i : Int) + 1)).tdiv (n : Int) = (F : Int) := by
          rw [Int.tdiv_eq_ediv_of_nonneg (by omega), hFe, flF]; simp
        rw [← hFe] at hF a1
        have z3 : IntKind.i64.wrap (F : Int) = F := wi64 (by omega) (by omega)
        have z4 : IntKind.u16.wrap (F : Int) = F := wu16 (by omega) (by omega)
        simp [l49_0, p0, p5, show (i : Int) < n by omega, show i < n by omega, p4, rd1_of B.b, z1, z2, show ¬ (n : Int) = 0 by omega, show ¬ n = 0 by omega, t1, z3, z4, bs, fillW, splice, a1, a3, a2, ck, hsv, V.same]
        exact ⟨k, Nat.lt_succ_self k, by omega, fun c hc => by rw [a5 c hc, xx c hc], by omega, ⟨v', by rw [hi2, tabN_succ]; exact a4⟩, by simp [p0], by simp [p2], by simp [p4], by simp [hi2]⟩)
  obtain ⟨⟨sx, se, sh⟩, q1, q2, xx, gn, ⟨sv, B⟩, p2, p4⟩ := loop n ⟨[.int .i64 n, .ptr h.n 0, .int .i64 0, .ptr h1.n 0, .int .i64 0], 5, .int .i64 0⟩ h3 ⟨Nat.le_refl _, fun c _ => rfl, Nat.le_refl _, ⟨.nils, by rw [Nat.sub_self]; exact ⟨r3, GrowV.nil _ _ _ _⟩⟩, by simp, by simp, by simp, by simp⟩
  simp only at q2 xx gn B p2 p4
  subst q2
  have ra : sh.get h.n = _ := (xx h.n (by omega)).trans ((x3.get _ (by omega)).trans r1)
  obtain ⟨h8, hh8⟩ : ∃ g, g = sh.put h.n (.cells [sv, .int .i64 0] 72 false) := ⟨_, rfl⟩
  have r8 : h8.get h.n = some (.cells [sv, .int .i64 0] 72 false) := by rw [hh8, get_put_same (H.get_lt ra)]
  have Bb := B.b
  rw [w49, f49, s49]
  simp [nw, ← hh1, ← hh3, show ¬ (n : Int) < 2 by omega, show ¬ n < 2 by omega, show ¬ (16 : Int) < n by omega, show ¬ 16 < n by omega, q1, p4, rdN_of (o := 0) (n := 2) Bb (by simp), p2, wrN_of (o := 0) ra, splice, ← hh8, rdN_of (o := 0) (n := 2) r8 (by simp)]
  have hS := B.s
  have hG : GrowV (h1.n + 1) h8 sv 38 1 (wordsV (flatP n).c) (flatP n).c.length := by
    rw [hh8]; exact hS.put (hS.fresh.ne (by omega))
  refine ⟨_, rfl, ⟨sv, rfl, GrowV.slr hG fun b hb => by show h.n ≤ b; omega, fun y hy => ?_⟩, ?_⟩
  · obtain ⟨i, hi, rfl⟩ := mem_tabN hy
    have := flF_le hi; omega
  · refine ⟨by rw [hh8, H.n_put]; have := x1.n; have := x3.n; omega, fun c hc => ?_⟩
    have := x1.n
    rw [hh8, get_put_ne (by omega), xx c (by omega), x3.get c (by omega), x1.get c hc]

theorem half_div (i : Nat) (hi : i ≤ 15) : 32768 / pw i / 2 = 32768 / pw (i + 1) := by
  rw [pw, pw, Nat.div_div_eq_div_mul, Nat.pow_succ]

def HY (k : Nat) (v : V) : Prop := ∃ y : Nat, y = 32768 / pw k ∧ v = .int .i64 y
theorem steep50_ok {n : Nat} (h2 : 2 ≤ n) (h16 : n ≤ 16) (h : H) : RT (fun w h' => ∃ vt, w = .tup [vt, .int .i64 0] ∧ NewT h.n h' vt (steepP n) ∧ Ext h h') (KW 50 [.int .i64 n] h) := by
  obtain ⟨h1, hh1⟩ : ∃ g, g = h.new (.cells [.nils, .int .i64 0] 72 false) := ⟨_, rfl⟩
  have x1 : Ext h h1 := by rw [hh1]; exact (Ext.refl h).new _
  have n1 : h1.n = h.n + 1 := by rw [hh1, H.n_new]
  have r1 : h1.get h.n = some (.cells [.nils, .int .i64 0] 72 false) := by rw [hh1, get_new_same]
  obtain ⟨h3, hh3⟩ : ∃ g, g = h1.new (.cells [.nils, .int .i64 0] 72 false) := ⟨_, rfl⟩
  have x3 : Ext h1 h3 := by rw [hh3]; exact (Ext.refl h1).new _
  have r3 : h3.get h1.n = some (.cells [.nils, .int .i64 0] 72 false) := by rw [hh3, get_new_same]
  have zn1 : IntKind.i64.wrap ((n : Int) - 1) = ((n - 1 : Nat) : Int) := by rw [wi64 (by omega) (by omega)]; omega
  have loop := loop_run (body := l50_0 KW loopZ) (fun k e g => k ≤ n - 1 ∧ (∀ c, c < h1.n → g.get c = h3.get c) ∧ h3.n ≤ g.n ∧ (∃ sv, Box h1.n 0 (tabN (stF n) (n - 1 - k)) g sv) ∧ e.s [0, 2, 3, 4, 5, 6] 0 = .int .i64 n ∧ e.s [0, 2, 3, 4, 5, 6] 2 = .ptr h.n 0 ∧ e.s [0, 2, 3, 4, 5, 6] 4 = .ptr h1.n 0 ∧ e.s [0, 2, 3, 4, 5, 6] 6 = .int .i64 ((n - 1 - k : Nat) : Int) ∧ HY (n - 1 - k) (e.s [0, 2, 3, 4, 5, 6] 5))
    (fun s => s.x = .ex 0 ∧ (∀ c, c < h1.n → s.h.get c = h3.get c) ∧ h3.n ≤ s.h.n ∧ (∃ sv, Box h1.n 0 (tabN (stF n) (n - 1)) s.h sv) ∧ s.e.s [0, 2, 3, 4, 5, 6] 2 = .ptr h.n 0 ∧ s.e.s [0, 2, 3, 4, 5, 6] 4 = .ptr h1.n 0)
    (fun k e g ⟨hk, xx, gn, ⟨sv, B⟩, p0, p2, p4, p6, ⟨y, hy, p5⟩⟩ => by
      cases k with
      | zero =>
        simp [l50_0, p0, p6, zn1]
        exact ⟨rfl, xx, gn, ⟨sv, B⟩, by simp [p2], by simp [p4]⟩
      | succ k =>
        obtain ⟨i, hi⟩ : ∃ i, i = n - 1 - (k + 1) := ⟨_, rfl⟩
        have hi2 : n - 1 - k = i + 1 := by omega
        rw [← hi] at p6 B hy
        have hyl : y ≤ 32768 := by rw [hy]; exact Nat.div_le_self _ _
        have hF := stF_le n i
        obtain ⟨v', g1, g2, a1, a2, a3, a4, a5, a6⟩ := B.push (stF n i) (by rw [tabN_length]; omega)
        have hsv := B.s.same
        have z1 : IntKind.i64.wrap ((i : Int) + 1) = i + 1 := wi64 (by omega) (by omega)
        obtain ⟨F, hFe⟩ : ∃ F, F = stF n i := ⟨_, rfl⟩
        obtain ⟨y2, hy2⟩ : ∃ y2, y2 = y / 2 := ⟨_, rfl⟩
        have hy3 : y2 = 32768 / pw (i + 1) := by rw [hy2, hy, half_div i (by omega)]
        have t1 : ((y : Int)).tdiv 2 = (y2 : Int) := by
          rw [Int.tdiv_eq_ediv_of_nonneg (by omega), hy2]; simp
        have hF2 : F = 32768 - y2 := by rw [hFe, stF, if_neg (by omega), hy3]
        rw [← hFe] at hF a1
        have z2 : IntKind.i64.wrap (y2 : Int) = y2 := wi64 (by omega) (by omega)
        have z3 : IntKind.i64.wrap (32768 - (y2 : Int)) = F := by rw [wi64 (by omega) (by omega)]; omega
        have z4 : IntKind.u16.wrap (F : Int) = F := wu16 (by omega) (by omega)
        simp [l50_0, p0, p6, zn1, show (i : Int) < ((n - 1 : Nat) : Int) by omega, show i < n - 1 by omega, p5, t1, z2, z3, p4, rd1_of B.b, z1, z4, bs, fillW, splice, a1, a3, a2]
        exact ⟨k, Nat.lt_succ_self k, by omega, fun c hc => by rw [a5 c hc, xx c hc], by omega, ⟨v', by rw [hi2, tabN_succ]; exact a4⟩, by simp [p0], by simp [p2], by simp [p4], by simp [hi2], ⟨y2, by rw [hi2]; exact hy3, by simp⟩⟩)
  obtain ⟨⟨sx, se, sh⟩, q1, q2, xx, gn, ⟨sv, B⟩, p2, p4⟩ := loop (n - 1) ⟨[.int .i64 n, .ptr h.n 0, .int .i64 0, .ptr h1.n 0, .int .i64 32768, .int .i64 0], 6, .int .i64 0⟩ h3 ⟨Nat.le_refl _, fun c _ => rfl, Nat.le_refl _, ⟨.nils, by rw [Nat.sub_self]; exact ⟨r3, GrowV.nil _ _ _ _⟩⟩, by simp, by simp, by simp, by simp, ⟨32768, by rw [Nat.sub_self]; rfl, by simp⟩⟩
  simp only at q2 xx gn B p2 p4
  subst q2
  obtain ⟨v', g1, g2, a1, a2, a3, a4, a5, a6⟩ := B.push 32768 (by rw [tabN_length]; omega)
  have hL : tabN (stF n) (n - 1) ++ [32768] = (steepP n).c := by
    obtain ⟨m, rfl⟩ : ∃ m, n = m + 1 := ⟨n - 1, by omega⟩
    rw [Nat.add_sub_cancel, steepP, tabN_succ]
    congr 2
    rw [stF, if_pos rfl]
  rw [hL] at a4
  have ra : g2.get h.n = _ := (a5 h.n (by omega)).trans ((xx h.n (by omega)).trans ((x3.get _ (by omega)).trans r1))
  obtain ⟨h8, hh8⟩ : ∃ g, g = g2.put h.n (.cells [v', .int .i64 0] 72 false) := ⟨_, rfl⟩
  have r8 : h8.get h.n = some (.cells [v', .int .i64 0] 72 false) := by rw [hh8, get_put_same (H.get_lt ra)]
  have Bb := a4.b
  rw [w50, f50, s50]
  simp at a1
  simp [nw, ← hh1, ← hh3, show ¬ (n : Int) < 2 by omega, show ¬ n < 2 by omega, show ¬ (16 : Int) < n by omega, show ¬ 16 < n by omega, q1, p4, rd1_of B.b, bs, fillW, a1, a3, a2, rdN_of (o := 0) (n := 2) Bb (by simp), p2, wrN_of (o := 0) ra, splice, ← hh8, rdN_of (o := 0) (n := 2) r8 (by simp)]
  have hS := a4.s
  have hG : GrowV (h1.n + 1) h8 v' 38 1 (wordsV (steepP n).c) (steepP n).c.length := by
    rw [hh8]; exact hS.put (hS.fresh.ne (by omega))
  refine ⟨.agg [v', .int .i64 0], rfl, ?_, ?_⟩
  · refine ⟨v', rfl, GrowV.slr hG fun b hb => by show h.n ≤ b; omega, fun y hy => ?_⟩
    obtain ⟨i, hi, rfl⟩ := mem_tabN hy
    have := stF_le n i; omega
  · refine ⟨by rw [hh8, H.n_put]; have := x1.n; have := x3.n; omega, fun c hc => ?_⟩
    have := x1.n
    rw [hh8, get_put_ne (by omega), a5 c (by omega), xx c (by omega), x3.get c (by omega), x1.get c hc]
end Go.Proofs.Ytfjghgjkpenanaa
/- Flat, Steep of the program. -/
set_option linter.unusedVariables false
set_option linter.unusedSimpArgs false
namespace Go.Proofs.Ytfjghgjkpenanaa
open Go Go.Zf
open Go.Zf (wi64)

theorem wn (n : Nat) (f g : Nat → Nat) (j : Nat) : (wordsV (mix f g n j)).length = n := by rw [wordsV_length, mix_length]

structure I54 (h0 : H) (f : Nat → Nat) (n b q p : Nat) (k : Nat) (e : E) (g : H) : Prop where
  hk : k ≤ n
  x : ∀ c, c ≠ b → g.get c = h0.get c
  gn : h0.n ≤ g.n
  w : g.get b = some (.cells (wordsV (mix f (fun _ => 0) n (n - k))) 38 false)
  p0 : e.s [0, 2, 3, 4, 5, 15, 16] 0 = .int .i64 n
  p2 : e.s [0, 2, 3, 4, 5, 15, 16] 2 = .ptr p 0
  p4 : e.s [0, 2, 3, 4, 5, 15, 16] 4 = .ptr q 0
  p15 : e.s [0, 2, 3, 4, 5, 15, 16] 15 = .int .i64 n
  p16 : e.s [0, 2, 3, 4, 5, 15, 16] 16 = .int .i64 ((n - k : Nat) : Int)

theorem flat54_ok {n : Nat} (h2 : 2 ≤ n) (h16 : n ≤ 16) (h : H) : RT (fun w h' => ∃ vt, w = .tup [vt, .int .i64 0] ∧ NewT h.n h' vt (flatP n) ∧ Ext h h') (KW 54 [.int .i64 n] h) := by
  obtain ⟨h1, hh1⟩ : ∃ g, g = h.new (.cells [.nils, .int .i64 0] 72 false) := ⟨_, rfl⟩
  have x1 : Ext h h1 := by rw [hh1]; exact (Ext.refl h).new _
  have n1 : h1.n = h.n + 1 := by rw [hh1, H.n_new]
  have r1 : h1.get h.n = some (.cells [.nils, .int .i64 0] 72 false) := by rw [hh1, get_new_same]
  obtain ⟨hm, hhm⟩ : ∃ g, g = h1.new (.cells (wordsV (mix (flF n) (fun _ => 0) n 0)) 38 false) := ⟨_, rfl⟩
  have xm : Ext h1 hm := by rw [hhm]; exact (Ext.refl h1).new _
  have nm : hm.n = h1.n + 1 := by rw [hhm, H.n_new]
  have rm : hm.get h1.n = some (.cells (wordsV (mix (flF n) (fun _ => 0) n 0)) 38 false) := by rw [hhm, get_new_same]
  obtain ⟨h3, hh3⟩ : ∃ g, g = (hm.new (.cells [.nils, .int .i64 0] 72 false)).put hm.n (.cells [.sl h1.n 0 n (.ex n), .int .i64 0] 72 false) := ⟨_, rfl⟩
  have x3 : Ext hm h3 := by rw [hh3]; exact ((Ext.refl hm).new _).put (Nat.le_refl _) _
  have n3 : h3.n = hm.n + 1 := by rw [hh3, H.n_put, H.n_new]
  have r3 : h3.get hm.n = some (.cells [.sl h1.n 0 n (.ex n), .int .i64 0] 72 false) := by rw [hh3, get_put_same (by rw [H.n_new]; omega)]
  have rm3 : h3.get h1.n = _ := (x3.get _ (H.get_lt rm)).trans rm
  have ra3 : h3.get h.n = _ := (x3.get _ (by omega)).trans ((xm.get _ (by omega)).trans r1)
  have loop := loop_run (body := l54_0 KW loopZ) (I54 h3 (flF n) n h1.n hm.n h.n) (fun s => s.x = .ex 0 ∧ I54 h3 (flF n) n h1.n hm.n h.n 0 s.e s.h)
    (fun k e g hi => by
      obtain ⟨hk, xx, gn, w, p0, p2, p4, p15, p16⟩ := hi
      cases k with
      | zero =>
        simp [l54_0, p15, p16]
        exact ⟨rfl, hk, xx, gn, w, by simp [p0], by simp [p2], by simp [p4], by simp [p15], by simp [p16]⟩
      | succ k =>
        obtain ⟨i, hi⟩ : ∃ i, i = n - (k + 1) := ⟨_, rfl⟩
        have hi2 : n - k = i + 1 := by omega
        rw [← hi] at p16 w
        have hF := flF_le (n := n) (i := i) (by omega)
        have z1 : IntKind.i64.wrap ((i : Int) + 1) = i + 1 := wi64 (by omega) (by omega)
        have z2 : IntKind.i64.wrap (32768 * ((i : Int) + 1)) = 32768 * (i + 1) := wi64 (by omega) (by omega)
        have hset := mix_set (flF n) (fun _ => 0) n i
        have hs2 := wordsV_set (mix (flF n) (fun _ => 0) n i) i (flF n i)
        rw [hset] at hs2
        have hwr := fun v => wr1_of w (o := i) (by rw [wn]; omega) v
        obtain ⟨F, hFe⟩ : ∃ F, F = flF n i := ⟨_, rfl⟩
        have t1 : (32768 * ((i : Int) + 1)).tdiv (n : Int) = (F : Int) := by
          rw [Int.tdiv_eq_ediv_of_nonneg (by omega), hFe, flF]; simp
        rw [← hFe] at hF hs2
        have z3 : IntKind.i64.wrap (F : Int) = F := wi64 (by omega) (by omega)
        have z4 : IntKind.u16.wrap (F : Int) = F := wu16 (by omega) (by omega)
        have hq : g.get hm.n = _ := (xx hm.n (by omega)).trans r3
        obtain ⟨g2, hg2⟩ : ∃ g2, g2 = g.put h1.n (.cells (wordsV (mix (flF n) (fun _ => 0) n (i + 1))) 38 false) := ⟨_, rfl⟩
        simp [l54_0, p15, p16, show (i : Int) < n by omega, show i < n by omega, p4, rd1_of hq, z1, z2, p0, show ¬ (n : Int) = 0 by omega, show ¬ n = 0 by omega, t1, z3, z4, hwr, hs2, ← hg2]
        exact ⟨k, Nat.lt_succ_self k, by omega, fun c hc => by rw [hg2, get_put_ne hc, xx c hc], by rw [hg2, H.n_put]; exact gn, by rw [hg2, get_put_same (H.get_lt w), hi2], by simp [p0], by simp [p2], by simp [p4], by simp [p15], by simp [hi2]⟩)
  obtain ⟨⟨sx, se, sh⟩, q1, q2, I⟩ := loop n ⟨[.int .i64 n, .ptr h.n 0, .int .i64 0, .ptr hm.n 0, .tup [], .int .i64 n, .int .i64 0], 16, .int .i64 0⟩ h3 ⟨Nat.le_refl _, fun c _ => rfl, Nat.le_refl _, by rw [Nat.sub_self]; exact rm3, by simp, by simp, by simp, by simp, by simp⟩
  simp only at q2 I
  subst q2
  obtain ⟨_, xx, gn, w, p0, p2, p4, p15, p16⟩ := I
  rw [Nat.sub_zero, mix_full] at w
  have ra : sh.get h.n = _ := (xx h.n (by omega)).trans ra3
  have rq : sh.get hm.n = _ := (xx hm.n (by omega)).trans r3
  obtain ⟨h8, hh8⟩ : ∃ g, g = sh.put h.n (.cells [.sl h1.n 0 n (.ex n), .int .i64 0] 72 false) := ⟨_, rfl⟩
  have r8 : h8.get h.n = some (.cells [.sl h1.n 0 n (.ex n), .int .i64 0] 72 false) := by rw [hh8, get_put_same (H.get_lt ra)]
  have b8 : h8.get h1.n = some (.cells (wordsV (flatP n).c) 38 false) := by rw [hh8, get_put_ne (by omega)]; exact w
  have hsz := sizes80_ok (n : Int) h1
  rw [show (decide (2 ≤ (n : Int)) && decide ((n : Int) ≤ 16)) = true by rw [Bool.and_eq_true, decide_eq_true_eq, decide_eq_true_eq]; omega] at hsz
  have hms : ms h1 38 2 [(.int .u16 0)] (.int .i64 n) (.int .i64 n) = some (.sl h1.n 0 n (.ex n), hm) := by
    simp only [ms]
    rw [if_pos ⟨by omega, by omega, by omega, by omega, trivial⟩, Int.toNat_natCast, zeros (flF n), ← hhm]
  rw [w54, f54, s54]
  simp [nw, ← hh1, hsz, hms, bl, fillW, splice, wrN_of (o := 0) get_new_same, ← hh3, rd1_of r3, q1, p4, rdN_of (o := 0) (n := 2) rq (by simp), p2, wrN_of (o := 0) ra, ← hh8, rdN_of (o := 0) (n := 2) r8 (by simp)]
  refine ⟨_, rfl, ⟨.sl h1.n 0 n (.ex n), rfl, ?_, fun y hy => ?_⟩, ?_⟩
  · show SlR _ h8 _ _ 1 (tabN (flF n) n).length _
    rw [tabN_length]
    exact SlR.of b8 (by rw [wordsV_length, flatP, tabN_length]; omega) (show h.n ≤ h1.n by omega)
  · obtain ⟨i, hi, rfl⟩ := mem_tabN hy
    have := flF_le hi; omega
  · refine ⟨by rw [hh8, H.n_put]; omega, fun c hc => ?_⟩
    rw [hh8, get_put_ne (by omega), xx c (by omega), x3.get c (by omega), xm.get c (by omega), x1.get c hc]
def soF (i : Nat) : Nat := 32768 - 32768 / pw (i + 1)
theorem soF_le (i : Nat) : soF i ≤ 32768 := Nat.sub_le _ _
theorem steep55_ok {n : Nat} (h2 : 2 ≤ n) (h16 : n ≤ 16) (h : H) : RT (fun w h' => ∃ vt, w = .tup [vt, .int .i64 0] ∧ NewT h.n h' vt (steepP n) ∧ Ext h h') (KW 55 [.int .i64 n] h) := by
  obtain ⟨h1, hh1⟩ : ∃ g, g = h.new (.cells [.nils, .int .i64 0] 72 false) := ⟨_, rfl⟩
  have x1 : Ext h h1 := by rw [hh1]; exact (Ext.refl h).new _
  have n1 : h1.n = h.n + 1 := by rw [hh1, H.n_new]
  have r1 : h1.get h.n = some (.cells [.nils, .int .i64 0] 72 false) := by rw [hh1, get_new_same]
  obtain ⟨hm, hhm⟩ : ∃ g, g = h1.new (.cells (wordsV (mix (soF) (fun _ => 0) n 0)) 38 false) := ⟨_, rfl⟩
  have xm : Ext h1 hm := by rw [hhm]; exact (Ext.refl h1).new _
  have nm : hm.n = h1.n + 1 := by rw [hhm, H.n_new]
  have rm : hm.get h1.n = some (.cells (wordsV (mix (soF) (fun _ => 0) n 0)) 38 false) := by rw [hhm, get_new_same]
  obtain ⟨h3, hh3⟩ : ∃ g, g = (hm.new (.cells [.nils, .int .i64 0] 72 false)).put hm.n (.cells [.sl h1.n 0 n (.ex n), .int .i64 0] 72 false) := ⟨_, rfl⟩
  have x3 : Ext hm h3 := by rw [hh3]; exact ((Ext.refl hm).new _).put (Nat.le_refl _) _
  have n3 : h3.n = hm.n + 1 := by rw [hh3, H.n_put, H.n_new]
  have r3 : h3.get hm.n = some (.cells [.sl h1.n 0 n (.ex n), .int .i64 0] 72 false) := by rw [hh3, get_put_same (by rw [H.n_new]; omega)]
  have rm3 : h3.get h1.n = _ := (x3.get _ (H.get_lt rm)).trans rm
  have ra3 : h3.get h.n = _ := (x3.get _ (by omega)).trans ((xm.get _ (by omega)).trans r1)
  have loop := loop_run (body := l55_0 KW loopZ) (I54 h3 (soF) n h1.n hm.n h.n) (fun s => s.x = .ex 0 ∧ I54 h3 (soF) n h1.n hm.n h.n 0 s.e s.h)
    (fun k e g hi => by
      obtain ⟨hk, xx, gn, w, p0, p2, p4, p15, p16⟩ := hi
      cases k with
      | zero =>
        simp [l55_0, p15, p16]
        exact ⟨rfl, hk, xx, gn, w, by simp [p0], by simp [p2], by simp [p4], by simp [p15], by simp [p16]⟩
      | succ k =>
        obtain ⟨i, hi⟩ : ∃ i, i = n - (k + 1) := ⟨_, rfl⟩
        have hi2 : n - k = i + 1 := by omega
        rw [← hi] at p16 w
        have hF := soF_le i
        have z1 : IntKind.i64.wrap ((i : Int) + 1) = i + 1 := wi64 (by omega) (by omega)
        have hset := mix_set (soF) (fun _ => 0) n i
        have hs2 := wordsV_set (mix (soF) (fun _ => 0) n i) i (soF i)
        rw [hset] at hs2
        have hwr := fun v => wr1_of w (o := i) (by rw [wn]; omega) v
        obtain ⟨F, hFe⟩ : ∃ F, F = soF i := ⟨_, rfl⟩
        obtain ⟨Y, hY⟩ : ∃ Y, Y = 32768 / pw (i + 1) := ⟨_, rfl⟩
        have hYl : Y ≤ 32768 := by rw [hY]; exact Nat.div_le_self _ _
        have hmin : min (i + 1) IntKind.u16.bits = i + 1 := Nat.min_eq_left (by rw [show IntKind.u16.bits = 16 from rfl]; omega)
        have t1 : (32768 : Int).fdiv (2 ^ (i + 1)) = (Y : Int) := by
          rw [Int.fdiv_eq_ediv_of_nonneg _ (Int.pow_nonneg (by decide)), hY, pw]; simp
        have tn : ((i : Int) + 1).toNat = i + 1 := by omega
        have hFY : F = 32768 - Y := by rw [hFe, soF, hY]
        rw [← hFe] at hF hs2
        have z4 : IntKind.u16.wrap (32768 - (Y : Int)) = F := by rw [wu16 (by omega) (by omega)]; omega
        have hq : g.get hm.n = _ := (xx hm.n (by omega)).trans r3
        obtain ⟨g2, hg2⟩ : ∃ g2, g2 = g.put h1.n (.cells (wordsV (mix (soF) (fun _ => 0) n (i + 1))) 38 false) := ⟨_, rfl⟩
        simp [l55_0, p15, p16, show (i : Int) < n by omega, show i < n by omega, p4, rd1_of hq, z1, show ¬ (i : Int) + 1 < 0 by omega, tn, hmin, t1, z4, hwr, hs2, ← hg2]
        exact ⟨k, Nat.lt_succ_self k, by omega, fun c hc => by rw [hg2, get_put_ne hc, xx c hc], by rw [hg2, H.n_put]; exact gn, by rw [hg2, get_put_same (H.get_lt w), hi2], by simp [p0], by simp [p2], by simp [p4], by simp [p15], by simp [hi2]⟩)
  obtain ⟨⟨sx, se, sh⟩, q1, q2, I⟩ := loop n ⟨[.int .i64 n, .ptr h.n 0, .int .i64 0, .ptr hm.n 0, .tup [], .int .i64 n, .int .i64 0], 16, .int .i64 0⟩ h3 ⟨Nat.le_refl _, fun c _ => rfl, Nat.le_refl _, by rw [Nat.sub_self]; exact rm3, by simp, by simp, by simp, by simp, by simp⟩
  simp only at q2 I
  subst q2
  obtain ⟨_, xx, gn, w, p0, p2, p4, p15, p16⟩ := I
  rw [Nat.sub_zero, mix_full] at w
  have rq : sh.get hm.n = _ := (xx hm.n (by omega)).trans r3
  have zn1 : IntKind.i64.wrap ((n : Int) - 1) = ((n - 1 : Nat) : Int) := by rw [wi64 (by omega) (by omega)]; omega
  have hwr := fun v => wr1_of w (o := n - 1) (by rw [wordsV_length, tabN_length]; omega) v
  have hs2 : (wordsV (tabN soF n)).set (n - 1) (.int .u16 32768) = wordsV ((tabN soF n).set (n - 1) 32768) := wordsV_set (tabN soF n) (n - 1) 32768
  have hst : (tabN soF n).set (n - 1) 32768 = (steepP n).c := by
    apply List.ext_getElem
    · simp [steepP, tabN]
    · intro i h1 h2
      have hi : i < n := by simpa [tabN] using h1
      rw [List.getElem_set]
      simp only [steepP, tabN, List.getElem_map, List.getElem_range, stF, soF]
      by_cases e : n - 1 = i
      · rw [if_pos e, if_pos (by omega)]
      · rw [if_neg e, if_neg (by omega)]
  rw [hst] at hs2
  obtain ⟨sh2, hsh2⟩ : ∃ g, g = sh.put h1.n (.cells (wordsV (steepP n).c) 38 false) := ⟨_, rfl⟩
  have w2 : sh2.get h1.n = some (.cells (wordsV (steepP n).c) 38 false) := by rw [hsh2, get_put_same (H.get_lt w)]
  have rq2 : sh2.get hm.n = _ := (show sh2.get hm.n = sh.get hm.n by rw [hsh2, get_put_ne (by omega)]).trans rq
  have ra : sh2.get h.n = _ := (show sh2.get h.n = sh.get h.n by rw [hsh2, get_put_ne (by omega)]).trans ((xx h.n (by omega)).trans ra3)
  have hnl : n - 1 < n := by omega
  obtain ⟨h8, hh8⟩ : ∃ g, g = sh2.put h.n (.cells [.sl h1.n 0 n (.ex n), .int .i64 0] 72 false) := ⟨_, rfl⟩
  have r8 : h8.get h.n = some (.cells [.sl h1.n 0 n (.ex n), .int .i64 0] 72 false) := by rw [hh8, get_put_same (H.get_lt ra)]
  have b8 : h8.get h1.n = some (.cells (wordsV (steepP n).c) 38 false) := by rw [hh8, get_put_ne (by omega)]; exact w2
  have hsz := sizes80_ok (n : Int) h1
  rw [show (decide (2 ≤ (n : Int)) && decide ((n : Int) ≤ 16)) = true by rw [Bool.and_eq_true, decide_eq_true_eq, decide_eq_true_eq]; omega] at hsz
  have hms : ms h1 38 2 [(.int .u16 0)] (.int .i64 n) (.int .i64 n) = some (.sl h1.n 0 n (.ex n), hm) := by
    simp only [ms]
    rw [if_pos ⟨by omega, by omega, by omega, by omega, trivial⟩, Int.toNat_natCast, zeros (soF), ← hhm]
  rw [w55, f55, s55]
  simp [nw, ← hh1, hsz, hms, bl, fillW, splice, wrN_of (o := 0) get_new_same, ← hh3, rd1_of r3, q1, p4, rd1_of rq, p0, zn1, hnl, hwr, hs2, ← hsh2, rdN_of (o := 0) (n := 2) rq2 (by simp), p2, wrN_of (o := 0) ra, ← hh8, rdN_of (o := 0) (n := 2) r8 (by simp)]
  refine ⟨_, rfl, ⟨.sl h1.n 0 n (.ex n), rfl, ?_, fun y hy => ?_⟩, ?_⟩
  · show SlR _ h8 _ _ 1 (tabN (stF n) n).length _
    rw [tabN_length]
    exact SlR.of b8 (by rw [wordsV_length, steepP, tabN_length]; omega) (show h.n ≤ h1.n by omega)
  · obtain ⟨i, hi, rfl⟩ := mem_tabN hy
    have := stF_le n i; omega
  · refine ⟨by rw [hh8, H.n_put, hsh2, H.n_put]; omega, fun c hc => ?_⟩
    rw [hh8, get_put_ne (by omega), hsh2, get_put_ne (by omega), xx c (by omega), x3.get c (by omega), xm.get c (by omega), x1.get c hc]
end Go.Proofs.Ytfjghgjkpenanaa
