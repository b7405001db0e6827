/- Texts of ours made one: Sl Sm Sn So Sp Sq Sr Ss St Su. -/
import Derived.Test.YtfjghgjkpenanaaSk
/- The kinds' shapes. -/
set_option linter.unusedVariables false
set_option linter.unusedSimpArgs false
set_option maxRecDepth 20000
namespace Go.Proofs.Ytfjghgjkpenanaa
open Go Go.Zf
open Go.Zf (wi64)

/-- Contexts, values, steep: of all kinds. -/
def SH : List (Nat × Nat × Bool) :=
  [(8, 10, false), (4, 8, false), (3, 2, false), (3, 2, false), (4, 13, false), (8, 7, false), (1, 13, false), (1, 14, false), (1, 8, false), (2, 16, true), (1, 2, false), (3, 3, false), (3, 9, false), (1, 2, false), (3, 3, false), (1, 2, false), (3, 4, false), (1, 4, false), (2, 11, true), (2, 8, false), (1, 3, false), (1, 2, false), (4, 2, false), (2, 5, false), (2, 7, false), (2, 9, false), (2, 11, false), (2, 3, true), (10, 4, true), (14, 4, true), (6, 2, false), (3, 2, false)]
def cx (k : Nat) : Nat := (SH.getD k (0, 0, false)).1
def vl (k : Nat) : Nat := (SH.getD k (0, 0, false)).2.1
def stp (k : Nat) : Bool := (SH.getD k (0, 0, false)).2.2
theorem SH_len : SH.length = 32 := rfl
theorem cx_le {k : Nat} (h : k < 32) : 1 ≤ cx k ∧ cx k ≤ 14 := by
  have : ∀ k, k < 32 → 1 ≤ cx k ∧ cx k ≤ 14 := by decide
  exact this k h
theorem vl_le {k : Nat} (h : k < 32) : 2 ≤ vl k ∧ vl k ≤ 16 := by
  have : ∀ k, k < 32 → 2 ≤ vl k ∧ vl k ≤ 16 := by decide
  exact this k h
def tri (s : Nat × Nat × Bool) : List V := [.int .i64 s.1, .int .i64 s.2.1, .bool s.2.2]
def triN (s : Nat × Nat × Bool) : List V := [.int .i64 s.1, .int .i64 s.2.1, .int .i64 (if s.2.2 then 1 else 0)]
def shV : List V := SH.flatMap tri
def rowV : List V := SH.flatMap triN
theorem flat3 {α : Type} (f : α → List V) (hf : ∀ a, (f a).length = 3) : ∀ (l : List α) (k : Nat) (a : α), l[k]? = some a → ((l.flatMap f).drop (k * 3)).take 3 = f a ∧ k * 3 + 3 ≤ (l.flatMap f).length
  | [], k, a, h => by simp at h
  | x :: l, 0, a, h => by
    simp at h; subst h
    rw [List.flatMap_cons, Nat.zero_mul, List.drop_zero, List.take_append_of_le_length (by rw [hf]; omega), List.take_of_length_le (by rw [hf]; omega)]
    exact ⟨rfl, by rw [List.length_append, hf]; omega⟩
  | x :: l, k + 1, a, h => by
    have ih := flat3 f hf l k a (by simpa using h)
    rw [List.flatMap_cons, List.drop_append, hf, List.drop_of_length_le (by rw [hf]; omega), List.nil_append, show (k + 1) * 3 - 3 = k * 3 by omega]
    exact ⟨ih.1, by rw [List.length_append, hf]; omega⟩
theorem SH_get {k : Nat} (h : k < 32) : SH[k]? = some (cx k, vl k, stp k) := by
  have : ∀ k, k < 32 → SH[k]? = some (cx k, vl k, stp k) := by decide
  exact this k h
theorem shV_at {k : Nat} (h : k < 32) : (shV.drop (k * 3)).take 3 = [.int .i64 (cx k), .int .i64 (vl k), .bool (stp k)] := (flat3 tri (fun _ => rfl) SH k _ (SH_get h)).1
theorem rowV_at {k : Nat} (h : k < 32) : (rowV.drop (k * 3)).take 3 = [.int .i64 (cx k), .int .i64 (vl k), .int .i64 (if stp k then 1 else 0)] := (flat3 triN (fun _ => rfl) SH k _ (SH_get h)).1
theorem shV_len : shV.length = 96 := by kernel_rfl
theorem rowV_len : rowV.length = 96 := by kernel_rfl
def zeroSh : List V := (List.replicate 32 [V.int .i64 0, V.int .i64 0, V.bool false]).flatten
theorem zeroSh_len : zeroSh.length = 96 := by kernel_rfl

theorem s53_eq (K : Oracle) (L : Looper) (h : H) : s53 K L ⟨[V.und], 0, V.und⟩ h = bf (stZ 96 (h.new (.cells zeroSh 96 false)) (.ptr h.n 0) (.agg shV)) fun _ h1 => some ⟨.rt, ⟨[.ptr h.n 0], 0, .ptr h.n 0⟩, h1⟩ := by
  have e1 : s53 K L ⟨[V.und], 0, V.und⟩ h = sq (bf (stZ 96 (h.new (.cells zeroSh 96 false)) (.ptr h.n 0) (.agg shV)) fun _ h1 => some ⟨.nm, ⟨[.ptr h.n 0], 0, .ptr h.n 0⟩, h1⟩) fun e h => some ⟨.rt, e, h⟩ := by kernel_rfl
  rw [e1]
  cases stZ 96 (h.new (.cells zeroSh 96 false)) (.ptr h.n 0) (.agg shV) with
  | none => rfl
  | some x => obtain ⟨a, b⟩ := x; rfl
theorem s48_eq (K : Oracle) (L : Looper) (h : H) : s48 K L ⟨[V.und], 0, V.und⟩ h = some ⟨.rt, ⟨[.sl h.n 0 32 (.ex 32)], 0, .sl h.n 0 32 (.ex 32)⟩, h.new (.cells rowV 90 false)⟩ := by kernel_rfl

theorem shapes53_ok (h : H) : RT (fun w h' => w = .agg shV ∧ Ext h h') (KW 53 [] h) := by
  obtain ⟨g, hg⟩ : ∃ g, g = (h.new (.cells zeroSh 96 false)).put h.n (.cells shV 96 false) := ⟨_, rfl⟩
  have g0 : g.get h.n = some (.cells shV 96 false) := by rw [hg, get_put_same (by rw [H.n_new]; omega)]
  have hw : (h.new (.cells zeroSh 96 false)).wrN h.n 0 shV = some g := by
    rw [wrN_of (o := 0) get_new_same (by rw [shV_len, zeroSh_len]; omega), hg, splice]
    simp [shV_len, zeroSh_len, List.drop_of_length_le]
  rw [w53, f53, s53_eq]
  simp [shV_len, hw, rdN_of (o := 0) (n := 96) g0 (by rw [shV_len]; omega)]
  exact ⟨by rw [List.take_of_length_le (by rw [shV_len]; omega)], by rw [hg]; exact ((Ext.refl h).new _).put (Nat.le_refl _) _⟩
theorem rows48_ok (h : H) : KW 48 [] h = some (.ret (.sl h.n 0 32 (.ex 32)), h.new (.cells rowV 90 false)) := by
  rw [w48, f48, s48_eq]; simp

theorem shape33_ok (k : Int) (h : H) : RT (fun w h' => w = (if 0 ≤ k ∧ k < 32 then .tup [.int .i64 (cx k.toNat), .int .i64 (vl k.toNat), .int .i64 0] else .tup [.int .i64 0, .int .i64 0, .int .i64 41]) ∧ Ext h h') (KW 33 [.int .i64 k] h) := by
  rw [w33, f33, s33]
  by_cases h1 : k < 0
  · simp [h1, gl_t]
    exact ⟨by rw [if_neg (by omega)], Ext.refl h⟩
  · by_cases h2 : 32 ≤ k
    · simp [h1, h2]
      exact ⟨by rw [if_neg (by omega)], Ext.refl h⟩
    · obtain ⟨w, g, e1, rfl, x1⟩ := (shapes53_ok h).elim
      obtain ⟨n, rfl⟩ : ∃ n : Nat, k = n := ⟨k.toNat, by omega⟩
      have hn : n < 32 := by omega
      have hix : ixN 32 3 (.agg shV) (.int .i64 (n : Int)) = some (.agg [.int .i64 (cx n), .int .i64 (vl n), .bool (stp n)]) := by
        simp only [ixN, Int.toNat_natCast]
        rw [if_pos ⟨by omega, by omega⟩, if_pos (by rw [shV_len]; omega), shV_at hn]
      obtain ⟨g2, hg2⟩ : ∃ g2, g2 = (g.new (.cells [.int .i64 0, .int .i64 0, .bool false] 95 false)).put g.n (.cells [.int .i64 (cx n), .int .i64 (vl n), .bool (stp n)] 95 false) := ⟨_, rfl⟩
      have r2 : g2.get g.n = some (.cells [.int .i64 (cx n), .int .i64 (vl n), .bool (stp n)] 95 false) := by rw [hg2, get_put_same (by rw [H.n_new]; omega)]
      simp [h1, h2, show ¬ 32 ≤ n by omega, e1, hix, nw, wrN_of (o := 0) get_new_same, splice, ← hg2, rd1_of r2]
      exact ⟨by rw [if_pos (by omega)], by rw [hg2]; exact (x1.new _).put x1.n _⟩

theorem shape68_ok (k : Int) (h : H) : RT (fun w h' => w = (if 0 ≤ k ∧ k < 32 then .tup [.int .i64 (cx k.toNat), .int .i64 (vl k.toNat), .int .i64 0] else .tup [.int .i64 0, .int .i64 0, .int .i64 41]) ∧ Ext h h') (KW 68 [.int .i64 k] h) := by
  rw [w68, f68, s68]
  by_cases h1 : k < 0
  · simp [h1, gl_t]
    exact ⟨by rw [if_neg (by omega)], Ext.refl h⟩
  · by_cases h2 : 32 ≤ k
    · simp [h1, h2]
      exact ⟨by rw [if_neg (by omega)], Ext.refl h⟩
    · obtain ⟨n, rfl⟩ : ∃ n : Nat, k = n := ⟨k.toNat, by omega⟩
      have hn : n < 32 := by omega
      have e1 := rows48_ok h
      obtain ⟨g, hg⟩ : ∃ g, g = h.new (.cells rowV 90 false) := ⟨_, rfl⟩
      have x1 : Ext h g := by rw [hg]; exact (Ext.refl h).new _
      have g0 : g.get h.n = some (.cells rowV 90 false) := by rw [hg, get_new_same]
      rw [← hg] at e1
      have hrd : g.rdN h.n (n * 3) 3 = some [.int .i64 (cx n), .int .i64 (vl n), .int .i64 (if stp n then 1 else 0)] := by
        rw [rdN_of g0 (by rw [rowV_len]; omega), rowV_at hn]
      obtain ⟨y, hy⟩ : ∃ y : Int, y = (if stp n then 1 else 0) := ⟨_, rfl⟩
      rw [← hy] at hrd
      obtain ⟨g2, hg2⟩ : ∃ g2, g2 = (g.new (.cells [.int .i64 0, .int .i64 0, .int .i64 0] 90 false)).put g.n (.cells [.int .i64 (cx n), .int .i64 (vl n), .int .i64 y] 90 false) := ⟨_, rfl⟩
      have r2 : g2.get g.n = some (.cells [.int .i64 (cx n), .int .i64 (vl n), .int .i64 y] 90 false) := by rw [hg2, get_put_same (by rw [H.n_new]; omega)]
      simp [h1, h2, show ¬ 32 ≤ n by omega, e1, show (n : Int) < 32 by omega, hrd, nw, wrN_of (o := 0) get_new_same, splice, ← hg2, rd1_of r2]
      exact ⟨rfl, by rw [hg2]; exact (x1.new _).put x1.n _⟩
end Go.Proofs.Ytfjghgjkpenanaa
/- Sets that are made: rows that grow. -/
set_option linter.unusedVariables false
set_option linter.unusedSimpArgs false
namespace Go.Proofs.Ytfjghgjkpenanaa
open Go Go.Zf
open Go.Zf (wi64)

/-! What sets may be, and the one that all begins with. -/
def SetOk (S : List (List Tb)) : Prop := S.length = 32 ∧ ∀ (k : Nat) (r : List Tb), S[k]? = some r → r.length = cx k ∧ ∀ (i : Nat) (t : Tb), r[i]? = some t → t.c.length = vl k ∧ TabOk t
noncomputable instance (S : List (List Tb)) : Decidable (SetOk S) := Classical.propDecidable _
def defT (k : Nat) : Tb := if stp k then steepP (vl k) else flatP (vl k)
def defR (k : Nat) : List Tb := List.replicate (cx k) (defT k)
def defS : List (List Tb) := (List.range 32).map defR
theorem tabN_nth (f : Nat → Nat) {m i : Nat} (h : i < m) : nth (tabN f m) i = f i := by
  rw [nth_of (by rw [tabN_length]; exact h)]; simp [tabN]
theorem flatP_ok {n : Nat} (h2 : 2 ≤ n) (h16 : n ≤ 16) : TabOk (flatP n) := by
  refine ⟨by simp only [flatP, tabN_length]; omega, by simp [flatP], ?_, ?_⟩
  · intro i hi
    simp only [flatP, tabN_length] at hi ⊢
    rw [tabN_nth _ (by omega), tabN_nth _ hi]
    exact Nat.div_le_div_right (Nat.mul_le_mul_left _ (by omega))
  · simp only [flatP, tabN_length]
    rw [tabN_nth _ (by omega), flF, show n - 1 + 1 = n by omega, Nat.mul_div_cancel _ (by omega)]
theorem steepP_ok {n : Nat} (h2 : 2 ≤ n) (h16 : n ≤ 16) : TabOk (steepP n) := by
  refine ⟨by simp only [steepP, tabN_length]; omega, by simp [steepP], ?_, ?_⟩
  · intro i hi
    simp only [steepP, tabN_length] at hi ⊢
    rw [tabN_nth _ (by omega), tabN_nth _ hi]
    have h1 := stF_le n i
    unfold stF at h1 ⊢
    rw [if_neg (by omega)] at h1 ⊢
    split
    · exact h1
    · have : 32768 / pw (i + 1 + 1) ≤ 32768 / pw (i + 1) := by
        rw [← half_div (i + 1) (by omega)]; exact Nat.div_le_self _ _
      exact Nat.sub_le_sub_left this _
  · simp only [steepP, tabN_length]
    rw [tabN_nth _ (by omega), stF, if_pos (by omega)]
theorem defT_ok {k : Nat} (hk : k < 32) : TabOk (defT k) ∧ (defT k).c.length = vl k := by
  have := vl_le hk
  unfold defT
  split
  · exact ⟨steepP_ok this.1 this.2, by simp [steepP, tabN_length]⟩
  · exact ⟨flatP_ok this.1 this.2, by simp [flatP, tabN_length]⟩
theorem defS_len : defS.length = 32 := by simp [defS]
theorem defS_get {k : Nat} (hk : k < 32) : defS[k]? = some (defR k) := by simp [defS, hk]
theorem defS_ok : SetOk defS := by
  refine ⟨defS_len, fun k r hr => ?_⟩
  have hk : k < 32 := by
    by_cases e : k < 32
    · exact e
    · rw [List.getElem?_eq_none (by rw [defS_len]; omega)] at hr; cases hr
  rw [defS_get hk] at hr
  cases hr
  refine ⟨by simp [defR], fun i t ht => ?_⟩
  have : t = defT k := by
    unfold defR at ht
    rw [List.getElem?_replicate] at ht
    split at ht
    · cases ht; rfl
    · cases ht
  subst this
  exact ⟨(defT_ok hk).2, (defT_ok hk).1⟩

/-! Rows and sets in blocks of their own. -/
def RowW (D : Nat → Prop) (h : H) (v : V) (b : Nat) (r : List Tb) : Prop :=
  (v = .nils ∧ r = []) ∨ ∃ k c, v = .sl b 0 r.length k ∧ h.get b = some (.cells c tT false) ∧ c.length = r.length * 2 ∧ D b ∧ Els D h c r ∧ CapOk 2 r.length k
def RowsW (D : Nat → Prop) (h : H) (cs : List V) (S : List (List Tb)) (B : Nat → Nat) : Prop :=
  (∀ (k : Nat) (r : List Tb), S[k]? = some r → ∃ vr, cs[k]? = some vr ∧ RowW D h vr (B k) r) ∧ ∀ i j, i < j → j < S.length → B i < B j
def SetW (D : Nat → Prop) (h : H) (v : V) (S : List (List Tb)) : Prop :=
  ∃ cs B, ((v = .nils ∧ S = [] ∧ cs = []) ∨ ∃ b k, v = .sl b 0 S.length k ∧ h.get b = some (.cells cs tR false) ∧ cs.length = S.length ∧ D b ∧ CapOk 1 S.length k) ∧ RowsW D h cs S B

section setw
variable {D E : Nat → Prop} {h h' : H} {v : V}
theorem RowW.rowR {b : Nat} {r : List Tb} (a : RowW D h v b r) : RowR D h v r := by
  rcases a with ⟨rfl, rfl⟩ | ⟨k, c, h1, h2, h3, h4, h5, h6⟩
  · exact ⟨[], SlR.nil _ _ _ _, Els.nil _ _⟩
  · exact ⟨c, by rw [h1]; exact SlR.of h2 h3 h4 h6, h5⟩
theorem RowW.keep {b : Nat} {r : List Tb} (a : RowW D h v b r) (hk : ∀ b c t, D b → t = tU ∨ t = tT → h.get b = some (.cells c t false) → h'.get b = h.get b) : RowW D h' v b r := by
  rcases a with a | ⟨k, c, h1, h2, h3, h4, h5, h6⟩
  · exact .inl a
  · exact .inr ⟨k, c, h1, by rw [hk b c tT h4 (.inr rfl) h2, h2], h3, h4, h5.keep (fun b c hd hb => hk b c tU hd (.inl rfl) hb), h6⟩
theorem RowW.mono {b : Nat} {r : List Tb} (a : RowW D h v b r) (hd : ∀ b, b < h.n → D b → E b) : RowW E h v b r := by
  rcases a with a | ⟨k, c, h1, h2, h3, h4, h5, h6⟩
  · exact .inl a
  · exact .inr ⟨k, c, h1, h2, h3, hd _ (H.get_lt h2) h4, h5.mono hd, h6⟩
theorem RowsW.keep {cs : List V} {S : List (List Tb)} {B : Nat → Nat} (a : RowsW D h cs S B) (hk : ∀ b c t, D b → t = tU ∨ t = tT → h.get b = some (.cells c t false) → h'.get b = h.get b) : RowsW D h' cs S B :=
  ⟨fun k r hr => by obtain ⟨vr, h1, h2⟩ := a.1 k r hr; exact ⟨vr, h1, h2.keep hk⟩, a.2⟩
theorem RowsW.mono {cs : List V} {S : List (List Tb)} {B : Nat → Nat} (a : RowsW D h cs S B) (hd : ∀ b, b < h.n → D b → E b) : RowsW E h cs S B :=
  ⟨fun k r hr => by obtain ⟨vr, h1, h2⟩ := a.1 k r hr; exact ⟨vr, h1, h2.mono hd⟩, a.2⟩
theorem SetW.keep {S : List (List Tb)} (a : SetW D h v S) (hk : ∀ b, D b → b < h.n → h'.get b = h.get b) : SetW D h' v S := by
  obtain ⟨cs, B, h1, h2⟩ := a
  refine ⟨cs, B, ?_, h2.keep fun b c t hd _ hb => hk b hd (H.get_lt hb)⟩
  rcases h1 with a | ⟨b, k, a1, a2, a3, a4, a5⟩
  · exact .inl a
  · exact .inr ⟨b, k, a1, by rw [hk b a4 (H.get_lt a2), a2], a3, a4, a5⟩
theorem SetW.ext {S : List (List Tb)} (a : SetW D h v S) (x : Ext h h') : SetW D h' v S := a.keep fun b _ hb => x.get b hb
theorem SetW.mono {S : List (List Tb)} (a : SetW D h v S) (hd : ∀ b, b < h.n → D b → E b) : SetW E h v S := by
  obtain ⟨cs, B, h1, h2⟩ := a
  refine ⟨cs, B, ?_, h2.mono hd⟩
  rcases h1 with a | ⟨b, k, a1, a2, a3, a4, a5⟩
  · exact .inl a
  · exact .inr ⟨b, k, a1, a2, a3, hd _ (H.get_lt a2) a4, a5⟩
theorem SetW.setR {S : List (List Tb)} (a : SetW D h v S) : SetR D h v S := by
  obtain ⟨cs, B, h1, h2⟩ := a
  refine ⟨cs, ?_, fun k r hr => by obtain ⟨vr, k1, k2⟩ := h2.1 k r hr; exact ⟨vr, k1, k2.rowR⟩⟩
  rcases h1 with ⟨rfl, rfl, rfl⟩ | ⟨b, k, rfl, a2, a3, a4, a5⟩
  · exact SlR.nil _ _ _ _
  · exact SlR.of a2 (by omega) a4 a5

/-- A table more. -/
theorem pushT {p : Nat} {g : H} {cs : List V} {r : List Tb} {vc : V} {t : Tb} (G : GrowV p g v tT 2 cs r.length) (e : Els D g cs r) (u : U16 D g vc t.c) (hp : p ≤ g.n) (hl : r.length < 1000) :
    ∃ v' g', apZ 72 2 32 (g.new (.cells [vc, .int .i64 t.n] 72 false)) v (.sl g.n 0 1 (.ex 1)) = some (v', g') ∧ GrowV p g' v' tT 2 (cs ++ [vc, .int .i64 t.n]) (r ++ [t]).length ∧ Els D g' (cs ++ [vc, .int .i64 t.n]) (r ++ [t]) ∧ g.n ≤ g'.n ∧ (∀ c, c < g.n → (∀ o n k, v ≠ .sl c o n k) → g'.get c = g.get c) := by
  have g1 := G.ext ((Ext.refl g).new (.cells [vc, .int .i64 t.n] 72 false))
  obtain ⟨v', h', k1, k2, k3, k4, k5⟩ := apZ_grow (y := .sl g.n 0 1 (.ex 1)) (m := 1) (new := [vc, .int .i64 t.n]) (bytes := 32) g1 (by rw [H.n_new]; omega) rfl (by
    show H.rdN _ _ _ _ = _
    rw [rdN_of get_new_same (by simp)]; rfl) (by simp) (by omega)
  have hcs : cs.length = r.length * 2 := by
    rcases G with ⟨_, h2, rfl⟩ | ⟨b, _, _, h3, _⟩
    · simp [h2]
    · exact h3
  have hkeep : ∀ c, c < g.n → (∀ o n k, v ≠ .sl c o n k) → h'.get c = g.get c := fun c hc hv => by rw [k4 c (by rw [H.n_new]; omega) hv, get_new_lt hc]
  refine ⟨v', h', k1, by rw [List.length_append]; exact k2, (e.snoc hcs u).keep fun b c hd hb => hkeep b (H.get_lt hb) ?_, by rw [H.n_new] at k3; omega, hkeep⟩
  intro o n k ev
  rcases G with ⟨h1, _, _⟩ | ⟨b', h1, h2, _⟩
  · rw [h1] at ev; cases ev
  · rw [h1] at ev; cases ev; rw [h2] at hb; cases hb

/-- A row more. -/
theorem pushR {p q : Nat} {g : H} {cs : List V} {S : List (List Tb)} {B : Nat → Nat} {vr : V} {r : List Tb} (G : GrowV p g v tR 1 cs S.length) (e : RowsW D g cs S B) (hB : ∀ i, i < S.length → B i < q) (R : ∃ bb, RowW D g vr bb r ∧ q ≤ bb ∧ bb ≤ g.n) (hp : p ≤ g.n) (hq : q ≤ g.n) (hl : S.length < 1000) :
    ∃ v' g' B', apZ 75 1 24 (g.new (.cells [vr] 75 false)) v (.sl g.n 0 1 (.ex 1)) = some (v', g') ∧ GrowV p g' v' tR 1 (cs ++ [vr]) (S ++ [r]).length ∧ RowsW D g' (cs ++ [vr]) (S ++ [r]) B' ∧ (∀ i, i < (S ++ [r]).length → B' i < g'.n) ∧ g.n ≤ g'.n ∧ (∀ c, c < g.n → (∀ o n k, v ≠ .sl c o n k) → g'.get c = g.get c) := by
  have g1 := G.ext ((Ext.refl g).new (.cells [vr] 75 false))
  obtain ⟨v', g', k1, k2, k3, k4', k5⟩ := apZ_grow (y := .sl g.n 0 1 (.ex 1)) (m := 1) (new := [vr]) (bytes := 24) g1 (by rw [H.n_new]; omega) rfl (by
    show H.rdN _ _ _ _ = _
    rw [rdN_of get_new_same (by simp)]; rfl) (by simp) (by omega)
  have k4 : ∀ c, c < g.n → (∀ o n k, v ≠ .sl c o n k) → g'.get c = g.get c := fun c hc hv => by rw [k4' c (by rw [H.n_new]; omega) hv, get_new_lt hc]
  rw [H.n_new] at k3
  have hcs : cs.length = S.length := by
    rcases G with ⟨_, h2, rfl⟩ | ⟨b, _, _, h3, _⟩
    · simp [h2]
    · omega
  have hty : ∀ b c t, D b → t = tU ∨ t = tT → g.get b = some (.cells c t false) → g'.get b = g.get b := by
    intro b c t hd ht hb
    refine k4 b (H.get_lt hb) ?_
    intro o n k ev
    rcases G with ⟨h1, _, _⟩ | ⟨b', h1, h2, _⟩
    · rw [h1] at ev; cases ev
    · rw [h1] at ev; cases ev; rw [h2] at hb
      simp only [Option.some.injEq, Blk.cells.injEq] at hb
      rcases ht with rfl | rfl <;> (obtain ⟨_, hb, _⟩ := hb; cases hb)
  obtain ⟨bb, hbb, hbq, hbn⟩ : ∃ bb, RowW D g vr bb r ∧ q ≤ bb ∧ bb < g'.n := by
    obtain ⟨bb, a1, a2, a3⟩ := R
    exact ⟨bb, a1, a2, by omega⟩
  refine ⟨v', g', fun i => if i = S.length then bb else B i, k1, by rw [List.length_append]; exact k2, ⟨fun k r' hr => ?_, fun i j hij hj => ?_⟩, fun i hi => ?_, by omega, k4⟩
  · by_cases ek : k < S.length
    · rw [List.getElem?_append_left ek] at hr
      obtain ⟨vr', j1, j2⟩ := e.1 k r' hr
      refine ⟨vr', by rw [List.getElem?_append_left (by omega), j1], ?_⟩
      simp only [if_neg (show k ≠ S.length by omega)]
      exact j2.keep hty
    · have ek2 : k = S.length := by
        by_cases e2 : k = S.length
        · exact e2
        · rw [List.getElem?_eq_none (by simp; omega)] at hr; cases hr
      subst ek2
      simp at hr
      subst hr
      refine ⟨vr, by rw [List.getElem?_append_right (by omega), hcs]; simp, ?_⟩
      simp only [if_true]
      exact hbb.keep hty
  · simp only [List.length_append, List.length_cons, List.length_nil] at hj
    by_cases ej : j = S.length
    · simp only [if_neg (show i ≠ S.length by omega), if_pos ej]
      have := hB i (by omega); omega
    · simp only [if_neg (show i ≠ S.length by omega), if_neg ej]
      exact e.2 i j hij (by omega)
  · simp only [List.length_append, List.length_cons, List.length_nil] at hi
    by_cases ei : i = S.length
    · simp only [if_pos ei]; exact hbn
    · simp only [if_neg ei]
      have := hB i (by omega); omega
theorem growW {q : Nat} {g : H} {v : V} {rs : List V} {r : List Tb} (R : GrowV q g v tT 2 rs r.length) (re : Els D g rs r) (hD : ∀ b, q ≤ b → D b) (hq : q ≤ g.n) : ∃ bb, RowW D g v bb r ∧ q ≤ bb ∧ bb ≤ g.n := by
  rcases R with ⟨h1, h2, h3⟩ | ⟨b, h1, h2, h3, h4⟩
  · exact ⟨q, .inl ⟨h1, List.length_eq_zero_iff.mp h2⟩, Nat.le_refl _, hq⟩
  · exact ⟨b, .inr ⟨_, rs, h1, h2, h3, hD b h4, re, rfl⟩, h4, by have := H.get_lt h2; omega⟩

/-! One table of a row is put. -/
theorem splice_get {cs : List V} {o j : Nat} {x y : V} (hl : o + 2 ≤ cs.length) : (splice cs o [x, y])[j]? = if j = o then some x else if j = o + 1 then some y else cs[j]? := by
  unfold splice
  by_cases h1 : j < o
  · rw [List.getElem?_append_left (by rw [List.length_take]; omega), List.getElem?_take, if_pos h1, if_neg (by omega), if_neg (by omega)]
  · rw [List.getElem?_append_right (by rw [List.length_take]; omega), List.length_take, Nat.min_eq_left (by omega)]
    by_cases h2 : j = o
    · rw [if_pos h2, h2, Nat.sub_self]; rfl
    · by_cases h3 : j = o + 1
      · rw [if_neg h2, if_pos h3, h3, Nat.add_sub_cancel_left]; rfl
      · rw [if_neg h2, if_neg h3, List.getElem?_append_right (by simp; omega), List.getElem?_drop]
        congr 1
        simp; omega
theorem splice_len {cs : List V} {o : Nat} {vs : List V} (hl : o + vs.length ≤ cs.length) : (splice cs o vs).length = cs.length := by
  unfold splice; simp; omega
theorem Els.set {cs : List V} {r : List Tb} {i : Nat} {vc : V} {t : Tb} (a : Els D h cs r) (hl : cs.length = r.length * 2) (hi : i < r.length) (u : U16 D h vc t.c) : Els D h (splice cs (i * 2) [vc, .int .i64 t.n]) (r.set i t) := by
  intro j s hj
  rw [List.getElem?_set] at hj
  rw [splice_get (by omega), splice_get (by omega)]
  by_cases e : i = j
  · subst e
    rw [if_pos rfl, if_pos hi] at hj
    cases hj
    exact ⟨vc, by rw [if_pos (by omega)], by rw [if_neg (by omega), if_pos (by omega)], u⟩
  · rw [if_neg e] at hj
    obtain ⟨v, h1, h2, h3⟩ := a j s hj
    exact ⟨v, by rw [if_neg (by omega), if_neg (by omega), h1], by rw [if_neg (by omega), if_neg (by omega), h2], h3⟩
end setw
end Go.Proofs.Ytfjghgjkpenanaa
/- The document's default set. -/
set_option linter.unusedVariables false
set_option linter.unusedSimpArgs false
set_option maxRecDepth 20000
namespace Go.Proofs.Ytfjghgjkpenanaa
open Go Go.Zf
open Go.Zf (wi64)

/-- A row that grows, from q on. -/
def RowG (q : Nat) (g : H) (v : V) (r : List Tb) : Prop := ∃ cs, GrowV q g v tT 2 cs r.length ∧ Els (fun b => q ≤ b) g cs r
theorem RowG.nil (q : Nat) (g : H) : RowG q g .nils [] := ⟨[], GrowV.nil _ _ _ _, Els.nil _ _⟩
theorem RowG.ext {q : Nat} {g g' : H} {v : V} {r : List Tb} (a : RowG q g v r) (x : Ext g g') : RowG q g' v r := by
  obtain ⟨cs, h1, h2⟩ := a; exact ⟨cs, h1.ext x, h2.ext x⟩
theorem RowG.len {q : Nat} {g : H} {v : V} {r : List Tb} (a : RowG q g v r) : lnS v = some (.int .i64 r.length) := by
  obtain ⟨cs, h1, h2⟩ := a; exact h1.len
theorem RowG.push {q : Nat} {g : H} {v vc : V} {r : List Tb} {t : Tb} (a : RowG q g v r) (u : U16 (fun b => q ≤ b) g vc t.c) (hq : q ≤ g.n) (hl : r.length < 1000) :
    ∃ v' g', apZ 72 2 32 (g.new (.cells [vc, .int .i64 t.n] 72 false)) v (.sl g.n 0 1 (.ex 1)) = some (v', g') ∧ RowG q g' v' (r ++ [t]) ∧ g.n ≤ g'.n ∧ ∀ c, c < q → g'.get c = g.get c := by
  obtain ⟨cs, h1, h2⟩ := a
  obtain ⟨v', g', k1, k2, k3, k4, k5⟩ := pushT h1 h2 u hq hl
  exact ⟨v', g', k1, ⟨_, k2, k3⟩, k4, fun c hc => k5 c (by omega) (h1.fresh.ne hc)⟩

structure I24 (h0 : H) (k q R : Nat) (p2 p3 : Nat) (n : Nat) (e : E) (g : H) : Prop where
  hn : n ≤ cx k
  x : ∀ c, c < q → g.get c = h0.get c
  gn : q ≤ g.n
  r : ∃ v, e.s [0, 1, 2, 3, 4, 5, 6] 4 = v ∧ RowG q g v (List.replicate (cx k - n) (defT k))
  e0 : e.s [0, 1, 2, 3, 4, 5, 6] 0 = .ptr p2 0
  e1 : e.s [0, 1, 2, 3, 4, 5, 6] 1 = .ptr p3 0
  e2 : e.s [0, 1, 2, 3, 4, 5, 6] 2 = .sl R 0 32 (.ex 32)
  e3 : e.s [0, 1, 2, 3, 4, 5, 6] 3 = .int .i64 k
  e5 : e.s [0, 1, 2, 3, 4, 5, 6] 5 = .int .i64 ((cx k - n : Nat) : Int)

theorem rowV_at3 {k j : Nat} (h : k < 32) (hj : j < 3) : rowV[k * 3 + j]? = [V.int .i64 (cx k), .int .i64 (vl k), .int .i64 (if stp k then 1 else 0)][j]? := by
  have := rowV_at h
  rw [← this, List.getElem?_take, if_pos hj, List.getElem?_drop]

theorem loopD24 {h0 : H} {k q R p2 p3 : Nat} (hk : k < 32) (hR : h0.get R = some (.cells rowV 90 false)) (hRq : R < q) {e : E} {g : H} (hi : I24 h0 k q R p2 p3 (cx k) e g) :
    ∃ e' g', loopZ (l24_0 KW loopZ) e g = some ⟨.ex 2, e', g'⟩ ∧ I24 h0 k q R p2 p3 0 e' g' := by
  have hv := vl_le hk
  have hc14 := cx_le hk
  have loop := loop_run (body := l24_0 KW loopZ) (I24 h0 k q R p2 p3) (fun s => s.x = .ex 2 ∧ I24 h0 k q R p2 p3 0 s.e s.h)
    (fun n e g hi => by
      obtain ⟨hn, x, gn, ⟨v, e4, G⟩, e0, e1, e2, e3, e5⟩ := hi
      have hRg : g.get R = some (.cells rowV 90 false) := by rw [x R hRq, hR]
      have q0 := rowV_at3 hk (show 0 < 3 by omega)
      have q1 := rowV_at3 hk (show 1 < 3 by omega)
      have q2 := rowV_at3 hk (show 2 < 3 by omega)
      simp at q0 q1 q2
      cases n with
      | zero =>
        simp [l24_0, e2, e3, hk, show (k : Int) < 32 by omega, rd1_of hRg, q0, e5]
        exact ⟨rfl, hn, x, gn, ⟨v, by simp [e4], G⟩, by simp [e0], by simp [e1], by simp [e2], by simp [e3], by simp [e5]⟩
      | succ n =>
        obtain ⟨c, hc⟩ : ∃ c, c = cx k - (n + 1) := ⟨_, rfl⟩
        have hc2 : cx k - n = c + 1 := by omega
        rw [← hc] at e5 G
        have z1 : IntKind.i64.wrap ((c : Int) + 1) = c + 1 := wi64 (by omega) (by omega)
        obtain ⟨w, g1, a1, vt, rfl, ⟨vc, rfl, U⟩, x1⟩ := (flat49_ok hv.1 hv.2 g).elim
        obtain ⟨g2, hg2⟩ : ∃ g2, g2 = (g1.new (.cells [.nils, .int .i64 0] 72 false)).put g1.n (.cells [vc, .int .i64 0] 72 false) := ⟨_, rfl⟩
        have x2 : Ext g1 g2 := by rw [hg2]; exact ((Ext.refl g1).new _).put (Nat.le_refl _) _
        have n2 : g2.n = g1.n + 1 := by rw [hg2, H.n_put, H.n_new]
        have b2 : g2.get g1.n = some (.cells [vc, .int .i64 0] 72 false) := by rw [hg2, get_put_same (by rw [H.n_new]; omega)]
        have hRg2 : g2.get R = _ := (x2.get _ (by have := H.get_lt hRg; have := x1.n; omega)).trans ((x1.get _ (H.get_lt hRg)).trans hRg)
        have n1 := x1.n
        cases hs : stp k with
        | false =>
          rw [hs] at q2
          simp at q2
          have hT : defT k = flatP (vl k) := by rw [defT, hs]; rfl
          have U2 : U16 (fun b => q ≤ b) g2 vc (defT k).c := by rw [hT]; exact (U.ext x2).mono fun b _ hb => Nat.le_trans gn hb
          obtain ⟨v', g3, c1, c2, c3, c4⟩ := ((G.ext x1).ext x2).push U2 (by omega) (by simp; omega)
          rw [show (defT k).n = 0 by rw [hT]; rfl] at c1
          simp [l24_0, e2, e3, hk, show (k : Int) < 32 by omega, rd1_of hRg, q0, e5, show c < cx k by omega, show (c : Int) < cx k by omega, q1, a1, nw, wrN_of (o := 0) get_new_same, splice, flatP, ← hg2, rd1_of hRg2, q2, rdN_of (o := 0) (n := 2) b2 (by simp), bs, fillW, e4, c1, z1]
          exact ⟨n, Nat.lt_succ_self n, by omega, fun b hb => by rw [c4 b hb, x2.get b (by omega), x1.get b (by omega), x b hb], by omega, ⟨v', by simp, by rw [hc2, List.replicate_succ']; exact c2⟩, by simp [e0], by simp [e1], by simp [e2], by simp [e3], by simp [hc2]⟩
        | true =>
          rw [hs] at q2
          simp at q2
          have hT : defT k = steepP (vl k) := by rw [defT, hs]; rfl
          obtain ⟨w, g4, a4, vt, rfl, ⟨vc4, rfl, U4⟩, x4⟩ := (steep50_ok hv.1 hv.2 g2).elim
          have b4 : g4.get g1.n = _ := (x4.get _ (H.get_lt b2)).trans b2
          obtain ⟨g5, hg5⟩ : ∃ g5, g5 = g4.put g1.n (.cells [vc4, .int .i64 0] 72 false) := ⟨_, rfl⟩
          have b5 : g5.get g1.n = some (.cells [vc4, .int .i64 0] 72 false) := by rw [hg5, get_put_same (H.get_lt b4)]
          have n4 := x4.n
          have n5 : g5.n = g4.n := by rw [hg5, H.n_put]
          have U5 : U16 (fun b => q ≤ b) g5 vc4 (defT k).c := by
            rw [hT]
            refine (U4.keep fun b c hb hbc => ?_).mono fun b _ hb => Nat.le_trans gn (by omega)
            rw [hg5, get_put_ne]; omega
          have G5 : RowG q g5 v (List.replicate c (defT k)) := by
            obtain ⟨cs, G1, G2⟩ := ((G.ext x1).ext x2).ext x4
            have hvu := G.elim fun cs hh => hh.1.under
            refine ⟨cs, G1.keep fun c o m k' ev => ?_, G2.keep fun b c hb hbc => ?_⟩
            · rw [hg5, get_put_ne]; have := hvu _ _ _ _ ev; omega
            · rw [hg5, get_put_ne]; intro e; subst e; rw [b4] at hbc; cases hbc
          obtain ⟨v', g3, c1, c2, c3, c4⟩ := G5.push U5 (by omega) (by simp; omega)
          rw [show (defT k).n = 0 by rw [hT]; rfl] at c1
          simp [l24_0, e2, e3, hk, show (k : Int) < 32 by omega, rd1_of hRg, q0, e5, show c < cx k by omega, show (c : Int) < cx k by omega, q1, a1, nw, wrN_of (o := 0) get_new_same, splice, flatP, ← hg2, rd1_of hRg2, q2, a4, steepP, wrN_of (o := 0) b4, ← hg5, rdN_of (o := 0) (n := 2) b5 (by simp), bs, fillW, e4, c1, z1]
          exact ⟨n, Nat.lt_succ_self n, by omega, fun b hb => by rw [c4 b hb, hg5, get_put_ne (by omega), x4.get b (by omega), x2.get b (by omega), x1.get b (by omega), x b hb], by omega, ⟨v', by simp, by rw [hc2, List.replicate_succ']; exact c2⟩, by simp [e0], by simp [e1], by simp [e2], by simp [e3], by simp [hc2]⟩)
  obtain ⟨⟨x, e', g'⟩, r1, r2, r3⟩ := loop (cx k) e g hi
  simp only at r2 r3
  subst r2
  exact ⟨e', g', r1, r3⟩

def defK (k : Nat) : List (List Tb) := (List.range k).map defR
theorem defK_len (k : Nat) : (defK k).length = k := by simp [defK]
theorem defK_succ (k : Nat) : defK (k + 1) = defK k ++ [defR k] := by simp [defK, List.range_succ]

/-- A set that grows in a box at Q: its rows from p on. -/
def SetG (p Q : Nat) (g : H) (S : List (List Tb)) : Prop :=
  ∃ ov cs B, g.get Q = some (.cells [ov] 25 false) ∧ GrowV p g ov tR 1 cs S.length ∧ RowsW (fun b => p ≤ b) g cs S B ∧ ∀ i, i < S.length → B i < g.n
theorem SetG.keep {p Q : Nat} {g g' : H} {S : List (List Tb)} (a : SetG p Q g S) (hQ : Q < p) (hn : g.n ≤ g'.n) (hk : ∀ c, c < g.n → g'.get c = g.get c) : SetG p Q g' S := by
  obtain ⟨ov, cs, B, h1, h2, h3, h4⟩ := a
  exact ⟨ov, cs, B, by rw [hk _ (H.get_lt h1), h1], h2.keep fun c o m k e => hk c (h2.under _ _ _ _ e), h3.keep fun b c t _ _ hb => hk b (H.get_lt hb), fun i hi => by have := h4 i hi; omega⟩
/-- A row more. -/
theorem SetG.push {p Q : Nat} {g g' : H} {S : List (List Tb)} {v : V} {r : List Tb} (a : SetG p Q g S) (hQ : Q < p) (hg : ∀ c, c < g.n → g'.get c = g.get c) (hn : g.n ≤ g'.n) (hp : p ≤ g.n) (R : ∃ bb, RowW (fun b => p ≤ b) g' v bb r ∧ g.n ≤ bb ∧ bb ≤ g'.n) (hl : S.length < 1000) :
    ∃ ov v' g1 g2, g'.get Q = some (.cells [ov] 25 false) ∧ apZ 75 1 24 (g'.new (.cells [v] 75 false)) ov (.sl g'.n 0 1 (.ex 1)) = some (v', g1) ∧ g1.wr1 Q 0 v' = some g2 ∧ (∀ h b o, stZ 1 h (.ptr b o) v' = (h.wr1 b o v').bind fun h' => some (.und, h')) ∧ SetG p Q g2 (S ++ [r]) ∧ (∀ c, c < p → c ≠ Q → g2.get c = g.get c) ∧ g'.n ≤ g2.n ∧ (∀ {β : Type} (k : Option β), ck (some ov) ov k = k) := by
  obtain ⟨ov, cs, B, h1, h2, h3, h4⟩ := a
  replace h2 : GrowV p g' ov tR 1 cs S.length := h2.keep fun c o m k e => hg c (h2.under _ _ _ _ e)
  replace h3 : RowsW (fun b => p ≤ b) g' cs S B := h3.keep fun b c t _ _ hb => hg b (H.get_lt hb)
  replace h1 : g'.get Q = some (.cells [ov] 25 false) := by rw [hg _ (H.get_lt h1), h1]
  obtain ⟨v', g1, B', k1, k2, k3, k4, k5, k6⟩ := pushR (q := g.n) h2 h3 h4 R (by omega) hn hl
  have hQ1 : g1.get Q = some (.cells [ov] 25 false) := by rw [k6 Q (by omega) (h2.fresh.ne hQ), h1]
  obtain ⟨g2, hg2⟩ : ∃ g2, g2 = g1.put Q (.cells [v'] 25 false) := ⟨_, rfl⟩
  have n2 : g2.n = g1.n := by rw [hg2, H.n_put]
  refine ⟨ov, v', g1, g2, h1, k1, by rw [wr1_of hQ1 (by simp), hg2]; rfl, k2.stZ, ⟨v', cs ++ [v], B', by rw [hg2, get_put_same (H.get_lt hQ1)], ?_, ?_, fun i hi => by have := k4 i hi; omega⟩, fun c hc hcq => by rw [hg2, get_put_ne hcq, k6 c (by omega) (h2.fresh.ne hc), hg c (by omega)], by omega, fun k => by simp [ck, h2.same]⟩
  · rw [hg2]; exact k2.put (k2.fresh.ne hQ)
  · refine k3.keep fun b c t hb ht hbc => ?_
    rw [hg2, get_put_ne]; rintro rfl; have hb : p ≤ b := hb; omega

theorem RowG.cells {q : Nat} {g : H} {v : V} {r : List Tb} (a : RowG q g v r) : V.cells v = some [v] := by
  obtain ⟨cs, h1, h2⟩ := a; exact h1.cells
theorem RowG.rowW {q : Nat} {D : Nat → Prop} {g : H} {v : V} {r : List Tb} (a : RowG q g v r) (hq : q ≤ g.n) (hD : ∀ b, q ≤ b → D b) : ∃ bb, RowW D g v bb r ∧ q ≤ bb ∧ bb ≤ g.n := by
  obtain ⟨cs, h1, h2⟩ := a; exact growW h1 (h2.mono fun b _ hb => hD b hb) hD hq
theorem SetG.nil {p Q : Nat} {g : H} (h : g.get Q = some (.cells [.nils] 25 false)) : SetG p Q g [] :=
  ⟨.nils, [], fun _ => 0, h, GrowV.nil _ _ _ _, ⟨fun k r hr => by simp at hr, fun i j _ hj => by simp at hj⟩, fun i hi => by simp at hi⟩
theorem SetG.setW {p Q : Nat} {g : H} {S : List (List Tb)} (a : SetG p Q g S) : ∃ v, g.get Q = some (.cells [v] 25 false) ∧ SetW (fun b => p ≤ b) g v S := by
  obtain ⟨ov, cs, B, h1, h2, h3, h4⟩ := a
  refine ⟨ov, h1, cs, B, ?_, h3⟩
  rcases h2 with ⟨e1, e2, e3⟩ | ⟨b, e1, e2, e3, e4⟩
  · exact .inl ⟨e1, List.length_eq_zero_iff.mp e2, e3⟩
  · exact .inr ⟨b, _, e1, e2, by omega, e4, rfl⟩

structure O24 (h0 : H) (P Q R : Nat) (n : Nat) (e : E) (g : H) : Prop where
  hn : n ≤ 32
  x : ∀ c, c < h0.n → c ≠ Q → g.get c = h0.get c
  gn : h0.n ≤ g.n
  b : SetG h0.n Q g (defK (32 - n))
  e0 : e.s [0, 1, 2, 3, 4, 5, 6] 0 = .ptr P 0
  e1 : e.s [0, 1, 2, 3, 4, 5, 6] 1 = .ptr Q 0
  e2 : e.s [0, 1, 2, 3, 4, 5, 6] 2 = .sl R 0 32 (.ex 32)
  e3 : e.s [0, 1, 2, 3, 4, 5, 6] 3 = .int .i64 ((32 - n : Nat) : Int)

theorem default24_ok (h : H) : RT (fun w h' => ∃ v, w = .agg [v] ∧ SetW (fun b => h.n ≤ b) h' v defS ∧ Ext h h') (KW 24 [] h) := by
  obtain ⟨h1, hh1⟩ : ∃ g, g = h.new (.cells [.nils] 25 false) := ⟨_, rfl⟩
  obtain ⟨h2, hh2⟩ : ∃ g, g = h1.new (.cells [.nils] 25 false) := ⟨_, rfl⟩
  obtain ⟨h3, hh3⟩ : ∃ g, g = h2.new (.cells rowV 90 false) := ⟨_, rfl⟩
  have x1 : Ext h h1 := by rw [hh1]; exact (Ext.refl h).new _
  have x2 : Ext h1 h2 := by rw [hh2]; exact (Ext.refl h1).new _
  have x3 : Ext h2 h3 := by rw [hh3]; exact (Ext.refl h2).new _
  have n1 : h1.n = h.n + 1 := by rw [hh1, H.n_new]
  have n2 : h2.n = h1.n + 1 := by rw [hh2, H.n_new]
  have n3 : h3.n = h2.n + 1 := by rw [hh3, H.n_new]
  have gP : h3.get h.n = some (.cells [.nils] 25 false) := by rw [x3.get _ (by omega), x2.get _ (by omega), hh1, get_new_same]
  have gQ : h3.get h1.n = some (.cells [.nils] 25 false) := by rw [x3.get _ (by omega), hh2, get_new_same]
  have gR : h3.get h2.n = some (.cells rowV 90 false) := by rw [hh3, get_new_same]
  have e48 := rows48_ok h2
  rw [← hh3] at e48
  have loop := loop_run (body := l24_1 KW loopZ) (O24 h3 h.n h1.n h2.n) (fun s => s.x = .ex 0 ∧ O24 h3 h.n h1.n h2.n 0 s.e s.h)
    (fun n e g hi => by
      obtain ⟨hn, x, gn, b, e0, e1, e2, e3⟩ := hi
      cases n with
      | zero =>
        simp [l24_1, e2, e3]
        exact ⟨rfl, hn, x, gn, b, by simp [e0], by simp [e1], by simp [e2], by simp [e3]⟩
      | succ n =>
        obtain ⟨k, hk⟩ : ∃ k, k = 32 - (n + 1) := ⟨_, rfl⟩
        have hk2 : 32 - n = k + 1 := by omega
        have hkl : k < 32 := by omega
        rw [← hk] at e3 b
        have z1 : IntKind.i64.wrap ((k : Int) + 1) = k + 1 := wi64 (by omega) (by omega)
        have gRg : g.get h2.n = some (.cells rowV 90 false) := by rw [x _ (by omega) (by omega), gR]
        obtain ⟨f, g1, j1, I⟩ := loopD24 (h0 := g) (k := k) (q := g.n) (R := h2.n) (p2 := h.n) (p3 := h1.n) hkl gRg (by omega) (e := ⟨[.ptr h.n 0, .ptr h1.n 0, .sl h2.n 0 32 (.ex 32), .int .i64 k, .nils, .int .i64 0, e.s [0, 1, 2, 3, 4, 5, 6] 6], 5, .int .i64 0⟩) (g := g)
          ⟨Nat.le_refl _, fun _ _ => rfl, Nat.le_refl _, ⟨.nils, by simp, by rw [Nat.sub_self]; exact RowG.nil _ _⟩, by simp, by simp, by simp, by simp, by simp⟩
        obtain ⟨_, x', gn', ⟨v, f4, G⟩, f0, f1, f2, f3, f5⟩ := I
        rw [Nat.sub_zero] at G
        obtain ⟨ov, v', g2, g3, c1, c2, c3, c4, c5, c6, c7, c8⟩ := b.push (by omega) x' gn' gn (G.rowW gn' fun b hb => Nat.le_trans gn hb) (by rw [defK_len]; omega)
        simp [l24_1, e2, e3, show (k : Int) < 32 by omega, hkl, e0, e1, j1, f1, rd1_of c1, f4, bs, fillW, G.cells, splice, c2, c4, c3, f3, z1]
        exact ⟨n, Nat.lt_succ_self n, by omega, fun c hc hcq => by rw [c6 c hc hcq, x c hc hcq], by omega, by rw [hk2, defK_succ]; exact c5, by simp [f0], by simp [f1], by simp [f2], by simp [hk2]⟩)
  obtain ⟨⟨sx, se, sh⟩, q1, q2, I⟩ := loop 32 ⟨[.ptr h.n 0, .ptr h1.n 0, .sl h2.n 0 32 (.ex 32), .int .i64 0, .tup [], .tup [], .tup []], 3, .int .i64 0⟩ h3 ⟨Nat.le_refl _, fun _ _ _ => rfl, Nat.le_refl _, SetG.nil gQ, by simp, by simp, by simp, by simp⟩
  simp only at q2 I
  subst q2
  obtain ⟨_, x, gn, b, e0, e1, e2, e3⟩ := I
  obtain ⟨v, sQ, W⟩ := b.setW
  have sP : sh.get h.n = some (.cells [.nils] 25 false) := by rw [x _ (by omega) (by omega), gP]
  obtain ⟨h8, hh8⟩ : ∃ g, g = sh.put h.n (.cells [v] 25 false) := ⟨_, rfl⟩
  have r8 : h8.get h.n = some (.cells [v] 25 false) := by rw [hh8, get_put_same (H.get_lt sP)]
  rw [w24, f24, s24]
  simp [nw, ← hh1, ← hh2, e48, q1, e1, rdN_of (o := 0) (n := 1) sQ (by simp), e0, wrN_of (o := 0) sP, splice, ← hh8, rdN_of (o := 0) (n := 1) r8 (by simp)]
  refine ⟨v, rfl, ?_, ?_⟩
  · have W8 : SetW (fun b => h3.n ≤ b) h8 v (defK (32 - 0)) := W.keep fun b hb _ => by rw [hh8, get_put_ne]; have hb : h3.n ≤ b := hb; omega
    exact W8.mono fun b _ hb => by have hb : h3.n ≤ b := hb; show h.n ≤ b; omega
  · refine ⟨by rw [hh8, H.n_put]; omega, fun c hc => ?_⟩
    rw [hh8, get_put_ne (by omega), x c (by omega) (by omega), x3.get c (by omega), x2.get c (by omega), x1.get c hc]
end Go.Proofs.Ytfjghgjkpenanaa
/- The program's default set. -/
set_option linter.unusedVariables false
set_option linter.unusedSimpArgs false
set_option maxRecDepth 20000
namespace Go.Proofs.Ytfjghgjkpenanaa
open Go Go.Zf
open Go.Zf (wi64)

theorem reps_len (n : Nat) (l : List V) : (reps n l).length = n * l.length := by
  induction n with
  | zero => simp [reps]
  | succ n ih => simp [reps, ih, Nat.add_mul]; omega
theorem Els.zeros (D : Nat → Prop) (h : H) : ∀ n : Nat, Els D h (reps n [V.nils, V.int .i64 0]) (List.replicate n ⟨[], 0⟩)
  | 0 => fun i t hi => by simp at hi
  | n + 1 => fun i t hi => by
    have ih := Els.zeros D h n
    cases i with
    | zero =>
      simp [List.replicate_succ] at hi
      subst hi
      exact ⟨.nils, rfl, rfl, SlR.nil _ _ _ _, fun x hx => by simp at hx⟩
    | succ i =>
      rw [List.replicate_succ] at hi
      obtain ⟨vc, h1, h2, h3⟩ := ih i t (by simpa using hi)
      refine ⟨vc, ?_, ?_, h3⟩
      · show (V.nils :: V.int .i64 0 :: reps n _)[2 * (i + 1)]? = _
        rw [show 2 * (i + 1) = 2 * i + 1 + 1 by omega]; simpa using h1
      · show (V.nils :: V.int .i64 0 :: reps n _)[2 * (i + 1) + 1]? = _
        rw [show 2 * (i + 1) + 1 = 2 * i + 1 + 1 + 1 by omega]; simpa using h2

def rowK (k c : Nat) : List Tb := (List.range (cx k)).map fun i => if i < c then defT k else ⟨[], 0⟩
theorem rowK_len (k c : Nat) : (rowK k c).length = cx k := by simp [rowK]
theorem rowK_zero (k : Nat) : rowK k 0 = List.replicate (cx k) ⟨[], 0⟩ := by
  apply List.ext_getElem
  · simp [rowK]
  · intro i h1 h2; simp [rowK]
theorem rowK_all (k : Nat) : rowK k (cx k) = defR k := by
  apply List.ext_getElem
  · simp [rowK, defR]
  · intro i h1 h2
    have : i < cx k := by simpa [rowK] using h1
    simp [rowK, defR, this]
theorem rowK_set (k c : Nat) : (rowK k c).set c (defT k) = rowK k (c + 1) := by
  apply List.ext_getElem
  · simp [rowK]
  · intro i h1 h2
    rw [List.getElem_set]
    simp only [rowK, List.getElem_map, List.getElem_range]
    by_cases e : c = i
    · subst e; simp
    · simp only [e, if_false]
      by_cases h : i < c
      · simp [h, Nat.lt_succ_of_lt h]
      · rw [if_neg h, if_neg (by omega)]

/-- The rest of the temporaries. -/
structure I27 (h0 : H) (q k b sp : Nat) (n : Nat) (e : E) (g : H) (e0 : E) : Prop where
  hn : n ≤ cx k
  x : ∀ c, c < h0.n → c ≠ b → g.get c = h0.get c
  gn : h0.n ≤ g.n
  r : ∃ cs, g.get b = some (.cells cs tT false) ∧ cs.length = cx k * 2 ∧ Els (fun c => q ≤ c) g cs (rowK k (cx k - n))
  e3 : e.s [0, 1, 3, 4, 5, 6, 7, 8, 17, 18] 3 = .ptr sp 0
  e4 : e.s [0, 1, 3, 4, 5, 6, 7, 8, 17, 18] 4 = .fn (.func (if stp k then 55 else 54)) [] []
  e5 : e.s [0, 1, 3, 4, 5, 6, 7, 8, 17, 18] 5 = .sl b 0 (cx k) (.ex (cx k))
  e17 : e.s [0, 1, 3, 4, 5, 6, 7, 8, 17, 18] 17 = .int .i64 (cx k)
  e18 : e.s [0, 1, 3, 4, 5, 6, 7, 8, 17, 18] 18 = .int .i64 ((cx k - n : Nat) : Int)
  ke : Keeps [0, 1, 3, 4, 5, 6, 7, 8, 17, 18] [0, 1, 7, 8] e e0

theorem both_ok {k : Nat} (hk : k < 32) (h : H) : RT (fun w h' => ∃ vt, w = .tup [vt, .int .i64 0] ∧ NewT h.n h' vt (defT k) ∧ Ext h h') (KW (if stp k then 55 else 54) [.int .i64 (vl k)] h) := by
  have hv := vl_le hk
  unfold defT
  cases stp k with
  | false => exact flat54_ok hv.1 hv.2 h
  | true => exact steep55_ok hv.1 hv.2 h
theorem defT_n (k : Nat) : (defT k).n = 0 := by unfold defT; cases stp k <;> rfl

theorem loop27 {h0 : H} {q k b sp : Nat} {y : V} (hk : k < 32) (hsp : h0.get sp = some (.cells [.int .i64 (cx k), .int .i64 (vl k), y] 95 false)) (hsb : sp ≠ b) (hb : b < h0.n) (hq : q ≤ h0.n) {e e0 : E} {g : H} (hi : I27 h0 q k b sp (cx k) e g e0) :
    ∃ e' g', loopZ (l27_0 KW loopZ) e g = some ⟨.ex 2, e', g'⟩ ∧ I27 h0 q k b sp 0 e' g' e0 := by
  have hv := vl_le hk
  have hc14 := cx_le hk
  have loop := loop_run (body := l27_0 KW loopZ) (fun n e g => I27 h0 q k b sp n e g e0) (fun s => s.x = .ex 2 ∧ I27 h0 q k b sp 0 s.e s.h e0)
    (fun n e g hi => by
      obtain ⟨hn, x, gn, ⟨cs, B, L, G⟩, e3, e4, e5, e17, e18, ke⟩ := hi
      have i0 := ke 0 (by simp); have i1 := ke 1 (by simp); have i7 := ke 7 (by simp); have i8 := ke 8 (by simp)
      cases n with
      | zero =>
        simp [l27_0, e17, e18]
        exact ⟨rfl, hn, x, gn, ⟨cs, B, L, G⟩, by simp [e3], by simp [e4], by simp [e5], by simp [e17], by simp [e18], fun i hm => by
          simp only [List.mem_cons, List.not_mem_nil, or_false] at hm
          rcases hm with rfl | rfl | rfl | rfl <;> simp [i0, i1, i7, i8]⟩
      | succ n =>
        obtain ⟨c, hc⟩ : ∃ c, c = cx k - (n + 1) := ⟨_, rfl⟩
        have hc2 : cx k - n = c + 1 := by omega
        rw [← hc] at e18 G
        have z1 : IntKind.i64.wrap ((c : Int) + 1) = c + 1 := wi64 (by omega) (by omega)
        have gsp : g.get sp = _ := (x sp (H.get_lt hsp) hsb).trans hsp
        obtain ⟨w, g1, a1, vt, rfl, ⟨vc, rfl, U⟩, x1⟩ := (both_ok hk g).elim
        rw [defT_n] at a1
        have B1 : g1.get b = _ := (x1.get _ (H.get_lt B)).trans B
        have G1 := (G.ext x1).set (i := c) (vc := vc) (t := defT k) (by rw [L, rowK_len]) (by rw [rowK_len]; omega) (U.mono fun d _ hd => Nat.le_trans (Nat.le_trans hq gn) hd)
        rw [rowK_set, defT_n] at G1
        obtain ⟨g2, hg2⟩ : ∃ g2, g2 = g1.put b (.cells (splice cs (c * 2) [vc, .int .i64 0]) 72 false) := ⟨_, rfl⟩
        have hw : g1.wrN b (c * 2) [vc, .int .i64 0] = some g2 := by rw [wrN_of B1 (by simp; omega), hg2]
        have G2 : Els (fun c => q ≤ c) g2 (splice cs (c * 2) [vc, .int .i64 0]) (rowK k (c + 1)) := G1.keep fun d cd _ hd => by
          rw [hg2, get_put_ne]; rintro rfl; rw [B1] at hd; cases hd
        have n1 := x1.n
        simp [l27_0, e17, e18, show c < cx k by omega, show (c : Int) < cx k by omega, e3, rd1_of gsp, e4, cdy_fn, a1, e5, hw, z1]
        exact ⟨n, Nat.lt_succ_self n, by omega, fun d hd hdb => by rw [hg2, get_put_ne hdb, x1.get d (by omega), x d hd hdb], by rw [hg2, H.n_put]; omega, ⟨_, by rw [hg2, get_put_same (H.get_lt B1)], by rw [splice_len (by simp; omega), L], by rw [hc2]; exact G2⟩, by simp [e3], by simp [e4], by simp [e5], by simp [e17], by simp [hc2], fun i hm => by
          simp only [List.mem_cons, List.not_mem_nil, or_false] at hm
          rcases hm with rfl | rfl | rfl | rfl <;> simp [i0, i1, i7, i8]⟩)
  obtain ⟨⟨x, e', g'⟩, r1, r2, r3⟩ := loop (cx k) e g hi
  simp only at r2 r3
  subst r2
  exact ⟨e', g', r1, r3⟩

structure O27 (h0 : H) (P Q : Nat) (n : Nat) (e : E) (g : H) : Prop where
  hn : n ≤ 32
  x : ∀ c, c < h0.n → c ≠ Q → g.get c = h0.get c
  gn : h0.n ≤ g.n
  b : SetG h0.n Q g (defK (32 - n))
  e0 : e.s [0, 1, 3, 4, 5, 6, 7, 8, 17, 18] 0 = .ptr P 0
  e1 : e.s [0, 1, 3, 4, 5, 6, 7, 8, 17, 18] 1 = .ptr Q 0
  e7 : e.s [0, 1, 3, 4, 5, 6, 7, 8, 17, 18] 7 = .agg shV
  e8 : e.s [0, 1, 3, 4, 5, 6, 7, 8, 17, 18] 8 = .int .i64 ((32 - n : Nat) : Int)

theorem shV_ix {n : Nat} (hn : n < 32) : ixN 32 3 (.agg shV) (.int .i64 (n : Int)) = some (.agg [.int .i64 (cx n), .int .i64 (vl n), .bool (stp n)]) := by
  simp only [ixN, Int.toNat_natCast]
  rw [if_pos ⟨by omega, by omega⟩, if_pos (by rw [shV_len]; omega), shV_at hn]

theorem default27_ok (h : H) : RT (fun w h' => ∃ v, w = .agg [v] ∧ SetW (fun b => h.n ≤ b) h' v defS ∧ Ext h h') (KW 27 [] h) := by
  obtain ⟨h1, hh1⟩ : ∃ g, g = h.new (.cells [.nils] 25 false) := ⟨_, rfl⟩
  obtain ⟨h2, hh2⟩ : ∃ g, g = h1.new (.cells [.nils] 25 false) := ⟨_, rfl⟩
  have x1 : Ext h h1 := by rw [hh1]; exact (Ext.refl h).new _
  have x2 : Ext h1 h2 := by rw [hh2]; exact (Ext.refl h1).new _
  have n1 : h1.n = h.n + 1 := by rw [hh1, H.n_new]
  have n2 : h2.n = h1.n + 1 := by rw [hh2, H.n_new]
  obtain ⟨w, h3, e53, rfl, x3⟩ := (shapes53_ok h2).elim
  have n3 := x3.n
  have gP : h3.get h.n = some (.cells [.nils] 25 false) := by rw [x3.get _ (by omega), x2.get _ (by omega), hh1, get_new_same]
  have gQ : h3.get h1.n = some (.cells [.nils] 25 false) := by rw [x3.get _ (by omega), hh2, get_new_same]
  have loop := loop_run (body := l27_1 KW loopZ) (O27 h3 h.n h1.n) (fun s => s.x = .ex 0 ∧ O27 h3 h.n h1.n 0 s.e s.h)
    (fun n e g hi => by
      obtain ⟨hn, x, gn, b, e0, e1, e7, e8⟩ := hi
      cases n with
      | zero =>
        simp [l27_1, e8]
        exact ⟨rfl, hn, x, gn, b, by simp [e0], by simp [e1], by simp [e7], by simp [e8]⟩
      | succ n =>
        obtain ⟨k, hk⟩ : ∃ k, k = 32 - (n + 1) := ⟨_, rfl⟩
        have hk2 : 32 - n = k + 1 := by omega
        have hkl : k < 32 := by omega
        rw [← hk] at e8 b
        have hc14 := cx_le hkl
        have z1 : IntKind.i64.wrap ((k : Int) + 1) = k + 1 := wi64 (by omega) (by omega)
        obtain ⟨g1, hg1⟩ : ∃ g1, g1 = (g.new (.cells [.int .i64 0, .int .i64 0, .bool false] 95 false)).put g.n (.cells [.int .i64 (cx k), .int .i64 (vl k), .bool (stp k)] 95 false) := ⟨_, rfl⟩
        have y1 : Ext g g1 := by rw [hg1]; exact ((Ext.refl g).new _).put (Nat.le_refl _) _
        have m1 : g1.n = g.n + 1 := by rw [hg1, H.n_put, H.n_new]
        have r1 : g1.get g.n = some (.cells [.int .i64 (cx k), .int .i64 (vl k), .bool (stp k)] 95 false) := by rw [hg1, get_put_same (by rw [H.n_new]; omega)]
        obtain ⟨g2, hg2⟩ : ∃ g2, g2 = g1.new (.cells (reps (cx k) [.nils, .int .i64 0]) 72 false) := ⟨_, rfl⟩
        have y2 : Ext g1 g2 := by rw [hg2]; exact (Ext.refl g1).new _
        have m2 : g2.n = g1.n + 1 := by rw [hg2, H.n_new]
        have r2 : g2.get g1.n = some (.cells (reps (cx k) [.nils, .int .i64 0]) 72 false) := by rw [hg2, get_new_same]
        have r1' : g2.get g.n = _ := (y2.get _ (H.get_lt r1)).trans r1
        have hms : ms g1 72 32 [.nils, .int .i64 0] (.int .i64 (cx k)) (.int .i64 (cx k)) = some (.sl g1.n 0 (cx k) (.ex (cx k)), g2) := by
          simp only [ms]
          rw [if_pos ⟨by omega, by omega, by omega, by omega, trivial⟩, Int.toNat_natCast, ← hg2]
        obtain ⟨f, g3, j1, I⟩ := loop27 (h0 := g2) (q := g.n) (k := k) (b := g1.n) (sp := g.n) (y := .bool (stp k)) hkl r1' (by omega) (by omega) (by omega)
          (e0 := ⟨[.ptr h.n 0, .ptr h1.n 0, .ptr g.n 0, .fn (.func (if stp k then 55 else 54)) [] [], .sl g1.n 0 (cx k) (.ex (cx k)), e.s [0, 1, 3, 4, 5, 6, 7, 8, 17, 18] 6, .agg shV, .int .i64 k, .int .i64 (cx k), .int .i64 0], 18, .int .i64 0⟩)
          (e := ⟨[.ptr h.n 0, .ptr h1.n 0, .ptr g.n 0, .fn (.func (if stp k then 55 else 54)) [] [], .sl g1.n 0 (cx k) (.ex (cx k)), e.s [0, 1, 3, 4, 5, 6, 7, 8, 17, 18] 6, .agg shV, .int .i64 k, .int .i64 (cx k), .int .i64 0], 18, .int .i64 0⟩) (g := g2)
          ⟨Nat.le_refl _, fun _ _ _ => rfl, Nat.le_refl _, ⟨_, r2, by rw [reps_len]; rfl, by rw [Nat.sub_self, rowK_zero]; exact Els.zeros _ _ _⟩, by simp, by simp, by simp, by simp, by simp, fun i _ => rfl⟩
        obtain ⟨_, x', gn', ⟨cs, B, L, G⟩, f3, f4, f5, f17, f18, ke⟩ := I
        have i0 := ke 0 (by simp); have i1 := ke 1 (by simp); have i7 := ke 7 (by simp); have i8 := ke 8 (by simp)
        simp at i0 i1 i7 i8
        rw [Nat.sub_zero, rowK_all] at G
        have hRW : ∃ bb, RowW (fun b => h3.n ≤ b) g3 (.sl g1.n 0 (cx k) (.ex (cx k))) bb (defR k) ∧ g.n ≤ bb ∧ bb ≤ g3.n :=
          ⟨g1.n, .inr ⟨.ex (cx k), cs, by simp [defR], B, by rw [L]; simp [defR], (show h3.n ≤ g1.n by omega), G.mono (fun b _ hb => Nat.le_trans gn hb), by simp [CapOk, defR]⟩, by omega, by omega⟩
        obtain ⟨ov, v', g4, g5, c1, c2, c3, c4, c5, c6, c7, c8⟩ := b.push (g' := g3) (by omega) (fun c hc => by rw [x' c (by omega) (by omega), y2.get c (by omega), y1.get c hc]) (by omega) gn hRW (by rw [defK_len]; omega)
        cases hs : stp k with
        | false =>
          rw [hs] at j1 hg1 r1
          simp only [Bool.false_eq_true, if_false] at j1
          simp [l27_1, e8, hkl, show (k : Int) < 32 by omega, e7, shV_ix hkl, hs, nw, wrN_of (o := 0) get_new_same, splice, ← hg1, rd1_of r1, hms, e0, e1, j1, i1, rd1_of c1, f5, bs, fillW, c2, c4, c3, i8, z1]
          exact ⟨n, Nat.lt_succ_self n, by omega, fun c hc hcq => by rw [c6 c hc hcq, x c hc hcq], by omega, by rw [hk2, defK_succ]; exact c5, by simp [i0], by simp [i1], by simp [i7], by simp [hk2]⟩
        | true =>
          rw [hs] at j1 hg1 r1
          simp only [if_true] at j1
          simp [l27_1, e8, hkl, show (k : Int) < 32 by omega, e7, shV_ix hkl, hs, nw, wrN_of (o := 0) get_new_same, splice, ← hg1, rd1_of r1, hms, e0, e1, j1, i1, rd1_of c1, f5, bs, fillW, c2, c4, c3, i8, z1]
          exact ⟨n, Nat.lt_succ_self n, by omega, fun c hc hcq => by rw [c6 c hc hcq, x c hc hcq], by omega, by rw [hk2, defK_succ]; exact c5, by simp [i0], by simp [i1], by simp [i7], by simp [hk2]⟩)
  obtain ⟨⟨sx, se, sh⟩, q1, q2, I⟩ := loop 32 ⟨[.ptr h.n 0, .ptr h1.n 0, .tup [], .tup [], .tup [], .tup [], .agg shV, .int .i64 0, .tup [], .tup []], 8, .int .i64 0⟩ h3 ⟨Nat.le_refl _, fun _ _ _ => rfl, Nat.le_refl _, SetG.nil gQ, by simp, by simp, by simp, by simp⟩
  simp only at q2 I
  subst q2
  obtain ⟨_, x, gn, b, e0, e1, e7, e8⟩ := I
  obtain ⟨v, sQ, W⟩ := b.setW
  have sP : sh.get h.n = some (.cells [.nils] 25 false) := by rw [x _ (by omega) (by omega), gP]
  obtain ⟨h8, hh8⟩ : ∃ g, g = sh.put h.n (.cells [v] 25 false) := ⟨_, rfl⟩
  have r8 : h8.get h.n = some (.cells [v] 25 false) := by rw [hh8, get_put_same (H.get_lt sP)]
  rw [w27, f27, s27]
  simp [nw, ← hh1, ← hh2, e53, q1, e1, rdN_of (o := 0) (n := 1) sQ (by simp), e0, wrN_of (o := 0) sP, splice, ← hh8, rdN_of (o := 0) (n := 1) r8 (by simp)]
  refine ⟨v, rfl, ?_, ?_⟩
  · have W8 : SetW (fun b => h3.n ≤ b) h8 v (defK (32 - 0)) := W.keep fun b hb _ => by rw [hh8, get_put_ne]; have hb : h3.n ≤ b := hb; omega
    exact W8.mono fun b _ hb => by have hb : h3.n ≤ b := hb; show h.n ≤ b; omega
  · refine ⟨by rw [hh8, H.n_put]; omega, fun c hc => ?_⟩
    rw [hh8, get_put_ne (by omega), x c (by omega) (by omega), x3.get c (by omega), x2.get c (by omega), x1.get c hc]
end Go.Proofs.Ytfjghgjkpenanaa
/- Whether a set may be. -/
set_option linter.unusedVariables false
set_option linter.unusedSimpArgs false
set_option maxRecDepth 20000
namespace Go.Proofs.Ytfjghgjkpenanaa
open Go Go.Zf
open Go.Zf (wi64)

/-- Sets of which no list is long. -/
def Small (S : List (List Tb)) : Prop := S.length < 1000 ∧ ∀ (k : Nat) (r : List Tb), S[k]? = some r → r.length < 1000 ∧ ∀ (i : Nat) (t : Tb), r[i]? = some t → t.c.length < 1000
theorem SetOk.small {S : List (List Tb)} (a : SetOk S) : Small S := by
  refine ⟨by rw [a.1]; omega, fun k r hr => ?_⟩
  have hk : k < 32 := by
    by_cases e : k < S.length
    · rw [a.1] at e; exact e
    · rw [List.getElem?_eq_none (by omega)] at hr; cases hr
  have := a.2 k r hr
  refine ⟨by rw [this.1]; have := cx_le hk; omega, fun i t ht => ?_⟩
  rw [(this.2 i t ht).1]; have := vl_le hk; omega
def TabsOk (k : Nat) (r : List Tb) : Prop := ∀ (i : Nat) (t : Tb), r[i]? = some t → t.c.length = vl k ∧ TabOk t
theorem box25 {D : Nat → Prop} {h : H} {v : V} {S : List (List Tb)} (u : SetR D h v S) : ∃ h1, bx h 25 (.agg [v]) = some (.ptr h.n 0, h1) ∧ Ext h h1 ∧ h1.get h.n = some (.cells [v] 25 false) ∧ h1.n = h.n + 1 ∧ SetR D h1 v S :=
  ⟨h.new (.cells [v] 25 false), rfl, (Ext.refl h).new _, get_new_same, H.n_new _ _, u.ext ((Ext.refl h).new _)⟩
theorem SetR.len {D : Nat → Prop} {h : H} {v : V} {S : List (List Tb)} (u : SetR D h v S) : lnS v = some (.int .i64 S.length) := by
  obtain ⟨cs, h1, h2⟩ := u; exact h1.len
theorem SetR.ckv {D : Nat → Prop} {h : H} {v : V} {S : List (List Tb)} (u : SetR D h v S) {β : Type} (k : Option β) : ck (some v) v k = k := by
  obtain ⟨cs, h1, h2⟩ := u; exact h1.ck k
theorem RowR.len {D : Nat → Prop} {h : H} {v : V} {r : List Tb} (u : RowR D h v r) : lnS v = some (.int .i64 r.length) := by
  obtain ⟨cs, h1, h2⟩ := u; exact h1.len
theorem RowR.ckv {D : Nat → Prop} {h : H} {v : V} {r : List Tb} (u : RowR D h v r) {β : Type} (k : Option β) : ck (some v) v k = k := by
  obtain ⟨cs, h1, h2⟩ := u; exact h1.ck k
theorem RowR.ext {D : Nat → Prop} {h h' : H} {v : V} {r : List Tb} (u : RowR D h v r) (x : Ext h h') : RowR D h' v r := u.keep fun b _ hb => x.get b hb

abbrev K34 : List Nat := [0, 1, 2, 3, 4, 6, 11, 12, 29, 30, 31]
theorem loop34 {D : Nat → Prop} {h0 : H} {k sp : Nat} {y vr : V} {r : List Tb} (hk : k < 32) (R : RowR D h0 vr r) (hsp : h0.get sp = some (.cells [.int .i64 (cx k), .int .i64 (vl k), y] 95 false)) (hl : r.length < 1000) (hs : ∀ (i : Nat) (t : Tb), r[i]? = some t → t.c.length < 1000) {en : E}
    (e4 : en.s [0, 1, 2, 3, 4, 6, 11, 12, 29, 30, 31] 4 = .ptr sp 0) (e29 : en.s [0, 1, 2, 3, 4, 6, 11, 12, 29, 30, 31] 29 = vr) (e30 : en.s [0, 1, 2, 3, 4, 6, 11, 12, 29, 30, 31] 30 = .int .i64 r.length) (e31 : en.s [0, 1, 2, 3, 4, 6, 11, 12, 29, 30, 31] 31 = .int .i64 0) :
    ∃ s, loopZ (l34_0 KW loopZ) en h0 = some s ∧ Ext h0 s.h ∧ Keeps [0, 1, 2, 3, 4, 6, 11, 12, 29, 30, 31] [0, 1, 3, 11, 12] s.e en ∧ ((s.x = .ex 2 ∧ TabsOk k r) ∨ (s.x = .rt ∧ s.e.s [0, 1, 2, 3, 4, 6, 11, 12, 29, 30, 31] 2 = .int .i64 2 ∧ ¬ TabsOk k r)) := by
  have hv := vl_le hk
  have loop := loop_run (body := l34_0 KW loopZ) (fun n e g => Ext h0 g ∧ n ≤ r.length ∧ Keeps [0, 1, 2, 3, 4, 6, 11, 12, 29, 30, 31] [0, 1, 3, 11, 12] e en ∧ e.s [0, 1, 2, 3, 4, 6, 11, 12, 29, 30, 31] 4 = .ptr sp 0 ∧ e.s [0, 1, 2, 3, 4, 6, 11, 12, 29, 30, 31] 29 = vr ∧ e.s [0, 1, 2, 3, 4, 6, 11, 12, 29, 30, 31] 30 = .int .i64 r.length ∧ e.s [0, 1, 2, 3, 4, 6, 11, 12, 29, 30, 31] 31 = .int .i64 ((r.length - n : Nat) : Int) ∧ ∀ (i : Nat) (t : Tb), i < r.length - n → r[i]? = some t → t.c.length = vl k ∧ TabOk t)
    (fun s => Ext h0 s.h ∧ Keeps [0, 1, 2, 3, 4, 6, 11, 12, 29, 30, 31] [0, 1, 3, 11, 12] s.e en ∧ ((s.x = .ex 2 ∧ TabsOk k r) ∨ (s.x = .rt ∧ s.e.s [0, 1, 2, 3, 4, 6, 11, 12, 29, 30, 31] 2 = .int .i64 2 ∧ ¬ TabsOk k r)))
    (fun n e g ⟨xg, hn, ke, p4, p29, p30, p31, ha⟩ => by
      have i0 := ke 0 (by simp); have i1 := ke 1 (by simp); have i3 := ke 3 (by simp); have i11 := ke 11 (by simp); have i12 := ke 12 (by simp)
      cases n with
      | zero =>
        simp [l34_0, p30, p31]
        refine ⟨xg, fun i hm => ?_, .inl ⟨rfl, fun i t ht => ha i t ?_ ht⟩⟩
        · simp only [List.mem_cons, List.not_mem_nil, or_false] at hm
          rcases hm with rfl | rfl | rfl | rfl | rfl <;> simp [i0, i1, i3, i11, i12]
        · by_cases e : i < r.length
          · exact e
          · rw [List.getElem?_eq_none (by omega)] at ht; cases ht
      | succ n =>
        obtain ⟨c, hc⟩ : ∃ c, c = r.length - (n + 1) := ⟨_, rfl⟩
        have hc2 : r.length - n = c + 1 := by omega
        rw [← hc] at p31 ha
        have hcl : c < r.length := by omega
        obtain ⟨t, ht⟩ : ∃ t, r[c]? = some t := ⟨r[c], List.getElem?_eq_getElem hcl⟩
        have z1 : IntKind.i64.wrap ((c : Int) + 1) = c + 1 := wi64 (by omega) (by omega)
        obtain ⟨b, o, vc, q1, q2, q3, q4, U, _⟩ := (R.ext xg).tab ht
        obtain ⟨g2, hg2⟩ : ∃ g2, g2 = (g.new (.cells [.nils, .int .i64 0] 72 false)).put g.n (.cells [vc, .int .i64 t.n] 72 false) := ⟨_, rfl⟩
        have x2 : Ext g g2 := by rw [hg2]; exact ((Ext.refl g).new _).put (Nat.le_refl _) _
        have b2 : g2.get g.n = some (.cells [vc, .int .i64 t.n] 72 false) := by rw [hg2, get_put_same (by rw [H.n_new]; omega)]
        have gsp : g.get sp = _ := (xg.get sp (H.get_lt hsp)).trans hsp
        have gsp2 : g2.get sp = _ := (x2.get sp (H.get_lt gsp)).trans gsp
        have U2 := U.ext x2
        have ul := U2.1.len
        have hrt : ∀ (P : Prop), ¬ (t.c.length = vl k ∧ TabOk t) → ¬ TabsOk k r := fun _ h1 h2 => h1 (h2 c t ht)
        by_cases c1 : t.c.length = vl k
        · obtain ⟨w, g3, e58, rfl, x3⟩ := (check58_ok U2 (hs c t ht)).elim
          by_cases c2 : TabOk t
          · rw [if_pos c2] at e58
            simp [l34_0, p30, p31, hcl, show (c : Int) < r.length by omega, p29, q1, q4, nw, wrN_of (o := 0) get_new_same, splice, ← hg2, rd1_of b2, ul, p4, rd1_of gsp2, show (t.c.length : Int) = vl k by omega, c1, rdN_of (o := 0) (n := 2) b2 (by simp), e58, z1]
            refine ⟨n, Nat.lt_succ_self n, (xg.trans x2).trans x3, by omega, fun i hm => ?_, by simp [p4], by simp [p29], by simp [p30], by simp [hc2], fun i s hi hs2 => ?_⟩
            · simp only [List.mem_cons, List.not_mem_nil, or_false] at hm
              rcases hm with rfl | rfl | rfl | rfl | rfl <;> simp [i0, i1, i3, i11, i12]
            · by_cases e : i = c
              · subst e; rw [ht] at hs2; cases hs2; exact ⟨c1, c2⟩
              · exact ha i s (by omega) hs2
          · rw [if_neg c2] at e58
            simp [l34_0, p30, p31, hcl, show (c : Int) < r.length by omega, p29, q1, q4, nw, wrN_of (o := 0) get_new_same, splice, ← hg2, rd1_of b2, ul, p4, rd1_of gsp2, show (t.c.length : Int) = vl k by omega, c1, rdN_of (o := 0) (n := 2) b2 (by simp), e58]
            refine ⟨(xg.trans x2).trans x3, fun i hm => ?_, .inr ⟨rfl, by simp, hrt True fun h => c2 h.2⟩⟩
            simp only [List.mem_cons, List.not_mem_nil, or_false] at hm
            rcases hm with rfl | rfl | rfl | rfl | rfl <;> simp [i0, i1, i3, i11, i12]
        · simp [l34_0, p30, p31, hcl, show (c : Int) < r.length by omega, p29, q1, q4, nw, wrN_of (o := 0) get_new_same, splice, ← hg2, rd1_of b2, ul, p4, rd1_of gsp2, show ¬ (t.c.length : Int) = vl k by omega, c1, gl_t, gk_t]
          refine ⟨xg.trans x2, fun i hm => ?_, .inr ⟨rfl, by simp, hrt True fun h => c1 h.1⟩⟩
          simp only [List.mem_cons, List.not_mem_nil, or_false] at hm
          rcases hm with rfl | rfl | rfl | rfl | rfl <;> simp [i0, i1, i3, i11, i12])
  exact loop r.length en h0 ⟨Ext.refl h0, Nat.le_refl _, fun _ _ => rfl, e4, e29, e30, by rw [e31, Nat.sub_self]; rfl, fun i t hi => by omega⟩

theorem lt_of_get {α : Type} {l : List α} {i : Nat} {x : α} (h : l[i]? = some x) : i < l.length := by
  by_cases e : i < l.length
  · exact e
  · rw [List.getElem?_eq_none (by omega)] at h; cases h
theorem get_of_lt {α : Type} {l : List α} {i : Nat} (h : i < l.length) : ∃ x, l[i]? = some x := ⟨l[i], List.getElem?_eq_getElem h⟩
/-- Its first rows may be. -/
def RowsOk (S : List (List Tb)) (n : Nat) : Prop := ∀ (k : Nat) (r : List Tb), k < n → S[k]? = some r → r.length = cx k ∧ TabsOk k r
theorem setOk_iff {S : List (List Tb)} (h : S.length = 32) : SetOk S ↔ RowsOk S 32 :=
  ⟨fun a k r _ hr => a.2 k r hr, fun a => ⟨h, fun k r hr => a k r (by have := lt_of_get hr; omega) hr⟩⟩

theorem check34_ok {D : Nat → Prop} {h : H} {v : V} {S : List (List Tb)} (u : SetR D h v S) (sm : Small S) : RT (fun w h' => w = .int .i64 (if SetOk S then 0 else 2) ∧ Ext h h') (KW 34 [.agg [v]] h) := by
  obtain ⟨h1, b1, x1, g1, n1, u1⟩ := box25 u
  have ul := u1.len
  rw [w34, f34, s34]
  by_cases c0 : S.length = 32
  · obtain ⟨w, h2, e53, rfl, x2⟩ := (shapes53_ok h1).elim
    have u2 := u1.ext x2
    have g2 : h2.get h.n = _ := (x2.get _ (H.get_lt g1)).trans g1
    have loop := loop_run (body := l34_1 KW loopZ) (fun n e g => Ext h2 g ∧ n ≤ 32 ∧ e.s [0, 1, 2, 3, 4, 6, 11, 12, 29, 30, 31] 1 = .ptr h.n 0 ∧ e.s [0, 1, 2, 3, 4, 6, 11, 12, 29, 30, 31] 11 = .agg shV ∧ e.s [0, 1, 2, 3, 4, 6, 11, 12, 29, 30, 31] 12 = .int .i64 ((32 - n : Nat) : Int) ∧ RowsOk S (32 - n))
      (fun s => Ext h2 s.h ∧ ((s.x = .ex 0 ∧ SetOk S) ∨ (s.x = .rt ∧ s.e.s [0, 1, 2, 3, 4, 6, 11, 12, 29, 30, 31] 2 = .int .i64 2 ∧ ¬ SetOk S)))
      (fun n e g ⟨xg, hn, p1, p11, p12, ha⟩ => by
        cases n with
        | zero =>
          simp [l34_1, p12]
          exact ⟨xg, .inl ⟨rfl, (setOk_iff c0).mpr ha⟩⟩
        | succ n =>
          obtain ⟨k, hk⟩ : ∃ k, k = 32 - (n + 1) := ⟨_, rfl⟩
          have hk2 : 32 - n = k + 1 := by omega
          have hkl : k < 32 := by omega
          rw [← hk] at p12 ha
          obtain ⟨r, hr⟩ := get_of_lt (l := S) (i := k) (by omega)
          have z1 : IntKind.i64.wrap ((k : Int) + 1) = k + 1 := wi64 (by omega) (by omega)
          obtain ⟨g3, hg3⟩ : ∃ g1, g1 = (g.new (.cells [.int .i64 0, .int .i64 0, .bool false] 95 false)).put g.n (.cells [.int .i64 (cx k), .int .i64 (vl k), .bool (stp k)] 95 false) := ⟨_, rfl⟩
          have y1 : Ext g g3 := by rw [hg3]; exact ((Ext.refl g).new _).put (Nat.le_refl _) _
          have r1 : g3.get g.n = some (.cells [.int .i64 (cx k), .int .i64 (vl k), .bool (stp k)] 95 false) := by rw [hg3, get_put_same (by rw [H.n_new]; omega)]
          have gb : g3.get h.n = _ := (y1.get _ (by have := H.get_lt g2; have := xg.n; omega)).trans ((xg.get _ (H.get_lt g2)).trans g2)
          have u3 := (u2.ext xg).ext y1
          obtain ⟨b, o, vr, q1, q2, R, _⟩ := u3.row hr
          have rl := R.len
          have hsm := sm.2 k r hr
          by_cases c1 : r.length = cx k
          · obtain ⟨s, j1, xs, ke, j3⟩ := loop34 (y := .bool (stp k)) hkl R r1 hsm.1 hsm.2
              (en := ⟨[e.s [0, 1, 2, 3, 4, 6, 11, 12, 29, 30, 31] 0, .ptr h.n 0, e.s [0, 1, 2, 3, 4, 6, 11, 12, 29, 30, 31] 2, .int .i64 k, .ptr g.n 0, e.s [0, 1, 2, 3, 4, 6, 11, 12, 29, 30, 31] 6, .agg shV, .int .i64 k, vr, .int .i64 r.length, .int .i64 0], 31, .int .i64 0⟩) (by simp) (by simp) (by simp) (by simp)
            have i1 := ke 1 (by simp); have i11 := ke 11 (by simp); have i12 := ke 12 (by simp)
            simp at i1 i11 i12
            obtain ⟨sx, se, sh⟩ := s
            simp only at xs j3 i1 i11 i12
            rw [c1] at j1 rl
            rcases j3 with ⟨rfl, ok⟩ | ⟨rfl, p2, ok⟩
            · simp [l34_1, p12, hkl, show (k : Int) < 32 by omega, p11, shV_ix hkl, nw, wrN_of (o := 0) get_new_same, splice, ← hg3, p1, rd1_of gb, q1, q2, rl, rd1_of r1, u3.ckv, R.ckv, j1, i12, z1]
              refine ⟨n, Nat.lt_succ_self n, (xg.trans y1).trans xs, by omega, by simp [i1], by simp [i11], by simp [hk2], fun k' r' hk' hr' => ?_⟩
              by_cases e : k' = k
              · subst e; rw [hr] at hr'; cases hr'; exact ⟨c1, ok⟩
              · exact ha k' r' (by omega) hr'
            · simp [l34_1, p12, hkl, show (k : Int) < 32 by omega, p11, shV_ix hkl, nw, wrN_of (o := 0) get_new_same, splice, ← hg3, p1, rd1_of gb, q1, q2, rl, rd1_of r1, u3.ckv, R.ckv, j1]
              exact ⟨(xg.trans y1).trans xs, .inr ⟨rfl, by simp [p2], fun h => ok (h.2 k r hr).2⟩⟩
          · simp [l34_1, p12, hkl, show (k : Int) < 32 by omega, p11, shV_ix hkl, nw, wrN_of (o := 0) get_new_same, splice, ← hg3, p1, rd1_of gb, q1, q2, rl, rd1_of r1, c1, u3.ckv, R.ckv, show ¬ (r.length : Int) = cx k by omega]
            exact ⟨xg.trans y1, .inr ⟨rfl, by simp, fun h => c1 (h.2 k r hr).1⟩⟩)
    obtain ⟨⟨sx, se, sh⟩, q1, q2, q3⟩ := loop 32 ⟨[.agg [v], .ptr h.n 0, .int .i64 0, .tup [], .tup [], .tup [], .agg shV, .int .i64 0, .tup [], .tup [], .tup []], 12, .int .i64 0⟩ h2 ⟨Ext.refl h2, Nat.le_refl _, by simp, by simp, by simp, fun k r hk => by omega⟩
    simp only at q2 q3
    rcases q3 with ⟨rfl, ok⟩ | ⟨rfl, p2, ok⟩
    · simp [b1, rd1_of g1, ul, c0, e53, q1]
      exact ⟨by rw [if_pos ok], (x1.trans x2).trans q2⟩
    · simp [b1, rd1_of g1, ul, c0, e53, q1, p2]
      exact ⟨by rw [if_neg ok], (x1.trans x2).trans q2⟩
  · simp [b1, rd1_of g1, ul, c0, show ¬ (S.length : Int) = 32 by omega]
    exact ⟨by rw [if_neg fun a => c0 a.1], x1⟩
end Go.Proofs.Ytfjghgjkpenanaa
/- Whether a set may be: the document's. -/
set_option linter.unusedVariables false
set_option linter.unusedSimpArgs false
set_option maxRecDepth 20000
namespace Go.Proofs.Ytfjghgjkpenanaa
open Go Go.Zf
open Go.Zf (wi64)

theorem loop37 {D : Nat → Prop} {h0 : H} {k P R : Nat} {v : V} {S : List (List Tb)} {r : List Tb} (hk : k < 32) (hS : SetR D h0 v S) (hr : S[k]? = some r) (hP : h0.get P = some (.cells [v] 25 false)) (hR : h0.get R = some (.cells rowV 90 false)) (hl : r.length < 1000) (hs : ∀ (i : Nat) (t : Tb), r[i]? = some t → t.c.length < 1000) {en : E}
    (e1 : en.s [0, 1, 2, 3, 4, 5] 1 = .ptr P 0) (e3 : en.s [0, 1, 2, 3, 4, 5] 3 = .sl R 0 32 (.ex 32)) (e4 : en.s [0, 1, 2, 3, 4, 5] 4 = .int .i64 k) (e5 : en.s [0, 1, 2, 3, 4, 5] 5 = .int .i64 0) :
    ∃ s, loopZ (l37_0 KW loopZ) en h0 = some s ∧ Ext h0 s.h ∧ ((s.x = .ex 2 ∧ s.e.s [0, 1, 2, 3, 4, 5] 1 = .ptr P 0 ∧ s.e.s [0, 1, 2, 3, 4, 5] 3 = .sl R 0 32 (.ex 32) ∧ s.e.s [0, 1, 2, 3, 4, 5] 4 = .int .i64 k ∧ TabsOk k r) ∨ (s.x = .rt ∧ s.e.s [0, 1, 2, 3, 4, 5] 2 = .int .i64 2 ∧ ¬ TabsOk k r)) := by
  have hv := vl_le hk
  have q1r := rowV_at3 hk (show 1 < 3 by omega)
  simp at q1r
  have loop := loop_run (body := l37_0 KW loopZ) (fun n e g => Ext h0 g ∧ n ≤ r.length ∧ e.s [0, 1, 2, 3, 4, 5] 1 = .ptr P 0 ∧ e.s [0, 1, 2, 3, 4, 5] 3 = .sl R 0 32 (.ex 32) ∧ e.s [0, 1, 2, 3, 4, 5] 4 = .int .i64 k ∧ e.s [0, 1, 2, 3, 4, 5] 5 = .int .i64 ((r.length - n : Nat) : Int) ∧ ∀ (i : Nat) (t : Tb), i < r.length - n → r[i]? = some t → t.c.length = vl k ∧ TabOk t)
    (fun s => Ext h0 s.h ∧ ((s.x = .ex 2 ∧ s.e.s [0, 1, 2, 3, 4, 5] 1 = .ptr P 0 ∧ s.e.s [0, 1, 2, 3, 4, 5] 3 = .sl R 0 32 (.ex 32) ∧ s.e.s [0, 1, 2, 3, 4, 5] 4 = .int .i64 k ∧ TabsOk k r) ∨ (s.x = .rt ∧ s.e.s [0, 1, 2, 3, 4, 5] 2 = .int .i64 2 ∧ ¬ TabsOk k r)))
    (fun n e g ⟨xg, hn, p1, p3, p4, p5, ha⟩ => by
      have u := hS.ext xg
      obtain ⟨bR, oR, vr, a1, a2, RR, _⟩ := u.row hr
      have gP : g.get P = _ := (xg.get P (H.get_lt hP)).trans hP
      have gR : g.get R = _ := (xg.get R (H.get_lt hR)).trans hR
      have rl := RR.len
      cases n with
      | zero =>
        simp [l37_0, p1, rd1_of gP, p4, a1, a2, rl, p5]
        exact ⟨xg, .inl ⟨rfl, by simp [p1], by simp [p3], by simp [p4], fun i t ht => ha i t (by have := lt_of_get ht; omega) ht⟩⟩
      | succ n =>
        obtain ⟨c, hc⟩ : ∃ c, c = r.length - (n + 1) := ⟨_, rfl⟩
        have hc2 : r.length - n = c + 1 := by omega
        rw [← hc] at p5 ha
        have hcl : c < r.length := by omega
        obtain ⟨t, ht⟩ := get_of_lt hcl
        have z1 : IntKind.i64.wrap ((c : Int) + 1) = c + 1 := wi64 (by omega) (by omega)
        obtain ⟨b, o, vc, b1, b2, b3, b4, U, _⟩ := RR.tab ht
        have ul := U.1.len
        have us := U.1.same
        have hrt : ¬ (t.c.length = vl k ∧ TabOk t) → ¬ TabsOk k r := fun h1 h2 => h1 (h2 c t ht)
        by_cases c1 : t.c.length = vl k
        · obtain ⟨w, g3, e62, rfl, x3⟩ := (check62_ok U (hs c t ht)).elim
          rw [c1] at ul
          by_cases c2 : TabOk t
          · rw [if_pos c2] at e62
            simp [l37_0, p1, rd1_of gP, p4, a1, a2, rl, p5, hcl, show (c : Int) < r.length by omega, b1, b2, ul, p3, hk, show (k : Int) < 32 by omega, rd1_of gR, q1r, b4, e62, u.ckv, RR.ckv, U.1.ck, ck, us, V.same, V.sames, z1]
            have us2 := u.ckv (some ()); have rs2 := RR.ckv (some ())
            simp [ck] at us2 rs2
            simp [us2, rs2]
            refine ⟨n, Nat.lt_succ_self n, xg.trans x3, by omega, by simp [p1], by simp [p3], by simp [p4], by simp [hc2, z1], fun i s hi hs2 => ?_⟩
            by_cases e : i = c
            · subst e; rw [ht] at hs2; cases hs2; exact ⟨c1, c2⟩
            · exact ha i s (by omega) hs2
          · rw [if_neg c2] at e62
            simp [l37_0, p1, rd1_of gP, p4, a1, a2, rl, p5, hcl, show (c : Int) < r.length by omega, b1, b2, ul, p3, hk, show (k : Int) < 32 by omega, rd1_of gR, q1r, b4, e62, ck, us, V.same, V.sames]
            have us2 := u.ckv (some ()); have rs2 := RR.ckv (some ())
            simp [ck] at us2 rs2
            simp [us2, rs2]
            exact ⟨xg.trans x3, .inr ⟨rfl, by simp, hrt fun h => c2 h.2⟩⟩
        · simp [l37_0, p1, rd1_of gP, p4, a1, a2, rl, p5, hcl, show (c : Int) < r.length by omega, b1, b2, ul, p3, hk, show (k : Int) < 32 by omega, rd1_of gR, q1r, show ¬ (t.c.length : Int) = vl k by omega, c1, gl_t, gk_t, u.ckv, RR.ckv, U.1.ck]
          exact ⟨xg, .inr ⟨rfl, by simp, hrt fun h => c1 h.1⟩⟩)
  exact loop r.length en h0 ⟨Ext.refl h0, Nat.le_refl _, e1, e3, e4, by rw [e5, Nat.sub_self]; rfl, fun i t hi => by omega⟩

theorem check37_ok {D : Nat → Prop} {h : H} {v : V} {S : List (List Tb)} (u : SetR D h v S) (sm : Small S) : RT (fun w h' => w = .int .i64 (if SetOk S then 0 else 2) ∧ Ext h h') (KW 37 [.agg [v]] h) := by
  obtain ⟨h1, b1, x1, g1, n1, u1⟩ := box25 u
  have ul := u1.len
  rw [w37, f37, s37]
  by_cases c0 : S.length = 32
  · have e48 := rows48_ok h1
    obtain ⟨h2, hh2⟩ : ∃ g, g = h1.new (.cells rowV 90 false) := ⟨_, rfl⟩
    have x2 : Ext h1 h2 := by rw [hh2]; exact (Ext.refl h1).new _
    have gR : h2.get h1.n = some (.cells rowV 90 false) := by rw [hh2, get_new_same]
    rw [← hh2] at e48
    have u2 := u1.ext x2
    have g2 : h2.get h.n = _ := (x2.get _ (H.get_lt g1)).trans g1
    have loop := loop_run (body := l37_1 KW loopZ) (fun n e g => Ext h2 g ∧ n ≤ 32 ∧ e.s [0, 1, 2, 3, 4, 5] 1 = .ptr h.n 0 ∧ e.s [0, 1, 2, 3, 4, 5] 3 = .sl h1.n 0 32 (.ex 32) ∧ e.s [0, 1, 2, 3, 4, 5] 4 = .int .i64 ((32 - n : Nat) : Int) ∧ RowsOk S (32 - n))
      (fun s => Ext h2 s.h ∧ ((s.x = .ex 0 ∧ SetOk S) ∨ (s.x = .rt ∧ s.e.s [0, 1, 2, 3, 4, 5] 2 = .int .i64 2 ∧ ¬ SetOk S)))
      (fun n e g ⟨xg, hn, p1, p3, p4, ha⟩ => by
        cases n with
        | zero =>
          simp [l37_1, p4]
          exact ⟨xg, .inl ⟨rfl, (setOk_iff c0).mpr ha⟩⟩
        | succ n =>
          obtain ⟨k, hk⟩ : ∃ k, k = 32 - (n + 1) := ⟨_, rfl⟩
          have hk2 : 32 - n = k + 1 := by omega
          have hkl : k < 32 := by omega
          rw [← hk] at p4 ha
          obtain ⟨r, hr⟩ := get_of_lt (l := S) (i := k) (by omega)
          have z1 : IntKind.i64.wrap ((k : Int) + 1) = k + 1 := wi64 (by omega) (by omega)
          have gb : g.get h.n = _ := (xg.get _ (H.get_lt g2)).trans g2
          have gRg : g.get h1.n = _ := (xg.get _ (H.get_lt gR)).trans gR
          have u3 := u2.ext xg
          obtain ⟨b, o, vr, q1, q2, R, _⟩ := u3.row hr
          have rl := R.len
          have hsm := sm.2 k r hr
          have q0r := rowV_at3 hkl (show 0 < 3 by omega)
          simp at q0r
          by_cases c1 : r.length = cx k
          · obtain ⟨⟨sx, se, sh⟩, j1, xs, j3⟩ := loop37 (v := v) (P := h.n) (R := h1.n) hkl u3 hr gb gRg hsm.1 hsm.2
              (en := ⟨[e.s [0, 1, 2, 3, 4, 5] 0, .ptr h.n 0, e.s [0, 1, 2, 3, 4, 5] 2, .sl h1.n 0 32 (.ex 32), .int .i64 k, .int .i64 0], 5, .int .i64 0⟩) (by simp) (by simp) (by simp) (by simp)
            simp only at xs j3
            rw [c1] at rl
            rcases j3 with ⟨rfl, i1, i3, i4, ok⟩ | ⟨rfl, p2, ok⟩
            · simp [l37_1, p4, hkl, show (k : Int) < 32 by omega, p1, rd1_of gb, q1, q2, rl, p3, rd1_of gRg, q0r, u3.ckv, R.ckv, j1, i4, z1]
              refine ⟨n, Nat.lt_succ_self n, xg.trans xs, by omega, by simp [i1], by simp [i3], by simp [hk2], fun k' r' hk' hr' => ?_⟩
              by_cases e : k' = k
              · subst e; rw [hr] at hr'; cases hr'; exact ⟨c1, ok⟩
              · exact ha k' r' (by omega) hr'
            · simp [l37_1, p4, hkl, show (k : Int) < 32 by omega, p1, rd1_of gb, q1, q2, rl, p3, rd1_of gRg, q0r, u3.ckv, R.ckv, j1]
              exact ⟨xg.trans xs, .inr ⟨rfl, by simp [p2], fun h => ok (h.2 k r hr).2⟩⟩
          · simp [l37_1, p4, hkl, show (k : Int) < 32 by omega, p1, rd1_of gb, q1, q2, rl, p3, rd1_of gRg, q0r, u3.ckv, R.ckv, c1, show ¬ (r.length : Int) = cx k by omega]
            exact ⟨xg, .inr ⟨rfl, by simp, fun h => c1 (h.2 k r hr).1⟩⟩)
    obtain ⟨⟨sx, se, sh⟩, q1, q2, q3⟩ := loop 32 ⟨[.agg [v], .ptr h.n 0, .int .i64 0, .sl h1.n 0 32 (.ex 32), .int .i64 0, .tup []], 4, .int .i64 0⟩ h2 ⟨Ext.refl h2, Nat.le_refl _, by simp, by simp, by simp, fun k r hk => by omega⟩
    simp only at q2 q3
    rcases q3 with ⟨rfl, ok⟩ | ⟨rfl, p2, ok⟩
    · simp [b1, rd1_of g1, ul, c0, e48, q1]
      exact ⟨by rw [if_pos ok], (x1.trans x2).trans q2⟩
    · simp [b1, rd1_of g1, ul, c0, e48, q1, p2]
      exact ⟨by rw [if_neg ok], (x1.trans x2).trans q2⟩
  · simp [b1, rd1_of g1, ul, c0, show ¬ (S.length : Int) = 32 by omega]
    exact ⟨by rw [if_neg fun a => c0 a.1], x1⟩
end Go.Proofs.Ytfjghgjkpenanaa
/- The document's Copy. -/
set_option linter.unusedVariables false
set_option linter.unusedSimpArgs false
set_option maxRecDepth 20000
namespace Go.Proofs.Ytfjghgjkpenanaa
open Go Go.Zf
open Go.Zf (wi64)

theorem apZ_nil0 {D : Nat → Prop} {h : H} {v : V} {e z bytes n : Nat} {cs : List V} (a : SlR D h v e z n cs) (hb : n * bytes ≤ 140737488355328) :
    ∃ v' h', apZ e z bytes h .nils v = some (v', h') ∧ GrowV h.n h' v' e z cs n ∧ Ext h h' := by
  obtain ⟨v', h', k1, k2, k3, k4, k5⟩ := apZ_grow (GrowV.nil h.n h e z) (Nat.le_refl _) a.lenOf a.first a.length (by simpa using hb)
  exact ⟨v', h', k1, by simpa using k2, k3, fun c hc => k4 c hc fun o n k e => by cases e⟩

theorem rd1_ext {h h' : H} (x : Ext h h') {b o : Nat} {v : V} (hb : b < h.n) (e : h.rd1 b o = some v) : h'.rd1 b o = some v := by
  unfold H.rd1 at e ⊢; rw [x.get b hb]; exact e

structure I11 (h0 : H) (k : Nat) (r : List Tb) (P p2 Q : Nat) (n : Nat) (e : E) (g : H) : Prop where
  hn : n ≤ r.length
  x : ∀ c, c < h0.n → g.get c = h0.get c
  gn : h0.n ≤ g.n
  ro : ∃ v, e.s [0, 1, 2, 3, 4, 5, 6, 7] 5 = v ∧ RowG h0.n g v (r.take (r.length - n))
  e1 : e.s [0, 1, 2, 3, 4, 5, 6, 7] 1 = .ptr P 0
  e2 : e.s [0, 1, 2, 3, 4, 5, 6, 7] 2 = .ptr p2 0
  e3 : e.s [0, 1, 2, 3, 4, 5, 6, 7] 3 = .ptr Q 0
  e4 : e.s [0, 1, 2, 3, 4, 5, 6, 7] 4 = .int .i64 k
  e6 : e.s [0, 1, 2, 3, 4, 5, 6, 7] 6 = .int .i64 ((r.length - n : Nat) : Int)

theorem take_snoc {α : Type} {l : List α} {i : Nat} {x : α} (h : l[i]? = some x) : l.take (i + 1) = l.take i ++ [x] := by
  rw [List.take_add_one, h]; rfl

theorem loop11 {D : Nat → Prop} {h0 : H} {k P p2 Q : Nat} {v : V} {S : List (List Tb)} {r : List Tb} (hS : SetR D h0 v S) (hr : S[k]? = some r) (hP : h0.get P = some (.cells [v] 25 false)) (hl : r.length < 1000) (hs : ∀ (i : Nat) (t : Tb), r[i]? = some t → t.c.length < 1000) {e : E} {g : H} (hi : I11 h0 k r P p2 Q r.length e g) :
    ∃ e' g', loopZ (l11_0 KW loopZ) e g = some ⟨.ex 2, e', g'⟩ ∧ I11 h0 k r P p2 Q 0 e' g' := by
  have loop := loop_run (body := l11_0 KW loopZ) (I11 h0 k r P p2 Q) (fun s => s.x = .ex 2 ∧ I11 h0 k r P p2 Q 0 s.e s.h)
    (fun n e g hi => by
      obtain ⟨hn, x, gn, ⟨vo, e5, G⟩, e1, e2, e3, e4, e6⟩ := hi
      have u : SetR D g v S := hS.keep fun b _ hb => x b hb
      obtain ⟨bR, oR, vr, a1, a2, RR, _, hbR⟩ := u.row hr
      have gP : g.get P = _ := (x P (H.get_lt hP)).trans hP
      have rl := RR.len
      cases n with
      | zero =>
        simp [l11_0, e1, rd1_of gP, e4, a1, a2, rl, e6]
        exact ⟨rfl, hn, x, gn, ⟨vo, by simp [e5], G⟩, by simp [e1], by simp [e2], by simp [e3], by simp [e4], by simp [e6]⟩
      | succ n =>
        obtain ⟨c, hc⟩ : ∃ c, c = r.length - (n + 1) := ⟨_, rfl⟩
        have hc2 : r.length - n = c + 1 := by omega
        rw [← hc] at e6 G
        have hcl : c < r.length := by omega
        obtain ⟨t, ht⟩ := get_of_lt hcl
        have z1 : IntKind.i64.wrap ((c : Int) + 1) = c + 1 := wi64 (by omega) (by omega)
        obtain ⟨b, o, vc, b1, b2, b3, b4, U, _, hb⟩ := RR.tab ht
        have htl := hs c t ht
        -- the table's box
        obtain ⟨g1, hg1⟩ : ∃ g1, g1 = (g.new (.cells [.nils, .int .i64 0] 72 false)).put g.n (.cells [.nils, .int .i64 t.n] 72 false) := ⟨_, rfl⟩
        have x1 : Ext g g1 := by rw [hg1]; exact ((Ext.refl g).new _).put (Nat.le_refl _) _
        have n1 : g1.n = g.n + 1 := by rw [hg1, H.n_put, H.n_new]
        have r1 : g1.get g.n = some (.cells [.nils, .int .i64 t.n] 72 false) := by rw [hg1, get_put_same (by rw [H.n_new]; omega)]
        have gP1 : g1.get P = _ := (x1.get _ (H.get_lt gP)).trans gP
        have a21 := rd1_ext x1 hbR a2
        have b21 := rd1_ext x1 hb b2
        have U1 := U.ext x1
        obtain ⟨v', g2, k1, k2, k3⟩ := apZ_nil0 (e := 38) (z := 1) (bytes := 2) U1.1 (by omega)
        have n2 := k3.n
        have r2 : g2.get g.n = _ := (k3.get _ (H.get_lt r1)).trans r1
        obtain ⟨g3, hg3⟩ : ∃ g3, g3 = g2.put g.n (.cells [v', .int .i64 t.n] 72 false) := ⟨_, rfl⟩
        have n3 : g3.n = g2.n := by rw [hg3, H.n_put]
        have r3 : g3.get g.n = some (.cells [v', .int .i64 t.n] 72 false) := by rw [hg3, get_put_same (H.get_lt r2)]
        have G3 : GrowV g1.n g3 v' 38 1 (wordsV t.c) t.c.length := by rw [hg3]; exact k2.put (k2.fresh.ne (by omega))
        have x3 : Ext g g3 := by rw [hg3]; exact (x1.trans k3).put (Nat.le_refl _) _
        have U3 : U16 (fun b => h0.n ≤ b) g3 v' t.c := ⟨GrowV.slr G3 fun b hb => by show h0.n ≤ b; omega, U1.2⟩
        obtain ⟨v5, g5, c1, c2, c3, c4⟩ := (G.ext x3).push U3 (by omega) (by rw [List.length_take]; omega)
        simp [l11_0, e1, rd1_of gP, e4, a1, a2, rl, e6, hcl, show (c : Int) < r.length by omega, b1, b3, nw, bl, fillW, wrN_of (o := 0) get_new_same, splice, ← hg1, rd1_of r1, rd1_of gP1, a21, b21, k1, k2.stZ, wr1_of (o := 0) r2, ← hg3, u.ckv, RR.ckv, U1.1.ck, rdN_of (o := 0) (n := 2) r3 (by simp), bs, k2.cells, e5, c1, z1]
        exact ⟨n, Nat.lt_succ_self n, by omega, fun d hd => by rw [c4 d hd, x3.get d (by omega), x d hd], by omega, ⟨v5, by simp, by rw [hc2, take_snoc ht]; exact c2⟩, by simp [e1], by simp [e2], by simp [e3], by simp [e4], by simp [hc2]⟩)
  obtain ⟨⟨x, e', g'⟩, r1, r2, r3⟩ := loop r.length e g hi
  simp only at r2 r3
  subst r2
  exact ⟨e', g', r1, r3⟩

structure O11 (h0 : H) (S : List (List Tb)) (P P2 Q : Nat) (n : Nat) (e : E) (g : H) : Prop where
  hn : n ≤ S.length
  x : ∀ c, c < h0.n → c ≠ Q → g.get c = h0.get c
  gn : h0.n ≤ g.n
  b : SetG h0.n Q g (S.take (S.length - n))
  e1 : e.s [0, 1, 2, 3, 4, 5, 6, 7] 1 = .ptr P 0
  e2 : e.s [0, 1, 2, 3, 4, 5, 6, 7] 2 = .ptr P2 0
  e3 : e.s [0, 1, 2, 3, 4, 5, 6, 7] 3 = .ptr Q 0
  e4 : e.s [0, 1, 2, 3, 4, 5, 6, 7] 4 = .int .i64 ((S.length - n : Nat) : Int)

theorem copy11_ok {D : Nat → Prop} {h : H} {v : V} {S : List (List Tb)} (u : SetR D h v S) (sm : Small S) : RT (fun w h' => ∃ v', w = .agg [v'] ∧ SetW (fun b => h.n ≤ b) h' v' S ∧ Ext h h') (KW 11 [.agg [v]] h) := by
  obtain ⟨h1, b1, x1, g1, n1, u1⟩ := box25 u
  obtain ⟨h2, hh2⟩ : ∃ g, g = h1.new (.cells [.nils] 25 false) := ⟨_, rfl⟩
  obtain ⟨h3, hh3⟩ : ∃ g, g = h2.new (.cells [.nils] 25 false) := ⟨_, rfl⟩
  have x2 : Ext h1 h2 := by rw [hh2]; exact (Ext.refl h1).new _
  have x3 : Ext h2 h3 := by rw [hh3]; exact (Ext.refl h2).new _
  have n2 : h2.n = h1.n + 1 := by rw [hh2, H.n_new]
  have n3 : h3.n = h2.n + 1 := by rw [hh3, H.n_new]
  have gP : h3.get h.n = some (.cells [v] 25 false) := by rw [x3.get _ (by omega), x2.get _ (by omega), g1]
  have gP2 : h3.get h1.n = some (.cells [.nils] 25 false) := by rw [x3.get _ (by omega), hh2, get_new_same]
  have gQ : h3.get h2.n = some (.cells [.nils] 25 false) := by rw [hh3, get_new_same]
  have u3 : SetR (fun b => b < h.n) h3 v S := ((u.mono (E := fun b => b < h.n) fun b hb _ => hb).ext x1).ext x2 |>.ext x3
  have ul := u3.len
  have loop := loop_run (body := l11_1 KW loopZ) (O11 h3 S h.n h1.n h2.n) (fun s => s.x = .ex 0 ∧ O11 h3 S h.n h1.n h2.n 0 s.e s.h)
    (fun n e g hi => by
      obtain ⟨hn, x, gn, b, e1, e2, e3, e4⟩ := hi
      have gPg : g.get h.n = some (.cells [v] 25 false) := by rw [x _ (by omega) (by omega), gP]
      cases n with
      | zero =>
        simp [l11_1, e1, rd1_of gPg, ul, e4]
        exact ⟨rfl, hn, x, gn, b, by simp [e1], by simp [e2], by simp [e3], by simp [e4]⟩
      | succ n =>
        obtain ⟨k, hk⟩ : ∃ k, k = S.length - (n + 1) := ⟨_, rfl⟩
        have hk2 : S.length - n = k + 1 := by omega
        have hkl : k < S.length := by omega
        rw [← hk] at e4 b
        have hS := sm.1
        obtain ⟨r, hr⟩ := get_of_lt hkl
        have hsm := sm.2 k r hr
        have z1 : IntKind.i64.wrap ((k : Int) + 1) = k + 1 := wi64 (by omega) (by omega)
        have ug : SetR (fun b => b < h.n) g v S := u3.keep fun b hb hb2 => x b hb2 (by have hb : b < h.n := hb; omega)
        obtain ⟨f, g1, j1, I⟩ := loop11 (h0 := g) (k := k) (P := h.n) (p2 := h1.n) (Q := h2.n) ug hr gPg hsm.1 hsm.2 (e := ⟨[e.s [0, 1, 2, 3, 4, 5, 6, 7] 0, .ptr h.n 0, .ptr h1.n 0, .ptr h2.n 0, .int .i64 k, .nils, .int .i64 0, e.s [0, 1, 2, 3, 4, 5, 6, 7] 7], 6, .int .i64 0⟩) (g := g)
          ⟨Nat.le_refl _, fun _ _ => rfl, Nat.le_refl _, ⟨.nils, by simp, by rw [Nat.sub_self]; exact RowG.nil _ _⟩, by simp, by simp, by simp, by simp, by simp⟩
        obtain ⟨_, x', gn', ⟨vr, f5, G⟩, f1, f2, f3, f4, f6⟩ := I
        rw [Nat.sub_zero, List.take_length] at G
        obtain ⟨ov, v', g2, g3, c1, c2, c3, c4, c5, c6, c7, c8⟩ := b.push (by omega) x' gn' gn (G.rowW gn' fun b hb => Nat.le_trans gn hb) (by rw [List.length_take]; omega)
        simp [l11_1, e1, rd1_of gPg, ul, e4, show (k : Int) < S.length by omega, hkl, e2, e3, j1, f3, rd1_of c1, f5, bs, fillW, G.cells, splice, c2, c4, c3, f4, z1]
        exact ⟨n, Nat.lt_succ_self n, by omega, fun c hc hcq => by rw [c6 c hc hcq, x c hc hcq], by omega, by rw [hk2, take_snoc hr]; exact c5, by simp [f1], by simp [f2], by simp [f3], by simp [hk2]⟩)
  obtain ⟨⟨sx, se, sh⟩, q1, q2, I⟩ := loop S.length ⟨[.agg [v], .ptr h.n 0, .ptr h1.n 0, .ptr h2.n 0, .int .i64 0, .tup [], .tup [], .tup []], 4, .int .i64 0⟩ h3 ⟨Nat.le_refl _, fun _ _ _ => rfl, Nat.le_refl _, by rw [Nat.sub_self]; exact SetG.nil gQ, by simp, by simp, by simp, by simp⟩
  simp only at q2 I
  subst q2
  obtain ⟨_, x, gn, b, e1, e2, e3, e4⟩ := I
  obtain ⟨v', sQ, W⟩ := b.setW
  have sP : sh.get h1.n = some (.cells [.nils] 25 false) := by rw [x _ (by omega) (by omega), gP2]
  obtain ⟨h8, hh8⟩ : ∃ g, g = sh.put h1.n (.cells [v'] 25 false) := ⟨_, rfl⟩
  have r8 : h8.get h1.n = some (.cells [v'] 25 false) := by rw [hh8, get_put_same (H.get_lt sP)]
  rw [w11, f11, s11]
  simp [b1, nw, ← hh2, ← hh3, q1, e3, rdN_of (o := 0) (n := 1) sQ (by simp), e2, wrN_of (o := 0) sP, splice, ← hh8, rdN_of (o := 0) (n := 1) r8 (by simp)]
  rw [Nat.sub_zero, List.take_length] at W
  refine ⟨v', rfl, ?_, ?_⟩
  · have W8 : SetW (fun b => h3.n ≤ b) h8 v' S := W.keep fun b hb _ => by rw [hh8, get_put_ne]; have hb : h3.n ≤ b := hb; omega
    exact W8.mono fun b _ hb => by have hb : h3.n ≤ b := hb; show h.n ≤ b; omega
  · refine ⟨by rw [hh8, H.n_put]; omega, fun c hc => ?_⟩
    rw [hh8, get_put_ne (by omega), x c (by omega) (by omega), x3.get c (by omega), x2.get c (by omega), x1.get c hc]
end Go.Proofs.Ytfjghgjkpenanaa
/- The program's Copy. -/
set_option linter.unusedVariables false
set_option linter.unusedSimpArgs false
set_option maxRecDepth 20000
namespace Go.Proofs.Ytfjghgjkpenanaa
open Go Go.Zf
open Go.Zf (wi64)

theorem clone63_ok {D : Nat → Prop} {h : H} {v : V} {r : List Tb} {cs : List V} (u : SlR D h v tT 2 r.length cs) (hl : r.length < 1000) : RT (fun w h' => NewS h.n h' w tT 2 cs r.length ∧ Ext h h') (KW 63 [v] h) := by
  rw [w63, f63, s63]
  rcases u with ⟨rfl, h2, h3⟩ | ⟨b, o, k, c, hv, h2, h3, h4, h5⟩
  · simp
    exact ⟨.inl ⟨rfl, h2, h3⟩, Ext.refl h⟩
  · obtain ⟨v', h', k1, k2, k3, k4⟩ := apZ_clone (D := D) (n := r.length) (cs := cs) (bytes := 32) (.inr ⟨b, o, k, c, hv, h2, h3, h4, h5⟩) (by omega)
    have hn : binK 3 .eql v .nils = some (.bool false) := by rw [hv]; rfl
    simp [hn, bs, fillW, k1]
    exact ⟨k2, k3⟩

structure I38 (h0 : H) (q bb : Nat) (r : List Tb) (P2 Q k : Nat) (vr v13 : V) (len : Nat) (n : Nat) (e : E) (g : H) : Prop where
  hn : n ≤ r.length
  x : ∀ c, c < h0.n → c ≠ bb → g.get c = h0.get c
  gn : h0.n ≤ g.n
  ro : ∃ cs, g.get bb = some (.cells cs tT false) ∧ cs.length = r.length * 2 ∧ Els (fun c => q ≤ c) g cs (r.take (r.length - n)) ∧ ∀ (i : Nat) (t : Tb), r[i]? = some t → cs[2 * i + 1]? = some (.int .i64 t.n)
  e2 : e.s [0, 1, 2, 3, 4, 5, 6, 13, 14, 15, 27, 28] 2 = .ptr P2 0
  e3 : e.s [0, 1, 2, 3, 4, 5, 6, 13, 14, 15, 27, 28] 3 = .ptr Q 0
  e4 : e.s [0, 1, 2, 3, 4, 5, 6, 13, 14, 15, 27, 28] 4 = .int .i64 k
  e5 : e.s [0, 1, 2, 3, 4, 5, 6, 13, 14, 15, 27, 28] 5 = vr
  e13 : e.s [0, 1, 2, 3, 4, 5, 6, 13, 14, 15, 27, 28] 13 = v13
  e14 : e.s [0, 1, 2, 3, 4, 5, 6, 13, 14, 15, 27, 28] 14 = .int .i64 len
  e15 : e.s [0, 1, 2, 3, 4, 5, 6, 13, 14, 15, 27, 28] 15 = .int .i64 k
  e27 : e.s [0, 1, 2, 3, 4, 5, 6, 13, 14, 15, 27, 28] 27 = .int .i64 r.length
  e28 : e.s [0, 1, 2, 3, 4, 5, 6, 13, 14, 15, 27, 28] 28 = .int .i64 ((r.length - n : Nat) : Int)

theorem set_get {cs : List V} {o j : Nat} {x : V} (hl : o < cs.length) : (cs.set o x)[j]? = if j = o then some x else cs[j]? := by
  rw [List.getElem?_set]
  by_cases e : o = j
  · subst e; simp [hl]
  · rw [if_neg e, if_neg (fun h => e h.symm)]

theorem loop38 {D : Nat → Prop} {h0 : H} {q bb P2 Q k len bT : Nat} {vr v13 : V} {r : List Tb} {rc : List V} {kk : Cap} (RR : RowR D h0 vr r) (hD : ∀ b, D b → b ≠ bb) (hbb : bb < h0.n) (hq : q ≤ h0.n) (hQ : h0.get Q = some (.cells [.sl bT 0 len (.ex len)] 25 false)) (hT : h0.get bT = some (.cells rc 75 false)) (hk : rc[k]? = some (.sl bb 0 r.length kk)) (hkl : k < len) (hQb : Q ≠ bb) (hTb : bT ≠ bb) (hl : r.length < 1000) (hs : ∀ (i : Nat) (t : Tb), r[i]? = some t → t.c.length < 1000) {e : E} {g : H} (hi : I38 h0 q bb r P2 Q k vr v13 len r.length e g) :
    ∃ e' g', loopZ (l38_0 KW loopZ) e g = some ⟨.ex 2, e', g'⟩ ∧ I38 h0 q bb r P2 Q k vr v13 len 0 e' g' := by
  have loop := loop_run (body := l38_0 KW loopZ) (I38 h0 q bb r P2 Q k vr v13 len) (fun s => s.x = .ex 2 ∧ I38 h0 q bb r P2 Q k vr v13 len 0 s.e s.h)
    (fun n e g hi => by
      obtain ⟨hn, x, gn, ⟨cs, B, L, G, N⟩, e2, e3, e4, e5, e13, e14, e15, e27, e28⟩ := hi
      have R : RowR D g vr r := RR.keep fun b hb hb2 => x b hb2 (hD b hb)
      cases n with
      | zero =>
        simp [l38_0, e27, e28]
        exact ⟨rfl, hn, x, gn, ⟨cs, B, L, G, N⟩, by simp [e2], by simp [e3], by simp [e4], by simp [e5], by simp [e13], by simp [e14], by simp [e15], by simp [e27], by simp [e28]⟩
      | succ n =>
        obtain ⟨c, hc⟩ : ∃ c, c = r.length - (n + 1) := ⟨_, rfl⟩
        have hc2 : r.length - n = c + 1 := by omega
        rw [← hc] at e28 G
        have hcl : c < r.length := by omega
        obtain ⟨t, ht⟩ := get_of_lt hcl
        have z1 : IntKind.i64.wrap ((c : Int) + 1) = c + 1 := wi64 (by omega) (by omega)
        obtain ⟨b, o, vc, b1, b2, b3, b4, U, _, hb⟩ := R.tab ht
        obtain ⟨v', g1, a1, S1, x1, _⟩ := (clone61_ok U (hs c t ht)).elim
        have n1 := x1.n
        have gQ : g.get Q = _ := (x Q (H.get_lt hQ) hQb).trans hQ
        have gT : g.get bT = _ := (x bT (H.get_lt hT) hTb).trans hT
        have gQ1 : g1.get Q = _ := (x1.get _ (H.get_lt gQ)).trans gQ
        have gT1 : g1.get bT = _ := (x1.get _ (H.get_lt gT)).trans gT
        have B1 : g1.get bb = _ := (x1.get _ (H.get_lt B)).trans B
        have U1 : U16 (fun b => q ≤ b) g1 v' t.c := ⟨S1.slr fun b hb _ => by show q ≤ b; omega, U.2⟩
        have hv' := U1.1.stZ
        obtain ⟨g2, hg2⟩ : ∃ g2, g2 = g1.put bb (.cells (cs.set (c * 2) v') 72 false) := ⟨_, rfl⟩
        have hw : g1.wr1 bb (c * 2) v' = some g2 := by rw [wr1_of B1 (by omega), hg2]
        have hkeep : ∀ b c, g1.get b = some (.cells c tU false) → g2.get b = g1.get b := fun b c hbc => by
          rw [hg2, get_put_ne]; rintro rfl; rw [B1] at hbc; cases hbc
        have G2 : Els (fun b => q ≤ b) g2 (cs.set (c * 2) v') (r.take (c + 1)) := by
          intro i s hs2
          have hil := lt_of_get hs2
          rw [List.length_take] at hil
          rw [List.getElem?_take, if_pos (by omega)] at hs2
          rw [set_get (by omega), set_get (by omega), if_neg (show ¬ 2 * i + 1 = c * 2 by omega), N i s hs2]
          by_cases e : i = c
          · subst e
            rw [ht] at hs2; cases hs2
            exact ⟨v', by rw [if_pos (show 2 * i = i * 2 by omega)], rfl, U1.keep fun b c _ hb => hkeep b c hb⟩
          · obtain ⟨vc', k1, k2, k3⟩ := G i s (by rw [List.getElem?_take, if_pos (by omega), hs2])
            exact ⟨vc', by rw [if_neg (show ¬ 2 * i = c * 2 by omega), k1], rfl, (k3.ext x1).keep fun b c _ hb => hkeep b c hb⟩
        simp [l38_0, e27, e28, hcl, show (c : Int) < r.length by omega, e5, b1, b2, a1, e3, rd1_of gQ1, e4, hkl, show (k : Int) < len by omega, rd1_of gT1, hk, hv', hw, rd1_of gQ, rd1_of gT, U.1.ck, z1]
        exact ⟨n, Nat.lt_succ_self n, by omega, fun d hd hdb => by rw [hg2, get_put_ne hdb, x1.get d (by omega), x d hd hdb], by rw [hg2, H.n_put]; omega, ⟨_, by rw [hg2, get_put_same (H.get_lt B1)], by rw [List.length_set, L], by rw [hc2]; exact G2, fun i s hs2 => by rw [set_get (by omega), if_neg (show ¬ 2 * i + 1 = c * 2 by omega), N i s hs2]⟩, by simp [e2], by simp [e3], by simp [e4], by simp [e5], by simp [e13], by simp [e14], by simp [e15], by simp [e27], by simp [hc2]⟩)
  obtain ⟨⟨x, e', g'⟩, r1, r2, r3⟩ := loop r.length e g hi
  simp only at r2 r3
  subst r2
  exact ⟨e', g', r1, r3⟩

/-- No row is empty. -/
def Full (S : List (List Tb)) : Prop := ∀ (i : Nat) (r : List Tb), S[i]? = some r → r ≠ []
theorem SetOk.full {S : List (List Tb)} (a : SetOk S) : Full S := fun i r hr e => by
  have h1 := (a.2 i r hr).1
  have hk := lt_of_get hr
  rw [a.1] at hk
  have := cx_le hk
  rw [e] at h1; simp at h1; omega
def PartR (D : Nat → Prop) (g : H) (cs : List V) (S : List (List Tb)) (k : Nat) (B : Nat → Nat) : Prop :=
  (∀ (i : Nat) (r : List Tb), i < k → S[i]? = some r → ∃ vr, cs[i]? = some vr ∧ RowW D g vr (B i) r) ∧ (Full S → ∀ i j, i < j → j < k → B i < B j) ∧ (Full S → ∀ i, i < k → B i < g.n)
/-- A set in blocks of its own, whose rows may be empty. -/
def SetP (D : Nat → Prop) (h : H) (v : V) (S : List (List Tb)) : Prop :=
  ∃ cs B b k, v = .sl b 0 S.length k ∧ h.get b = some (.cells cs tR false) ∧ cs.length = S.length ∧ (D b ∧ CapOk 1 S.length k) ∧ PartR D h cs S S.length B
theorem SetP.setR {D : Nat → Prop} {h : H} {v : V} {S : List (List Tb)} (a : SetP D h v S) : SetR D h v S := by
  obtain ⟨cs, B, b, k, rfl, h1, h2, h3, h4⟩ := a
  exact ⟨cs, SlR.of h1 (by omega) h3.1 h3.2, fun i r hr => by obtain ⟨vr, k1, k2⟩ := h4.1 i r (lt_of_get hr) hr; exact ⟨vr, k1, k2.rowR⟩⟩
theorem SetP.setW {D : Nat → Prop} {h : H} {v : V} {S : List (List Tb)} (a : SetP D h v S) (f : Full S) : SetW D h v S := by
  obtain ⟨cs, B, b, k, rfl, h1, h2, h3, h4⟩ := a
  exact ⟨cs, B, .inr ⟨b, k, rfl, h1, h2, h3⟩, fun i r hr => h4.1 i r (lt_of_get hr) hr, fun i j hij hj => h4.2.1 f i j hij hj⟩

structure O38 (h0 : H) (S : List (List Tb)) (P2 Q bT : Nat) (v : V) (n : Nat) (e : E) (g : H) : Prop where
  hn : n ≤ S.length
  x : ∀ c, c < h0.n → c ≠ bT → g.get c = h0.get c
  gn : h0.n ≤ g.n
  b : ∃ cs B, g.get bT = some (.cells cs tR false) ∧ cs.length = S.length ∧ PartR (fun b => h0.n ≤ b) g cs S (S.length - n) B
  e2 : e.s [0, 1, 2, 3, 4, 5, 6, 13, 14, 15, 27, 28] 2 = .ptr P2 0
  e3 : e.s [0, 1, 2, 3, 4, 5, 6, 13, 14, 15, 27, 28] 3 = .ptr Q 0
  e13 : e.s [0, 1, 2, 3, 4, 5, 6, 13, 14, 15, 27, 28] 13 = v
  e14 : e.s [0, 1, 2, 3, 4, 5, 6, 13, 14, 15, 27, 28] 14 = .int .i64 S.length
  e15 : e.s [0, 1, 2, 3, 4, 5, 6, 13, 14, 15, 27, 28] 15 = .int .i64 ((S.length - n : Nat) : Int)

theorem PartR.next {p : Nat} {g g' : H} {cs : List V} {S : List (List Tb)} {k bT bb : Nat} {B : Nat → Nat} {w : V} {r : List Tb} (a : PartR (fun b => p ≤ b) g cs S k B) (hk : k < cs.length) (hr : S[k]? = some r) (hT : g.get bT = some (.cells cs tR false)) (hg : ∀ c, c < g.n → c ≠ bT → g'.get c = g.get c) (hn : g.n ≤ g'.n) (hw : RowW (fun b => p ≤ b) g' w bb r) (hbb : r ≠ [] → g.n ≤ bb ∧ bb < g'.n) :
    ∃ B', PartR (fun b => p ≤ b) g' (cs.set k w) S (k + 1) B' := by
  refine ⟨fun i => if i = k then bb else B i, fun i s hi hs => ?_, fun f i j hij hj => ?_, fun f i hi => ?_⟩
  · rw [set_get hk]
    by_cases e : i = k
    · subst e
      rw [hr] at hs; cases hs
      exact ⟨w, by rw [if_pos rfl], by simp only [if_true]; exact hw⟩
    · obtain ⟨vr, k1, k2⟩ := a.1 i s (by omega) hs
      refine ⟨vr, by rw [if_neg e, k1], ?_⟩
      simp only [if_neg e]
      refine k2.keep fun b c t _ ht hb => hg b (H.get_lt hb) ?_
      rintro rfl
      rw [hT] at hb
      simp only [Option.some.injEq, Blk.cells.injEq] at hb
      rcases ht with rfl | rfl <;> (obtain ⟨_, hb, _⟩ := hb; cases hb)
  · have hb := hbb (f k r hr)
    by_cases ej : j = k
    · simp only [if_neg (show i ≠ k by omega), if_pos ej]
      have := a.2.2 f i (by omega); omega
    · simp only [if_neg (show i ≠ k by omega), if_neg ej]
      exact a.2.1 f i j hij (by omega)
  · have hb := hbb (f k r hr)
    by_cases ei : i = k
    · simp only [if_pos ei]; exact hb.2
    · simp only [if_neg ei]
      have := a.2.2 f i (by omega); omega
end Go.Proofs.Ytfjghgjkpenanaa
/- The program's Copy: the whole. -/
set_option linter.unusedVariables false
set_option linter.unusedSimpArgs false
set_option maxRecDepth 20000
namespace Go.Proofs.Ytfjghgjkpenanaa
open Go Go.Zf
open Go.Zf (wi64)

theorem Els.none (D : Nat → Prop) (h : H) (cs : List V) {r : List Tb} : Els D h cs (r.take 0) := fun i t hi => by simp at hi

theorem copy38_ok {D : Nat → Prop} {h : H} {v : V} {S : List (List Tb)} (u : SetR D h v S) (sm : Small S) : RT (fun w h' => ∃ v', w = .agg [v'] ∧ SetP (fun b => h.n ≤ b) h' v' S ∧ Ext h h') (KW 38 [.agg [v]] h) := by
  have hS := sm.1
  obtain ⟨h1, b1, x1, g1, n1, u1⟩ := box25 u
  obtain ⟨h2, hh2⟩ : ∃ g, g = h1.new (.cells [.nils] 25 false) := ⟨_, rfl⟩
  have x2 : Ext h1 h2 := by rw [hh2]; exact (Ext.refl h1).new _
  have n2 : h2.n = h1.n + 1 := by rw [hh2, H.n_new]
  obtain ⟨h3, hh3⟩ : ∃ g, g = h2.new (.cells (reps S.length [.nils]) 75 false) := ⟨_, rfl⟩
  have x3 : Ext h2 h3 := by rw [hh3]; exact (Ext.refl h2).new _
  have n3 : h3.n = h2.n + 1 := by rw [hh3, H.n_new]
  obtain ⟨h4, hh4⟩ : ∃ g, g = (h3.new (.cells [.nils] 25 false)).put h3.n (.cells [.sl h2.n 0 S.length (.ex S.length)] 25 false) := ⟨_, rfl⟩
  have x4 : Ext h3 h4 := by rw [hh4]; exact ((Ext.refl h3).new _).put (Nat.le_refl _) _
  have n4 : h4.n = h3.n + 1 := by rw [hh4, H.n_put, H.n_new]
  have gP : h2.get h.n = some (.cells [v] 25 false) := by rw [x2.get _ (by omega), g1]
  have gP4 : h4.get h.n = some (.cells [v] 25 false) := by rw [x4.get _ (by omega), x3.get _ (by omega), gP]
  have gP2 : h4.get h1.n = some (.cells [.nils] 25 false) := by rw [x4.get _ (by omega), x3.get _ (by omega), hh2, get_new_same]
  have gT : h4.get h2.n = some (.cells (reps S.length [.nils]) 75 false) := by rw [x4.get _ (by omega), hh3, get_new_same]
  have gQ : h4.get h3.n = some (.cells [.sl h2.n 0 S.length (.ex S.length)] 25 false) := by rw [hh4, get_put_same (by rw [H.n_new]; omega)]
  have u4 : SetR (fun b => b < h.n) h4 v S := (((u.mono (E := fun b => b < h.n) fun b hb _ => hb).ext x1).ext x2 |>.ext x3).ext x4
  have ul := u4.len
  have hms : ms h2 75 24 [.nils] (.int .i64 S.length) (.int .i64 S.length) = some (.sl h2.n 0 S.length (.ex S.length), h3) := by
    simp only [ms]
    rw [if_pos ⟨by omega, by omega, by omega, by omega, trivial⟩, Int.toNat_natCast, ← hh3]
  have loop := loop_run (body := l38_1 KW loopZ) (O38 h4 S h1.n h3.n h2.n v) (fun s => s.x = .ex 0 ∧ O38 h4 S h1.n h3.n h2.n v 0 s.e s.h)
    (fun n e g hi => by
      obtain ⟨hn, x, gn, ⟨cs, B, bT, L, PR⟩, e2, e3, e13, e14, e15⟩ := hi
      cases n with
      | zero =>
        simp [l38_1, e14, e15]
        exact ⟨rfl, hn, x, gn, ⟨cs, B, bT, L, PR⟩, by simp [e2], by simp [e3], by simp [e13], by simp [e14], by simp [e15]⟩
      | succ n =>
        obtain ⟨k, hk⟩ : ∃ k, k = S.length - (n + 1) := ⟨_, rfl⟩
        have hk2 : S.length - n = k + 1 := by omega
        have hkl : k < S.length := by omega
        rw [← hk] at e15 PR
        obtain ⟨r, hr⟩ := get_of_lt hkl
        have hsm := sm.2 k r hr
        have z1 : IntKind.i64.wrap ((k : Int) + 1) = k + 1 := wi64 (by omega) (by omega)
        have ug : SetR (fun b => b < h.n) g v S := u4.keep fun b hb hb2 => x b hb2 (by have hb : b < h.n := hb; omega)
        obtain ⟨bR, oR, vr, q1, q2, RR, _, hbR⟩ := ug.row hr
        obtain ⟨rcs, RS, RE⟩ := RR
        obtain ⟨w, g1, a1, W, y1⟩ := (clone63_ok RS hsm.1).elim
        have m1 := y1.n
        have gQg : g.get h3.n = _ := (x _ (by omega) (by omega)).trans gQ
        have gQ1 : g1.get h3.n = _ := (y1.get _ (H.get_lt gQg)).trans gQg
        have bT1 : g1.get h2.n = _ := (y1.get _ (H.get_lt bT)).trans bT
        obtain ⟨g2, hg2⟩ : ∃ g2, g2 = g1.put h2.n (.cells (cs.set k w) 75 false) := ⟨_, rfl⟩
        have m2 : g2.n = g1.n := by rw [hg2, H.n_put]
        have bT2 : g2.get h2.n = some (.cells (cs.set k w) 75 false) := by rw [hg2, get_put_same (H.get_lt bT1)]
        have gQ2 : g2.get h3.n = _ := (show g2.get h3.n = g1.get h3.n by rw [hg2, get_put_ne (by omega)]).trans gQ1
        have hsw := (W.slr (D := fun _ => True) fun _ _ _ => trivial)
        have hst := hsw.stZ
        have hw : g1.wr1 h2.n k w = some g2 := by rw [wr1_of bT1 (by omega), hg2]
        have hx2 : ∀ c, c < g.n → c ≠ h2.n → g2.get c = g.get c := fun c hc hcb => by rw [hg2, get_put_ne hcb, y1.get c hc]
        have rl := RS.len
        rcases W with ⟨rfl, hr0, hc0⟩ | ⟨bb, kk, rfl, Wb, Wl, Wq, Wk⟩
        · have hre : r = [] := List.length_eq_zero_iff.mp hr0
          obtain ⟨B', PR'⟩ := PR.next (g' := g2) (bb := 0) (by omega) hr bT hx2 (by omega) (.inl ⟨rfl, hre⟩) (fun h => (h hre).elim)
          have hl0 : loopZ (l38_0 KW loopZ) ⟨[e.s [0, 1, 2, 3, 4, 5, 6, 13, 14, 15, 27, 28] 0, e.s [0, 1, 2, 3, 4, 5, 6, 13, 14, 15, 27, 28] 1, .ptr h1.n 0, .ptr h3.n 0, .int .i64 k, vr, e.s [0, 1, 2, 3, 4, 5, 6, 13, 14, 15, 27, 28] 6, v, .int .i64 S.length, .int .i64 k, .int .i64 0, .int .i64 0], 28, .int .i64 0⟩ g2 = some ⟨.ex 2, ⟨[e.s [0, 1, 2, 3, 4, 5, 6, 13, 14, 15, 27, 28] 0, e.s [0, 1, 2, 3, 4, 5, 6, 13, 14, 15, 27, 28] 1, .ptr h1.n 0, .ptr h3.n 0, .int .i64 k, vr, e.s [0, 1, 2, 3, 4, 5, 6, 13, 14, 15, 27, 28] 6, v, .int .i64 S.length, .int .i64 k, .int .i64 0, .int .i64 0], 29, .bool false⟩, g2⟩ := by
            rw [loopZ_eq]; simp [l38_0]
          rw [hr0] at rl
          simp at rl
          simp [l38_1, e14, e15, hkl, show (k : Int) < S.length by omega, e13, q1, q2, a1, e3, rd1_of gQ1, hst, hw, rd1_of gQg, rl, e2, hl0, z1]
          exact ⟨n, Nat.lt_succ_self n, by omega, fun c hc hcq => by rw [hx2 c (by omega) hcq, x c hc hcq], by omega, ⟨_, B', bT2, by rw [List.length_set, L], by rw [hk2]; exact PR'⟩, by simp, by simp, by simp, by simp, by simp [hk2]⟩
        · have Wbl := H.get_lt Wb
          have hbT := H.get_lt bT
          have Wb2 : g2.get bb = _ := (show g2.get bb = g1.get bb by rw [hg2, get_put_ne (by omega)]).trans Wb
          have RR2 : RowR (fun b => b < h.n) g2 vr r := RowR.keep ⟨rcs, RS, RE⟩ fun b hb hb2 => by
            have hb : b < h.n := hb
            exact hx2 b hb2 (by omega)
          obtain ⟨f, g3, j1, I⟩ := loop38 (h0 := g2) (q := g.n) (bb := bb) (P2 := h1.n) (Q := h3.n) (k := k) (len := S.length) (bT := h2.n) (v13 := v) (kk := kk) RR2 (fun b hb => by have hb : b < h.n := hb; omega) (by omega) (by omega) gQ2 bT2 (by rw [set_get (by omega), if_pos rfl]) hkl (by omega) (by omega) hsm.1 hsm.2
            (e := ⟨[e.s [0, 1, 2, 3, 4, 5, 6, 13, 14, 15, 27, 28] 0, e.s [0, 1, 2, 3, 4, 5, 6, 13, 14, 15, 27, 28] 1, .ptr h1.n 0, .ptr h3.n 0, .int .i64 k, vr, e.s [0, 1, 2, 3, 4, 5, 6, 13, 14, 15, 27, 28] 6, v, .int .i64 S.length, .int .i64 k, .int .i64 r.length, .int .i64 0], 28, .int .i64 0⟩) (g := g2)
            ⟨Nat.le_refl _, fun _ _ _ => rfl, Nat.le_refl _, ⟨rcs, Wb2, Wl, by rw [Nat.sub_self]; exact Els.none _ _ _, fun i t ht => by obtain ⟨vc, _, k2, _⟩ := RE i t ht; exact k2⟩, by simp, by simp, by simp, by simp, by simp, by simp, by simp, by simp, by simp⟩
          obtain ⟨_, x', gn', ⟨cs', Cb, CL, CE, _⟩, f2, f3, f4, f5, f13, f14, f15, f27, f28⟩ := I
          rw [Nat.sub_zero, List.take_length] at CE
          have hx3 : ∀ c, c < g.n → c ≠ h2.n → g3.get c = g.get c := fun c hc hcb => by rw [x' c (by omega) (by omega), hx2 c hc hcb]
          have bT3 : g3.get h2.n = _ := (x' h2.n (by omega) (by omega)).trans bT2
          obtain ⟨B', PR'⟩ := PR.next (g' := g3) (w := .sl bb 0 r.length kk) (bb := bb) (by omega) hr bT hx3 (by omega) (.inr ⟨kk, cs', rfl, Cb, CL, (show h4.n ≤ bb by omega), CE.mono (fun b _ hb => Nat.le_trans gn hb), Wk⟩) (fun _ => ⟨Wq, H.get_lt Cb⟩)
          simp [l38_1, e14, e15, hkl, show (k : Int) < S.length by omega, e13, q1, q2, a1, e3, rd1_of gQ1, hw, rd1_of gQg, rl, e2, j1, f15, z1]
          exact ⟨n, Nat.lt_succ_self n, by omega, fun c hc hcq => by rw [hx3 c (by omega) hcq, x c hc hcq], by omega, ⟨_, B', bT3, by rw [List.length_set, L], by rw [hk2]; exact PR'⟩, by simp [f2], by simp [f3], by simp [f13], by simp [f14], by simp [hk2]⟩)
  obtain ⟨⟨sx, se, sh⟩, q1, q2, I⟩ := loop S.length ⟨[.agg [v], .ptr h.n 0, .ptr h1.n 0, .ptr h3.n 0, .tup [], .tup [], .tup [], v, .int .i64 S.length, .int .i64 0, .tup [], .tup []], 15, .int .i64 0⟩ h4
    ⟨Nat.le_refl _, fun _ _ _ => rfl, Nat.le_refl _, ⟨_, fun _ => 0, gT, by rw [reps_len]; simp, by rw [Nat.sub_self]; exact ⟨fun i r hi => by omega, fun _ i j _ hj => by omega, fun _ i hi => by omega⟩⟩, by simp, by simp, by simp, by simp, by simp⟩
  simp only at q2 I
  subst q2
  obtain ⟨_, x, gn, ⟨cs, B, bT, L, PR⟩, e2, e3, e13, e14, e15⟩ := I
  have sQ : sh.get h3.n = some (.cells [.sl h2.n 0 S.length (.ex S.length)] 25 false) := by rw [x _ (by omega) (by omega), gQ]
  have sP : sh.get h1.n = some (.cells [.nils] 25 false) := by rw [x _ (by omega) (by omega), gP2]
  obtain ⟨h8, hh8⟩ : ∃ g, g = sh.put h1.n (.cells [.sl h2.n 0 S.length (.ex S.length)] 25 false) := ⟨_, rfl⟩
  have r8 : h8.get h1.n = some (.cells [.sl h2.n 0 S.length (.ex S.length)] 25 false) := by rw [hh8, get_put_same (H.get_lt sP)]
  rw [w38, f38, s38]
  simp [b1, nw, ← hh2, rd1_of gP, ul, hms, bl, fillW, splice, wrN_of (o := 0) get_new_same, ← hh4, rd1_of gP4, q1, e3, rdN_of (o := 0) (n := 1) sQ (by simp), e2, wrN_of (o := 0) sP, ← hh8, rdN_of (o := 0) (n := 1) r8 (by simp)]
  rw [Nat.sub_zero] at PR
  have hD : ∀ b, h4.n ≤ b → h.n ≤ b := fun b hb => by omega
  refine ⟨_, rfl, ⟨cs, B, h2.n, .ex S.length, rfl, by rw [hh8, get_put_ne (by omega)]; exact bT, L, ⟨(show h.n ≤ h2.n by omega), Nat.le_refl _⟩, fun i r hi hr => ?_, PR.2.1, fun f i hi => by have := PR.2.2 f i hi; rw [hh8, H.n_put]; omega⟩, ?_⟩
  · obtain ⟨vr, k1, k2⟩ := PR.1 i r hi hr
    refine ⟨vr, k1, (k2.keep fun b c t hb _ _ => ?_).mono fun b _ hb => hD b hb⟩
    rw [hh8, get_put_ne]; have hb : h4.n ≤ b := hb; omega
  · refine ⟨by rw [hh8, H.n_put]; omega, fun c hc => ?_⟩
    rw [hh8, get_put_ne (by omega), x c (by omega) (by omega), x4.get c (by omega), x3.get c (by omega), x2.get c (by omega), x1.get c hc]
end Go.Proofs.Ytfjghgjkpenanaa
/- Two sets that are the same. -/
set_option linter.unusedVariables false
set_option linter.unusedSimpArgs false
set_option maxRecDepth 20000
namespace Go.Proofs.Ytfjghgjkpenanaa
open Go Go.Zf
open Go.Zf (wi64)

theorem loop15_0 {D D2 : Nat → Prop} {g : H} {v w : V} {t : Tb} {a b : Nat} (hu : U16 D g v t.c) (hw : U16 D2 g w t.c) (hl : t.c.length < 1000) (ha : g.get a = some (.cells [v, .int .i64 t.n] 72 false)) (hb : g.get b = some (.cells [w, .int .i64 t.n] 72 false)) {en : E}
    (e7 : en.s [0, 1, 2, 3, 4, 5, 6, 7, 8, 9] 7 = .ptr a 0) (e8 : en.s [0, 1, 2, 3, 4, 5, 6, 7, 8, 9] 8 = .ptr b 0) (e9 : en.s [0, 1, 2, 3, 4, 5, 6, 7, 8, 9] 9 = .int .i64 0) :
    ∃ e', loopZ (l15_0 KW loopZ) en g = some ⟨.ex 4, e', g⟩ ∧ Keeps [0, 1, 2, 3, 4, 5, 6, 7, 8, 9] [2, 3, 5, 6] e' en := by
  have loop := loop_run (body := l15_0 KW loopZ) (fun n e h => h = g ∧ n ≤ t.c.length ∧ Keeps [0, 1, 2, 3, 4, 5, 6, 7, 8, 9] [2, 3, 5, 6] e en ∧ e.s [0, 1, 2, 3, 4, 5, 6, 7, 8, 9] 7 = .ptr a 0 ∧ e.s [0, 1, 2, 3, 4, 5, 6, 7, 8, 9] 8 = .ptr b 0 ∧ e.s [0, 1, 2, 3, 4, 5, 6, 7, 8, 9] 9 = .int .i64 ((t.c.length - n : Nat) : Int))
    (fun s => s.h = g ∧ s.x = .ex 4 ∧ Keeps [0, 1, 2, 3, 4, 5, 6, 7, 8, 9] [2, 3, 5, 6] s.e en)
    (fun n e h ⟨hg, hn, ke, p7, p8, p9⟩ => by
      subst hg
      have i2 := ke 2 (by simp); have i3 := ke 3 (by simp); have i5 := ke 5 (by simp); have i6 := ke 6 (by simp)
      have ul := hu.1.len
      cases n with
      | zero =>
        simp [l15_0, p7, rd1_of ha, ul, p9]
        exact ⟨rfl, rfl, fun i hm => by
          simp only [List.mem_cons, List.not_mem_nil, or_false] at hm
          rcases hm with rfl | rfl | rfl | rfl <;> simp [i2, i3, i5, i6]⟩
      | succ n =>
        obtain ⟨c, hc⟩ : ∃ c, c = t.c.length - (n + 1) := ⟨_, rfl⟩
        have hc2 : t.c.length - n = c + 1 := by omega
        rw [← hc] at p9
        have hcl : c < t.c.length := by omega
        obtain ⟨b1, o1, q1, q2, _⟩ := hu.at hcl
        obtain ⟨b2, o2, r1, r2, _⟩ := hw.at hcl
        have z1 : IntKind.i64.wrap ((c : Int) + 1) = c + 1 := wi64 (by omega) (by omega)
        simp [l15_0, p7, rd1_of ha, ul, p9, hcl, show (c : Int) < t.c.length by omega, q1, q2, p8, rd1_of hb, r1, r2, hu.1.ck, hw.1.ck, z1]
        exact ⟨n, Nat.lt_succ_self n, rfl, by omega, fun i hm => by
          simp only [List.mem_cons, List.not_mem_nil, or_false] at hm
          rcases hm with rfl | rfl | rfl | rfl <;> simp [i2, i3, i5, i6], by simp [p7], by simp [p8], by simp [hc2]⟩)
  obtain ⟨⟨x, e', g'⟩, r1, r2, r3, r4⟩ := loop t.c.length en g ⟨rfl, Nat.le_refl _, fun _ _ => rfl, e7, e8, by rw [e9, Nat.sub_self]; rfl⟩
  simp only at r2 r3 r4
  subst r2 r3
  exact ⟨e', r1, r4⟩

theorem loop15_1 {D D2 : Nat → Prop} {h0 : H} {v w : V} {S : List (List Tb)} {k A B : Nat} {r : List Tb} (hS : SetR D h0 v S) (hS2 : SetR D2 h0 w S) (hr : S[k]? = some r) (hA : h0.get A = some (.cells [v] 25 false)) (hB : h0.get B = some (.cells [w] 25 false)) (hl : r.length < 1000) (hs : ∀ (i : Nat) (t : Tb), r[i]? = some t → t.c.length < 1000) {en : E}
    (e2 : en.s [0, 1, 2, 3, 4, 5, 6, 7, 8, 9] 2 = .ptr A 0) (e3 : en.s [0, 1, 2, 3, 4, 5, 6, 7, 8, 9] 3 = .ptr B 0) (e5 : en.s [0, 1, 2, 3, 4, 5, 6, 7, 8, 9] 5 = .int .i64 k) (e6 : en.s [0, 1, 2, 3, 4, 5, 6, 7, 8, 9] 6 = .int .i64 0) :
    ∃ e' g', loopZ (l15_1 KW loopZ) en h0 = some ⟨.ex 2, e', g'⟩ ∧ Ext h0 g' ∧ e'.s [0, 1, 2, 3, 4, 5, 6, 7, 8, 9] 2 = .ptr A 0 ∧ e'.s [0, 1, 2, 3, 4, 5, 6, 7, 8, 9] 3 = .ptr B 0 ∧ e'.s [0, 1, 2, 3, 4, 5, 6, 7, 8, 9] 5 = .int .i64 k := by
  have loop := loop_run (body := l15_1 KW loopZ) (fun n e g => Ext h0 g ∧ n ≤ r.length ∧ e.s [0, 1, 2, 3, 4, 5, 6, 7, 8, 9] 2 = .ptr A 0 ∧ e.s [0, 1, 2, 3, 4, 5, 6, 7, 8, 9] 3 = .ptr B 0 ∧ e.s [0, 1, 2, 3, 4, 5, 6, 7, 8, 9] 5 = .int .i64 k ∧ e.s [0, 1, 2, 3, 4, 5, 6, 7, 8, 9] 6 = .int .i64 ((r.length - n : Nat) : Int))
    (fun s => s.x = .ex 2 ∧ Ext h0 s.h ∧ s.e.s [0, 1, 2, 3, 4, 5, 6, 7, 8, 9] 2 = .ptr A 0 ∧ s.e.s [0, 1, 2, 3, 4, 5, 6, 7, 8, 9] 3 = .ptr B 0 ∧ s.e.s [0, 1, 2, 3, 4, 5, 6, 7, 8, 9] 5 = .int .i64 k)
    (fun n e g ⟨xg, hn, p2, p3, p5, p6⟩ => by
      have u := hS.ext xg
      have u2 := hS2.ext xg
      obtain ⟨bR, oR, vr, a1, a2, RR, _, hbR⟩ := u.row hr
      obtain ⟨bR', oR', vr', a1', a2', RR', _, hbR'⟩ := u2.row hr
      have gA : g.get A = _ := (xg.get A (H.get_lt hA)).trans hA
      have gB : g.get B = _ := (xg.get B (H.get_lt hB)).trans hB
      have rl := RR.len
      cases n with
      | zero =>
        simp [l15_1, p2, rd1_of gA, p5, a1, a2, rl, p6]
        exact ⟨rfl, xg, by simp [p2], by simp [p3], by simp [p5]⟩
      | succ n =>
        obtain ⟨c, hc⟩ : ∃ c, c = r.length - (n + 1) := ⟨_, rfl⟩
        have hc2 : r.length - n = c + 1 := by omega
        rw [← hc] at p6
        have hcl : c < r.length := by omega
        obtain ⟨t, ht⟩ := get_of_lt hcl
        have z1 : IntKind.i64.wrap ((c : Int) + 1) = c + 1 := wi64 (by omega) (by omega)
        obtain ⟨b, o, vc, b1, b2, b3, b4, U, _, hb⟩ := RR.tab ht
        obtain ⟨b', o', vc', b1', b2', b3', b4', U', _, hb'⟩ := RR'.tab ht
        obtain ⟨g1, hg1⟩ : ∃ g1, g1 = ((g.new (.cells [.nils, .int .i64 0] 72 false)).new (.cells [.nils, .int .i64 0] 72 false)).put g.n (.cells [vc, .int .i64 t.n] 72 false) := ⟨_, rfl⟩
        have x1 : Ext g g1 := by rw [hg1]; exact (((Ext.refl g).new _).new _).put (Nat.le_refl _) _
        have n1 : g1.n = g.n + 2 := by rw [hg1, H.n_put]; simp only [H.n_new]
        have w1 : ((g.new (.cells [.nils, .int .i64 0] 72 false)).new (.cells [.nils, .int .i64 0] 72 false)).wrN g.n 0 [vc, .int .i64 t.n] = some g1 := by
          rw [wrN_of (o := 0) (c := [.nils, .int .i64 0]) (e := 72) (by rw [get_new_lt (by rw [H.n_new]; omega), get_new_same]) (by simp), hg1]; rfl
        have r1 : g1.get g.n = some (.cells [vc, .int .i64 t.n] 72 false) := by rw [hg1, get_put_same (by simp only [H.n_new]; omega)]
        have r1' : g1.get (g.n + 1) = some (.cells [.nils, .int .i64 0] 72 false) := by rw [hg1, get_put_ne (by omega), get_new_eq (by rw [H.n_new])]
        obtain ⟨g2, hg2⟩ : ∃ g2, g2 = g1.put (g.n + 1) (.cells [vc', .int .i64 t.n] 72 false) := ⟨_, rfl⟩
        have x2 : Ext g g2 := by rw [hg2]; exact x1.put (by omega) _
        have r2 : g2.get g.n = some (.cells [vc, .int .i64 t.n] 72 false) := by rw [hg2, get_put_ne (by omega), r1]
        have r2' : g2.get (g.n + 1) = some (.cells [vc', .int .i64 t.n] 72 false) := by rw [hg2, get_put_same (H.get_lt r1')]
        have gB1 : g1.get B = _ := (x1.get _ (H.get_lt gB)).trans gB
        have a21' := rd1_ext x1 hbR' a2'
        have b41' : g1.rdN b' o' 2 = some [vc', .int .i64 t.n] := rdN_ext x1 b4'
        obtain ⟨f, j1, ke⟩ := loop15_0 (U.ext x2) (U'.ext x2) (hs c t ht) r2 r2' (en := ⟨[e.s [0, 1, 2, 3, 4, 5, 6, 7, 8, 9] 0, e.s [0, 1, 2, 3, 4, 5, 6, 7, 8, 9] 1, .ptr A 0, .ptr B 0, e.s [0, 1, 2, 3, 4, 5, 6, 7, 8, 9] 4, .int .i64 k, .int .i64 c, .ptr g.n 0, .ptr (g.n + 1) 0, .int .i64 0], 9, .int .i64 0⟩) (by simp) (by simp) (by simp)
        have i2 := ke 2 (by simp); have i3 := ke 3 (by simp); have i5 := ke 5 (by simp); have i6 := ke 6 (by simp)
        simp at i2 i3 i5 i6
        have ul := U.1.len
        have ul' := U'.1.len
        have us := U.1.same
        have us' := U'.1.same
        have vs := u.ckv (some ()); have vs' := u2.ckv (some ()); have rs := RR.ckv (some ()); have rs' := RR'.ckv (some ())
        simp [ck] at vs vs' rs rs'
        simp [l15_1, p2, rd1_of gA, p5, a1, a2, rl, p6, hcl, show (c : Int) < r.length by omega, b1, b4, nw, H.n_new, w1, p3, rd1_of gB1, rd1_of gB, a1', a21', a2', b1', b41', b4', wrN_of (o := 0) r1', splice, ← hg2, ck, V.same, V.sames, us, us', vs, vs', rs, rs', rd1_of r2, rd1_of r2', ul, ul', j1, i6, z1]
        exact ⟨n, Nat.lt_succ_self n, xg.trans x2, by omega, by simp [i2], by simp [i3], by simp [i5], by simp [hc2]⟩)
  obtain ⟨⟨x, e', g'⟩, r1, r2, r3, r4⟩ := loop r.length en h0 ⟨Ext.refl h0, Nat.le_refl _, e2, e3, e5, by rw [e6, Nat.sub_self]; rfl⟩
  simp only at r2 r3 r4
  subst r2
  exact ⟨e', g', r1, r3, r4⟩

theorem same15_ok {D D2 : Nat → Prop} {h : H} {v w : V} {S : List (List Tb)} (u : SetR D h v S) (u2 : SetR D2 h w S) (sm : Small S) : RT (fun x h' => x = .bool true ∧ Ext h h') (KW 15 [.agg [v], .agg [w]] h) := by
  have hS := sm.1
  obtain ⟨h1, b1, x1, g1, n1, ua⟩ := box25 u
  obtain ⟨h2, b2, x2, g2, n2, ub⟩ := box25 (u2.ext x1)
  have ga : h2.get h.n = _ := (x2.get _ (H.get_lt g1)).trans g1
  have uc := ua.ext x2
  have ul := uc.len
  have ul2 := ub.len
  have loop := loop_run (body := l15_2 KW loopZ) (fun n e g => Ext h2 g ∧ n ≤ S.length ∧ e.s [0, 1, 2, 3, 4, 5, 6, 7, 8, 9] 2 = .ptr h.n 0 ∧ e.s [0, 1, 2, 3, 4, 5, 6, 7, 8, 9] 3 = .ptr h1.n 0 ∧ e.s [0, 1, 2, 3, 4, 5, 6, 7, 8, 9] 5 = .int .i64 ((S.length - n : Nat) : Int))
    (fun s => s.x = .ex 0 ∧ Ext h2 s.h)
    (fun n e g ⟨xg, hn, p2, p3, p5⟩ => by
      have gA : g.get h.n = _ := (xg.get _ (H.get_lt ga)).trans ga
      have gB : g.get h1.n = _ := (xg.get _ (H.get_lt g2)).trans g2
      have v1 := uc.ext xg
      have v2 := ub.ext xg
      cases n with
      | zero =>
        simp [l15_2, p2, rd1_of gA, ul, p5]
        exact ⟨rfl, xg⟩
      | succ n =>
        obtain ⟨k, hk⟩ : ∃ k, k = S.length - (n + 1) := ⟨_, rfl⟩
        have hk2 : S.length - n = k + 1 := by omega
        have hkl : k < S.length := by omega
        rw [← hk] at p5
        obtain ⟨r, hr⟩ := get_of_lt hkl
        have hsm := sm.2 k r hr
        have z1 : IntKind.i64.wrap ((k : Int) + 1) = k + 1 := wi64 (by omega) (by omega)
        obtain ⟨bR, oR, vr, a1, a2, RR, _⟩ := v1.row hr
        obtain ⟨bR', oR', vr', a1', a2', RR', _⟩ := v2.row hr
        have rl := RR.len
        have rl' := RR'.len
        obtain ⟨f, g3, j1, y1, f2, f3, f5⟩ := loop15_1 v1 v2 hr gA gB hsm.1 hsm.2 (en := ⟨[e.s [0, 1, 2, 3, 4, 5, 6, 7, 8, 9] 0, e.s [0, 1, 2, 3, 4, 5, 6, 7, 8, 9] 1, .ptr h.n 0, .ptr h1.n 0, e.s [0, 1, 2, 3, 4, 5, 6, 7, 8, 9] 4, .int .i64 k, .int .i64 0, e.s [0, 1, 2, 3, 4, 5, 6, 7, 8, 9] 7, e.s [0, 1, 2, 3, 4, 5, 6, 7, 8, 9] 8, e.s [0, 1, 2, 3, 4, 5, 6, 7, 8, 9] 9], 6, .int .i64 0⟩) (by simp) (by simp) (by simp) (by simp)
        simp [l15_2, p2, rd1_of gA, ul, p5, hkl, show (k : Int) < S.length by omega, a1, a2, rl, p3, rd1_of gB, a1', a2', rl', v1.ckv, v2.ckv, RR.ckv, RR'.ckv, j1, f5, z1]
        exact ⟨n, Nat.lt_succ_self n, xg.trans y1, by omega, by simp [f2], by simp [f3], by simp [hk2]⟩)
  obtain ⟨⟨sx, se, sh⟩, q1, q2, q3⟩ := loop S.length ⟨[.agg [v], .agg [w], .ptr h.n 0, .ptr h1.n 0, .bool false, .int .i64 0, .tup [], .tup [], .tup [], .tup []], 5, .int .i64 0⟩ h2 ⟨Ext.refl h2, Nat.le_refl _, by simp, by simp, by simp⟩
  simp only at q2 q3
  subst q2
  rw [w15, f15, s15]
  simp [b1, b2, rd1_of ga, rd1_of g2, ul, ul2, q1]
  exact ⟨rfl, (x1.trans x2).trans q3⟩

theorem loop31_0 {D D2 : Nat → Prop} {g : H} {v w : V} {t : Tb} {a b : Nat} (hu : U16 D g v t.c) (hw : U16 D2 g w t.c) (hl : t.c.length < 1000) (ha : g.get a = some (.cells [v, .int .i64 t.n] 72 false)) (hb : g.get b = some (.cells [w, .int .i64 t.n] 72 false)) {en : E}
    (e7 : en.s [0, 1, 2, 3, 4, 5, 6, 7, 8, 9] 7 = .ptr a 0) (e8 : en.s [0, 1, 2, 3, 4, 5, 6, 7, 8, 9] 8 = .ptr b 0) (e9 : en.s [0, 1, 2, 3, 4, 5, 6, 7, 8, 9] 9 = .int .i64 0) :
    ∃ e', loopZ (l31_0 KW loopZ) en g = some ⟨.ex 4, e', g⟩ ∧ Keeps [0, 1, 2, 3, 4, 5, 6, 7, 8, 9] [2, 3, 5, 6] e' en := by
  have loop := loop_run (body := l31_0 KW loopZ) (fun n e h => h = g ∧ n ≤ t.c.length ∧ Keeps [0, 1, 2, 3, 4, 5, 6, 7, 8, 9] [2, 3, 5, 6] e en ∧ e.s [0, 1, 2, 3, 4, 5, 6, 7, 8, 9] 7 = .ptr a 0 ∧ e.s [0, 1, 2, 3, 4, 5, 6, 7, 8, 9] 8 = .ptr b 0 ∧ e.s [0, 1, 2, 3, 4, 5, 6, 7, 8, 9] 9 = .int .i64 ((t.c.length - n : Nat) : Int))
    (fun s => s.h = g ∧ s.x = .ex 4 ∧ Keeps [0, 1, 2, 3, 4, 5, 6, 7, 8, 9] [2, 3, 5, 6] s.e en)
    (fun n e h ⟨hg, hn, ke, p7, p8, p9⟩ => by
      subst hg
      have i2 := ke 2 (by simp); have i3 := ke 3 (by simp); have i5 := ke 5 (by simp); have i6 := ke 6 (by simp)
      have ul := hu.1.len
      cases n with
      | zero =>
        simp [l31_0, p7, rd1_of ha, ul, p9]
        exact ⟨rfl, rfl, fun i hm => by
          simp only [List.mem_cons, List.not_mem_nil, or_false] at hm
          rcases hm with rfl | rfl | rfl | rfl <;> simp [i2, i3, i5, i6]⟩
      | succ n =>
        obtain ⟨c, hc⟩ : ∃ c, c = t.c.length - (n + 1) := ⟨_, rfl⟩
        have hc2 : t.c.length - n = c + 1 := by omega
        rw [← hc] at p9
        have hcl : c < t.c.length := by omega
        obtain ⟨b1, o1, q1, q2, _⟩ := hu.at hcl
        obtain ⟨b2, o2, r1, r2, _⟩ := hw.at hcl
        have z1 : IntKind.i64.wrap ((c : Int) + 1) = c + 1 := wi64 (by omega) (by omega)
        simp [l31_0, p7, rd1_of ha, ul, p9, hcl, show (c : Int) < t.c.length by omega, q1, q2, p8, rd1_of hb, r1, r2, hu.1.ck, hw.1.ck, z1]
        exact ⟨n, Nat.lt_succ_self n, rfl, by omega, fun i hm => by
          simp only [List.mem_cons, List.not_mem_nil, or_false] at hm
          rcases hm with rfl | rfl | rfl | rfl <;> simp [i2, i3, i5, i6], by simp [p7], by simp [p8], by simp [hc2]⟩)
  obtain ⟨⟨x, e', g'⟩, r1, r2, r3, r4⟩ := loop t.c.length en g ⟨rfl, Nat.le_refl _, fun _ _ => rfl, e7, e8, by rw [e9, Nat.sub_self]; rfl⟩
  simp only at r2 r3 r4
  subst r2 r3
  exact ⟨e', r1, r4⟩

theorem loop31_1 {D D2 : Nat → Prop} {h0 : H} {v w : V} {S : List (List Tb)} {k A B : Nat} {r : List Tb} (hS : SetR D h0 v S) (hS2 : SetR D2 h0 w S) (hr : S[k]? = some r) (hA : h0.get A = some (.cells [v] 25 false)) (hB : h0.get B = some (.cells [w] 25 false)) (hl : r.length < 1000) (hs : ∀ (i : Nat) (t : Tb), r[i]? = some t → t.c.length < 1000) {en : E}
    (e2 : en.s [0, 1, 2, 3, 4, 5, 6, 7, 8, 9] 2 = .ptr A 0) (e3 : en.s [0, 1, 2, 3, 4, 5, 6, 7, 8, 9] 3 = .ptr B 0) (e5 : en.s [0, 1, 2, 3, 4, 5, 6, 7, 8, 9] 5 = .int .i64 k) (e6 : en.s [0, 1, 2, 3, 4, 5, 6, 7, 8, 9] 6 = .int .i64 0) :
    ∃ e' g', loopZ (l31_1 KW loopZ) en h0 = some ⟨.ex 2, e', g'⟩ ∧ Ext h0 g' ∧ e'.s [0, 1, 2, 3, 4, 5, 6, 7, 8, 9] 2 = .ptr A 0 ∧ e'.s [0, 1, 2, 3, 4, 5, 6, 7, 8, 9] 3 = .ptr B 0 ∧ e'.s [0, 1, 2, 3, 4, 5, 6, 7, 8, 9] 5 = .int .i64 k := by
  have loop := loop_run (body := l31_1 KW loopZ) (fun n e g => Ext h0 g ∧ n ≤ r.length ∧ e.s [0, 1, 2, 3, 4, 5, 6, 7, 8, 9] 2 = .ptr A 0 ∧ e.s [0, 1, 2, 3, 4, 5, 6, 7, 8, 9] 3 = .ptr B 0 ∧ e.s [0, 1, 2, 3, 4, 5, 6, 7, 8, 9] 5 = .int .i64 k ∧ e.s [0, 1, 2, 3, 4, 5, 6, 7, 8, 9] 6 = .int .i64 ((r.length - n : Nat) : Int))
    (fun s => s.x = .ex 2 ∧ Ext h0 s.h ∧ s.e.s [0, 1, 2, 3, 4, 5, 6, 7, 8, 9] 2 = .ptr A 0 ∧ s.e.s [0, 1, 2, 3, 4, 5, 6, 7, 8, 9] 3 = .ptr B 0 ∧ s.e.s [0, 1, 2, 3, 4, 5, 6, 7, 8, 9] 5 = .int .i64 k)
    (fun n e g ⟨xg, hn, p2, p3, p5, p6⟩ => by
      have u := hS.ext xg
      have u2 := hS2.ext xg
      obtain ⟨bR, oR, vr, a1, a2, RR, _, hbR⟩ := u.row hr
      obtain ⟨bR', oR', vr', a1', a2', RR', _, hbR'⟩ := u2.row hr
      have gA : g.get A = _ := (xg.get A (H.get_lt hA)).trans hA
      have gB : g.get B = _ := (xg.get B (H.get_lt hB)).trans hB
      have rl := RR.len
      cases n with
      | zero =>
        simp [l31_1, p2, rd1_of gA, p5, a1, a2, rl, p6]
        exact ⟨rfl, xg, by simp [p2], by simp [p3], by simp [p5]⟩
      | succ n =>
        obtain ⟨c, hc⟩ : ∃ c, c = r.length - (n + 1) := ⟨_, rfl⟩
        have hc2 : r.length - n = c + 1 := by omega
        rw [← hc] at p6
        have hcl : c < r.length := by omega
        obtain ⟨t, ht⟩ := get_of_lt hcl
        have z1 : IntKind.i64.wrap ((c : Int) + 1) = c + 1 := wi64 (by omega) (by omega)
        obtain ⟨b, o, vc, b1, b2, b3, b4, U, _, hb⟩ := RR.tab ht
        obtain ⟨b', o', vc', b1', b2', b3', b4', U', _, hb'⟩ := RR'.tab ht
        obtain ⟨g1, hg1⟩ : ∃ g1, g1 = ((g.new (.cells [.nils, .int .i64 0] 72 false)).new (.cells [.nils, .int .i64 0] 72 false)).put g.n (.cells [vc, .int .i64 t.n] 72 false) := ⟨_, rfl⟩
        have x1 : Ext g g1 := by rw [hg1]; exact (((Ext.refl g).new _).new _).put (Nat.le_refl _) _
        have n1 : g1.n = g.n + 2 := by rw [hg1, H.n_put]; simp only [H.n_new]
        have w1 : ((g.new (.cells [.nils, .int .i64 0] 72 false)).new (.cells [.nils, .int .i64 0] 72 false)).wrN g.n 0 [vc, .int .i64 t.n] = some g1 := by
          rw [wrN_of (o := 0) (c := [.nils, .int .i64 0]) (e := 72) (by rw [get_new_lt (by rw [H.n_new]; omega), get_new_same]) (by simp), hg1]; rfl
        have r1 : g1.get g.n = some (.cells [vc, .int .i64 t.n] 72 false) := by rw [hg1, get_put_same (by simp only [H.n_new]; omega)]
        have r1' : g1.get (g.n + 1) = some (.cells [.nils, .int .i64 0] 72 false) := by rw [hg1, get_put_ne (by omega), get_new_eq (by rw [H.n_new])]
        obtain ⟨g2, hg2⟩ : ∃ g2, g2 = g1.put (g.n + 1) (.cells [vc', .int .i64 t.n] 72 false) := ⟨_, rfl⟩
        have x2 : Ext g g2 := by rw [hg2]; exact x1.put (by omega) _
        have r2 : g2.get g.n = some (.cells [vc, .int .i64 t.n] 72 false) := by rw [hg2, get_put_ne (by omega), r1]
        have r2' : g2.get (g.n + 1) = some (.cells [vc', .int .i64 t.n] 72 false) := by rw [hg2, get_put_same (H.get_lt r1')]
        have gB1 : g1.get B = _ := (x1.get _ (H.get_lt gB)).trans gB
        have a21' := rd1_ext x1 hbR' a2'
        have b41' : g1.rdN b' o' 2 = some [vc', .int .i64 t.n] := rdN_ext x1 b4'
        obtain ⟨f, j1, ke⟩ := loop31_0 (U.ext x2) (U'.ext x2) (hs c t ht) r2 r2' (en := ⟨[e.s [0, 1, 2, 3, 4, 5, 6, 7, 8, 9] 0, e.s [0, 1, 2, 3, 4, 5, 6, 7, 8, 9] 1, .ptr A 0, .ptr B 0, e.s [0, 1, 2, 3, 4, 5, 6, 7, 8, 9] 4, .int .i64 k, .int .i64 c, .ptr g.n 0, .ptr (g.n + 1) 0, .int .i64 0], 9, .int .i64 0⟩) (by simp) (by simp) (by simp)
        have i2 := ke 2 (by simp); have i3 := ke 3 (by simp); have i5 := ke 5 (by simp); have i6 := ke 6 (by simp)
        simp at i2 i3 i5 i6
        have ul := U.1.len
        have ul' := U'.1.len
        have us := U.1.same
        have us' := U'.1.same
        have vs := u.ckv (some ()); have vs' := u2.ckv (some ()); have rs := RR.ckv (some ()); have rs' := RR'.ckv (some ())
        simp [ck] at vs vs' rs rs'
        simp [l31_1, p2, rd1_of gA, p5, a1, a2, rl, p6, hcl, show (c : Int) < r.length by omega, b1, b4, nw, H.n_new, w1, p3, rd1_of gB1, rd1_of gB, a1', a21', a2', b1', b41', b4', wrN_of (o := 0) r1', splice, ← hg2, ck, V.same, V.sames, us, us', vs, vs', rs, rs', rd1_of r2, rd1_of r2', ul, ul', j1, i6, z1]
        exact ⟨n, Nat.lt_succ_self n, xg.trans x2, by omega, by simp [i2], by simp [i3], by simp [i5], by simp [hc2]⟩)
  obtain ⟨⟨x, e', g'⟩, r1, r2, r3, r4⟩ := loop r.length en h0 ⟨Ext.refl h0, Nat.le_refl _, e2, e3, e5, by rw [e6, Nat.sub_self]; rfl⟩
  simp only at r2 r3 r4
  subst r2
  exact ⟨e', g', r1, r3, r4⟩

theorem same31_ok {D D2 : Nat → Prop} {h : H} {v w : V} {S : List (List Tb)} (u : SetR D h v S) (u2 : SetR D2 h w S) (sm : Small S) : RT (fun x h' => x = .bool true ∧ Ext h h') (KW 31 [.agg [v], .agg [w]] h) := by
  have hS := sm.1
  obtain ⟨h1, b1, x1, g1, n1, ua⟩ := box25 u
  obtain ⟨h2, b2, x2, g2, n2, ub⟩ := box25 (u2.ext x1)
  have ga : h2.get h.n = _ := (x2.get _ (H.get_lt g1)).trans g1
  have uc := ua.ext x2
  have ul := uc.len
  have ul2 := ub.len
  have loop := loop_run (body := l31_2 KW loopZ) (fun n e g => Ext h2 g ∧ n ≤ S.length ∧ e.s [0, 1, 2, 3, 4, 5, 6, 7, 8, 9] 2 = .ptr h.n 0 ∧ e.s [0, 1, 2, 3, 4, 5, 6, 7, 8, 9] 3 = .ptr h1.n 0 ∧ e.s [0, 1, 2, 3, 4, 5, 6, 7, 8, 9] 5 = .int .i64 ((S.length - n : Nat) : Int))
    (fun s => s.x = .ex 0 ∧ Ext h2 s.h)
    (fun n e g ⟨xg, hn, p2, p3, p5⟩ => by
      have gA : g.get h.n = _ := (xg.get _ (H.get_lt ga)).trans ga
      have gB : g.get h1.n = _ := (xg.get _ (H.get_lt g2)).trans g2
      have v1 := uc.ext xg
      have v2 := ub.ext xg
      cases n with
      | zero =>
        simp [l31_2, p2, rd1_of gA, ul, p5]
        exact ⟨rfl, xg⟩
      | succ n =>
        obtain ⟨k, hk⟩ : ∃ k, k = S.length - (n + 1) := ⟨_, rfl⟩
        have hk2 : S.length - n = k + 1 := by omega
        have hkl : k < S.length := by omega
        rw [← hk] at p5
        obtain ⟨r, hr⟩ := get_of_lt hkl
        have hsm := sm.2 k r hr
        have z1 : IntKind.i64.wrap ((k : Int) + 1) = k + 1 := wi64 (by omega) (by omega)
        obtain ⟨bR, oR, vr, a1, a2, RR, _⟩ := v1.row hr
        obtain ⟨bR', oR', vr', a1', a2', RR', _⟩ := v2.row hr
        have rl := RR.len
        have rl' := RR'.len
        obtain ⟨f, g3, j1, y1, f2, f3, f5⟩ := loop31_1 v1 v2 hr gA gB hsm.1 hsm.2 (en := ⟨[e.s [0, 1, 2, 3, 4, 5, 6, 7, 8, 9] 0, e.s [0, 1, 2, 3, 4, 5, 6, 7, 8, 9] 1, .ptr h.n 0, .ptr h1.n 0, e.s [0, 1, 2, 3, 4, 5, 6, 7, 8, 9] 4, .int .i64 k, .int .i64 0, e.s [0, 1, 2, 3, 4, 5, 6, 7, 8, 9] 7, e.s [0, 1, 2, 3, 4, 5, 6, 7, 8, 9] 8, e.s [0, 1, 2, 3, 4, 5, 6, 7, 8, 9] 9], 6, .int .i64 0⟩) (by simp) (by simp) (by simp) (by simp)
        simp [l31_2, p2, rd1_of gA, ul, p5, hkl, show (k : Int) < S.length by omega, a1, a2, rl, p3, rd1_of gB, a1', a2', rl', v1.ckv, v2.ckv, RR.ckv, RR'.ckv, j1, f5, z1]
        exact ⟨n, Nat.lt_succ_self n, xg.trans y1, by omega, by simp [f2], by simp [f3], by simp [hk2]⟩)
  obtain ⟨⟨sx, se, sh⟩, q1, q2, q3⟩ := loop S.length ⟨[.agg [v], .agg [w], .ptr h.n 0, .ptr h1.n 0, .bool false, .int .i64 0, .tup [], .tup [], .tup [], .tup []], 5, .int .i64 0⟩ h2 ⟨Ext.refl h2, Nat.le_refl _, by simp, by simp, by simp⟩
  simp only at q2 q3
  subst q2
  rw [w31, f31, s31]
  simp [b1, b2, rd1_of ga, rd1_of g2, ul, ul2, q1]
  exact ⟨rfl, (x1.trans x2).trans q3⟩
end Go.Proofs.Ytfjghgjkpenanaa
