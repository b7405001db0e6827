/- The document's answer: Predict. -/
import Derived.Test.YtpjcmgmmolediaaIx
set_option linter.unusedVariables false
set_option linter.unusedSimpArgs false
namespace Go.Proofs.Ytpjcmgmmolediaa
open Go Go.Zf Go.RowKit

theorem allB_tab {f : Nat → Int} {m : Nat} (h : ∀ i, i < m → 0 ≤ f i ∧ f i ≤ 255) : AllB (tab f m) := by
  intro i hi
  rw [tab_length] at hi
  rw [tab_get f m i hi]; exact h i hi
theorem allB_app {l m : List Int} (h1 : AllB l) (h2 : AllB m) : AllB (l ++ m) := by
  intro i hi
  by_cases h : i < l.length
  · have := h1 i h
    simpa [List.getElem?_append_left h] using this
  · have := h2 (i - l.length) (by rw [List.length_append] at hi; omega)
    simpa [List.getElem?_append_right (by omega : l.length ≤ i)] using this
theorem allB_lng {l : List Int} {c : Int} (h : AllB l) (h0 : 0 < l.length) (c0 : 0 ≤ c ∧ c ≤ 255) : AllB (lngL l c) := by
  unfold lngL
  refine allB_app ?_ (allB_tab fun i hi => ?_)
  · intro i hi
    match i, hi with
    | 0, _ => exact c0
    | 1, _ => exact c0
    | 2, _ => exact c0
    | 3, _ => exact c0
  · unfold lngF; exact h _ (by omega)
theorem allB_sm {L : List Int} {n : Nat} (h : AllB L) (h0 : 0 < L.length) : AllB (smL L n) := by
  unfold smL
  refine allB_app ?_ (allB_tab fun i hi => ?_)
  · intro i hi
    rw [List.length_take] at hi
    have := h i (by omega)
    simpa [List.getElem?_take, show i < 4 by omega] using this
  · unfold smF
    have a := h.rd h0 (min (i : Int) (2 * n - 1) - 1)
    have b := h.rd h0 (min (i : Int) (2 * n - 1))
    have c := h.rd h0 (min (min (i : Int) (2 * n - 1) + 1) (2 * n - 1))
    omega
theorem allB_db {L : List Int} {n : Nat} (h : AllB L) (h0 : 0 < L.length) : AllB (dbL L n) := by
  unfold dbL
  refine allB_tab fun i hi => ?_
  unfold dbF dbV
  split
  · exact h.rd h0 _
  · have := clipI_bd (x := (-rdI L (((i : Int) - 4) / 2 - 1) + 9 * rdI L (((i : Int) - 4) / 2) + 9 * rdI L (((i : Int) - 4) / 2 + 1) - rdI L (((i : Int) - 4) / 2 + 2) + 8) / 16) (hi := 255) (by omega)
    exact this
theorem lng_length (l : List Int) (c : Int) : (lngL l c).length = 2 * l.length + 8 := by unfold lngL; rw [List.length_append, tab_length]; simp; omega
theorem sm_length {L : List Int} {n : Nat} (h : 4 ≤ L.length) : (smL L n).length = 2 * n + 8 := by unfold smL; rw [List.length_append, tab_length, List.length_take]; omega
theorem db_length {L : List Int} {n : Nat} : (dbL L n).length = 4 * n + 12 := by unfold dbL; rw [tab_length]

def S8 (nn : Nat) (mode delta : Int) : Bool := (angleOf mode delta).2 && !decide (delta = 0) && decide (8 ≤ nn)
def S4 (nn : Nat) (mode delta : Int) : Bool := (angleOf mode delta).2 && !decide (delta = 0) && decide (nn = 4)
def edL (nn : Nat) (mode delta : Int) (l : List Int) (C : Int) : List Int := if S8 nn mode delta then smL (lngL l C) nn else if S4 nn mode delta then dbL (lngL l C) nn else lngL l C
def edU (nn : Nat) (mode delta : Int) : Nat := if S4 nn mode delta then 1 else 0
def predR (nn : Nat) (mode delta : Int) (ha hl : Bool) (a l : List Nat) (c : Int) : Int → Int → Int :=
  pixR nn mode (angleOf mode delta).2 (angleOf mode delta).1 (edU nn mode delta) (tab (faF ha hl a l) nn) (tab (flF ha hl a l) nn)
    (edL nn mode delta (tab (faF ha hl a l) nn) (fC ha hl a l c)) (edL nn mode delta (tab (flF ha hl a l) nn) (fC ha hl a l c)) (fC ha hl a l c) (meanV a l : Nat)

/-- What the document's Predict answers. -/
def RefOk (h : H) (n mode delta : Int) (ha hl : Bool) (a l : List Nat) (c : Int) (w : V) (h' : H) : Prop :=
  Ext h h' ∧
  if Sz n = false then w = .tup [.nils, .int .i64 2] else if Bad mode delta then w = .tup [.nils, .int .i64 120] else if Good n ha hl a.length l.length = false then w = .tup [.nils, .int .i64 2] else
  ∃ so, ∃ m : Nat, (m : Int) = n * n ∧ w = .tup [so, .int .i64 0] ∧ GrowV h.n h' so 5 1 ((List.range m).map (byteAt (predR n.toNat mode delta ha hl a l c) n)) m

/-- From the loop on. -/
theorem fin15 {h hb : H} {q10 q13 q14 nn u m : Nat} {mode an mean C : Int} {sl' : Bool} {fa fl La Ll : List Int} {sa sl va vl : V} (c : Ctx15 hb q10 q13 q14 nn u fa fl La Ll C sa sl va vl) (n4 : 4 ≤ nn) (n64 : nn ≤ 64) (hm : (m : Int) = (nn : Int) * nn) (ha : sl' = true → 0 ≤ an ∧ an ≤ 300) (x : Ext h hb)
    {e : E} {k : E → H → Out} (e0 : e.s [0, 1, 2, 3, 7, 8, 9, 10, 11, 12, 13, 14, 15, 16, 17, 18, 19, 20] 0 = .int .i64 nn) (e1 : e.s [0, 1, 2, 3, 7, 8, 9, 10, 11, 12, 13, 14, 15, 16, 17, 18, 19, 20] 1 = .int .i64 mode) (e10 : e.s [0, 1, 2, 3, 7, 8, 9, 10, 11, 12, 13, 14, 15, 16, 17, 18, 19, 20] 10 = .ptr q10 0) (e11 : e.s [0, 1, 2, 3, 7, 8, 9, 10, 11, 12, 13, 14, 15, 16, 17, 18, 19, 20] 11 = .int .i64 an) (e12 : e.s [0, 1, 2, 3, 7, 8, 9, 10, 11, 12, 13, 14, 15, 16, 17, 18, 19, 20] 12 = .bool sl') (e13 : e.s [0, 1, 2, 3, 7, 8, 9, 10, 11, 12, 13, 14, 15, 16, 17, 18, 19, 20] 13 = .ptr q13 0) (e14 : e.s [0, 1, 2, 3, 7, 8, 9, 10, 11, 12, 13, 14, 15, 16, 17, 18, 19, 20] 14 = .ptr q14 0) (e15 : e.s [0, 1, 2, 3, 7, 8, 9, 10, 11, 12, 13, 14, 15, 16, 17, 18, 19, 20] 15 = .int .i64 mean) (e16 : e.s [0, 1, 2, 3, 7, 8, 9, 10, 11, 12, 13, 14, 15, 16, 17, 18, 19, 20] 16 = .nils) (e17 : e.s [0, 1, 2, 3, 7, 8, 9, 10, 11, 12, 13, 14, 15, 16, 17, 18, 19, 20] 17 = .int .i64 0)
    (hk : ∀ (en : E) (g : H), fin Try.prog [0, 1, 2, 3, 7, 8, 9, 10, 11, 12, 13, 14, 15, 16, 17, 18, 19, 20] [.tmp 8, .tmp 9] (k en g) = some (.ret (.tup [en.s [0, 1, 2, 3, 7, 8, 9, 10, 11, 12, 13, 14, 15, 16, 17, 18, 19, 20] 16, .int .i64 0]), g)) :
    RT (fun w h' => Ext h h' ∧ ∃ so, w = .tup [so, .int .i64 0] ∧ GrowV h.n h' so 5 1 ((List.range m).map (byteAt (pixR nn mode sl' an u fa fl La Ll C mean) nn)) m)
      (fin Try.prog [0, 1, 2, 3, 7, 8, 9, 10, 11, 12, 13, 14, 15, 16, 17, 18, 19, 20] [.tmp 8, .tmp 9] (sq (blk 0 (loopZ (l15_0 KW loopZ) e hb)) k)) := by
  refine loop_in (C := fun o => RT _ (fin _ _ _ (sq (blk _ o) _))) _ _ (step15 c n4 n64 hm ha) m ⟨Nat.le_refl _, Ext.refl _, ⟨.nils, e16, by rw [Nat.sub_self]; exact .inl ⟨rfl, rfl, rfl⟩⟩, e0, e1, e10, e11, e12, e13, e14, e15, by rw [Nat.sub_self]; exact e17⟩ ?_
  rintro ⟨x1, en, g⟩ ⟨hx, hj, x2, ⟨so, o1, o2⟩, _⟩
  simp only at hx o1 o2 x2
  subst hx
  simp only [blk_ex, if_true, sq_nm]
  rw [hk, o1]
  simp only [Nat.sub_zero] at o2
  refine ⟨x.trans x2, so, rfl, ?_⟩
  rcases o2 with h | ⟨b, q1, q2, q3, q4⟩
  · exact .inl h
  · exact .inr ⟨b, q1, q2, q3, by have := x.n; omega⟩

theorem guard15 {mode delta : Int} {e : E} {h : H} (kd : KW 36 [.int .i64 mode] h = some (.ret (.bool (decide (1 ≤ mode) && decide (mode ≤ 8))), h)) (kk : V → H → Out) :
    (bd (binK 0 .lss (.int .i64 mode) (.int .i64 0)) fun t25 =>
     bd (gl t25 false (some (.int .i64 mode))) fun t27 =>
     bd (gl t25 false (binK 0 .gtr t27 (.int .i64 12))) fun t28 =>
     bd (pk t25 (.bool true) t28) fun t29 =>
     bd (gl t29 false (some (.int .i64 delta))) fun t31 =>
     bd (gl t29 false (binK 0 .lss t31 (.int .i64 (-3)))) fun t32 =>
     bd (pk t29 (.bool true) t32) fun t33 =>
     bd (gl t33 false (some (.int .i64 delta))) fun t35 =>
     bd (gl t33 false (binK 0 .gtr t35 (.int .i64 3))) fun t36 =>
     bd (pk t33 (.bool true) t36) fun t37 =>
     bd (gl t37 false (some (.int .i64 delta))) fun t39 =>
     bd (gl t37 false (binK 0 .neq t39 (.int .i64 0))) fun t40 =>
     bd (gl t37 false (some t40)) fun t41 =>
     bd (gl t41 true (some (.int .i64 mode))) fun t42 =>
     bc [0, 1, 2, 3, 7, 8, 9, 10, 11, 12, 13, 14, 15, 16, 17, 18, 19, 20] [24, 25, 26, 27, 28, 29, 30, 31, 32, 33, 34, 35, 36, 37, 38, 39, 40, 41, 42, 43, 44, 45, 46] e (gk t41 true h (KW 36 [t42] h)) fun t43 h1 =>
     bd (gl t41 true (unV .not t43)) fun t44 =>
     bd (gl t37 false (pk t41 t44 (.bool false))) fun t45 =>
     bd (pk t37 (.bool true) t45) fun t46 => kk t46 h1) = kk (.bool (Bad mode delta)) h := by
  unfold Bad angleOf
  by_cases c1 : mode < 0
  · simp [c1, gl_t, gk_t]
  · by_cases c2 : 12 < mode
    · simp [c1, c2, gl_t, gk_t]
    · by_cases c3 : delta < -3
      · simp [c1, c2, c3, gl_t, gk_t]
        congr 2
        simp; omega
      · by_cases c4 : 3 < delta
        · simp [c1, c2, c3, c4, gl_t, gk_t]
          congr 2
          simp; omega
        · by_cases c5 : delta = 0
          · simp [c1, c2, c3, c4, c5, gl_t, gk_t]
            congr 2
            by_cases c6 : mode < 1 ∨ 8 < mode
            · simp [c6]; omega
            · simp [c6]
          · simp [c1, c2, c3, c4, c5, kd]
            congr 2
            by_cases c6 : mode < 1 ∨ 8 < mode
            · simp [c6]
            · simp [c6]; omega

theorem angle21x_ok (m d : Int) (h : H) : RT (fun w h' => w = .tup [.int .i64 (angleOf m d).1, .bool (angleOf m d).2] ∧ Ext h h') (KW 21 [.int .i64 m, .int .i64 d] h) := by
  rw [w21, f21, s21]
  unfold angleOf
  by_cases h1 : m < 1
  · simp [dir36_ok, h1, show ¬ 1 ≤ m by omega]
    exact ⟨by simp, Ext.refl _⟩
  · by_cases h2 : 8 < m
    · simp [dir36_ok, h1, h2, show 1 ≤ m by omega, show ¬ m ≤ 8 by omega]
      exact ⟨by simp, Ext.refl _⟩
    · by_cases h3 : d < -3
      · simp [dir36_ok, h1, h2, h3, show 1 ≤ m by omega, show m ≤ 8 by omega]
        exact ⟨by simp, Ext.refl _⟩
      · by_cases h4 : 3 < d
        · simp [dir36_ok, h1, h2, h3, h4, show 1 ≤ m by omega, show m ≤ 8 by omega]
          exact ⟨by simp, Ext.refl _⟩
        · have a1 : IntKind.i64.wrap (3 * d) = 3 * d := Go.Zf.wi64 (by omega) (by omega)
          have a2 : ∀ t : Int, 0 ≤ t → t ≤ 300 → IntKind.i64.wrap (t + 3 * d) = t + 3 * d := fun t _ _ => Go.Zf.wi64 (by omega) (by omega)
          have hm : m = 1 ∨ m = 2 ∨ m = 3 ∨ m = 4 ∨ m = 5 ∨ m = 6 ∨ m = 7 ∨ m = 8 := by omega
          obtain ⟨h1', hh1⟩ : ∃ g, g = h.new (.cells [.int .i64 90, .int .i64 180, .int .i64 45, .int .i64 135, .int .i64 113, .int .i64 157, .int .i64 203, .int .i64 67] 3 false) := ⟨_, rfl⟩
          have g1 : h1'.get h.n = some (.cells [.int .i64 90, .int .i64 180, .int .i64 45, .int .i64 135, .int .i64 113, .int .i64 157, .int .i64 203, .int .i64 67] 3 false) := by rw [hh1]; exact get_new_same
          have x : Ext h h1' := by rw [hh1]; exact (Ext.refl h).new _
          rcases hm with rfl | rfl | rfl | rfl | rfl | rfl | rfl | rfl
          all_goals
            simp [dir36_ok, h3, h4, bs, fillW, splice, Go.Zf.wi64, ← hh1, rd1_of g1, a1, a2]
            exact ⟨by simp, x⟩

/-- The long edges, smoothed or doubled. -/
theorem parts15 {hb : H} {q13 q14 nn : Nat} {va vl : V} {La Ll : List Int} {p1 p2 : Nat} {d : Bool} (hq : q14 = q13 + 1) (hqn : hb.n = q13 + 2) (g13 : hb.get q13 = some (.cells [va, .int .i64 0] 68 false)) (g14 : hb.get q14 = some (.cells [vl, .int .i64 0] 68 false))
    (VA : GrowV p1 hb va 3 1 (intsV La) La.length) (VL : GrowV p2 hb vl 3 1 (intsV Ll) Ll.length) (l1 : 4 ≤ La.length) (l2 : La.length ≤ 1000) (l3 : 4 ≤ Ll.length) (l4 : Ll.length ≤ 1000) (bA : AllB La) (bL : AllB Ll) (n4 : 4 ≤ nn) (n64 : nn ≤ 64) :
    ∃ (va' vl' : V) (h1 h2 h3 h4 : H), KW (if d then 40 else 39) [.agg [va, .int .i64 0], .int .i64 nn] hb = some (.ret (.agg [va', .int .i64 (if d then 1 else 0)]), h1) ∧ h1.get q14 = some (.cells [vl, .int .i64 0] 68 false) ∧
      KW (if d then 40 else 39) [.agg [vl, .int .i64 0], .int .i64 nn] h1 = some (.ret (.agg [vl', .int .i64 (if d then 1 else 0)]), h2) ∧ h2.wrN q13 0 [va', .int .i64 (if d then 1 else 0)] = some h3 ∧ h3.wrN q14 0 [vl', .int .i64 (if d then 1 else 0)] = some h4 ∧
      h4.get q13 = some (.cells [va', .int .i64 (if d then 1 else 0)] 68 false) ∧ h4.get q14 = some (.cells [vl', .int .i64 (if d then 1 else 0)] 68 false) ∧
      GrowV hb.n h4 va' 3 1 (intsV (if d then dbL La nn else smL La nn)) (if d then dbL La nn else smL La nn).length ∧ GrowV hb.n h4 vl' 3 1 (intsV (if d then dbL Ll nn else smL Ll nn)) (if d then dbL Ll nn else smL Ll nn).length ∧
      (∀ b, b < q13 → h4.get b = hb.get b) ∧ hb.n ≤ h4.n := by
  have both : ∀ (g : H) (p : Nat) (v : V) (L : List Int), GrowV p g v 3 1 (intsV L) L.length → 4 ≤ L.length → L.length ≤ 1000 → AllB L → ∃ w g', KW (if d then 40 else 39) [.agg [v, .int .i64 0], .int .i64 nn] g = some (.ret (.agg [w, .int .i64 (if d then 1 else 0)]), g') ∧ Ext g g' ∧ GrowV g.n g' w 3 1 (intsV (if d then dbL L nn else smL L nn)) (if d then dbL L nn else smL L nn).length := by
    intro g p v L G a1 a2 a3
    cases d with
    | true =>
      obtain ⟨_, g', k1, x1, w, rfl, G'⟩ := (doubled40_ok (u := 0) G a1 a2 a3 n4 n64).elim
      exact ⟨w, g', k1, x1, G'⟩
    | false =>
      obtain ⟨_, g', k1, x1, w, rfl, G'⟩ := (smoothed39_ok (u := 0) G a1 a2 a3 n4 n64).elim
      exact ⟨w, g', k1, x1, G'⟩
  obtain ⟨va', h1, k1, x1, G1⟩ := both hb _ va La VA l1 l2 bA
  have g14' : h1.get q14 = _ := (x1.get _ (H.get_lt g14)).trans g14
  obtain ⟨vl', h2, k2, x2, G2⟩ := both h1 _ vl Ll (VL.ext x1) l3 l4 bL
  have g13'' : h2.get q13 = _ := ((x1.trans x2).get _ (H.get_lt g13)).trans g13
  have g14'' : h2.get q14 = _ := (x2.get _ (H.get_lt g14')).trans g14'
  obtain ⟨dd, hdd⟩ : ∃ z : Int, z = (if d then 1 else 0) := ⟨_, rfl⟩
  rw [← hdd] at k1 k2
  rw [← hdd]
  have n1 := x1.n
  have n2 := x2.n
  have G1' := G1.ext x2
  have e14 : (h2.put q13 (.cells [va', .int .i64 dd] 68 false)).get q14 = some (.cells [vl, .int .i64 0] 68 false) := by rw [get_put_ne (by omega), g14'']
  refine ⟨va', vl', h1, h2, h2.put q13 (.cells [va', .int .i64 dd] 68 false), (h2.put q13 (.cells [va', .int .i64 dd] 68 false)).put q14 (.cells [vl', .int .i64 dd] 68 false), k1, g14', k2, by rw [wrN_of g13'' (by simp)]; rfl, by rw [wrN_of e14 (by simp)]; rfl,
    by rw [get_put_ne (by omega), get_put_same (H.get_lt g13'')], by rw [get_put_same (H.get_lt e14)], ?_, ?_, fun b hb' => by rw [get_put_ne (by omega), get_put_ne (by omega), (x1.trans x2).get b (by omega)], by simp only [H.n_put]; omega⟩
  · exact (G1'.put (G1'.fresh.ne (by omega))).put (G1'.fresh.ne (by omega))
  · rcases (G2.put (c := q13) (y := .cells [va', .int .i64 dd] 68 false) (G2.fresh.ne (by omega))).put (c := q14) (y := .cells [vl', .int .i64 dd] 68 false) (G2.fresh.ne (by omega)) with h | ⟨b, q1, q2, q3, q4⟩
    · exact .inl h
    · exact .inr ⟨b, q1, q2, q3, by omega⟩

set_option maxHeartbeats 6400000 in
theorem predict15_ok {h : H} {n mode delta : Int} {ha hl : Bool} {A L : V} {a l : List Nat} {c : Int} (aA : ByAt h A a) (aL : ByAt h L l) (c0 : 0 ≤ c) (c1 : c ≤ 255) :
    RT (RefOk h n mode delta ha hl a l c) (KW 15 [.int .i64 n, .int .i64 mode, .int .i64 delta, .agg (edges ha hl A L c)] h) := by
  obtain ⟨h1, hh1⟩ : ∃ g, g = h.new (.cells (edges ha hl A L c) 25 false) := ⟨_, rfl⟩
  have x1 : Ext h h1 := by rw [hh1]; exact (Ext.refl h).new _
  have g1 : h1.get h.n = some (.cells (edges ha hl A L c) 25 false) := by rw [hh1, get_new_same]
  have hlen : (edges ha hl A L c).length = 5 := rfl
  obtain ⟨cs, hcs⟩ : ∃ cs, cs = edges ha hl A L c := ⟨_, rfl⟩
  have ks := size29_ok n h1
  unfold RefOk
  cases hz : Sz n with
  | false =>
    rw [hz] at ks
    rw [w15, f15, s15]
    rw [← hcs] at hh1 ⊢
    simp [bx, ← hh1, ks]
    exact ⟨x1, rfl⟩
  | true =>
    rw [hz] at ks
    obtain ⟨n4, n64, n0⟩ := sz_even hz
    obtain ⟨nn, rfl⟩ : ∃ nn : Nat, n = (nn : Int) := ⟨n.toNat, by omega⟩
    have hg15 := fun (e : E) (kk : V → H → Out) => guard15 (mode := mode) (delta := delta) (e := e) (dir36_ok mode h1) kk
    obtain ⟨bd', hbad⟩ : ∃ p, p = Bad mode delta := ⟨_, rfl⟩
    rw [← hbad] at hg15
    rw [← hbad]
    cases hbd : bd' with
    | true =>
      rw [hbd] at hg15
      rw [w15, f15, s15]
      rw [← hcs] at hh1 ⊢
      simp [bx, ← hh1, ks, -binK_lss, hg15]
      exact ⟨x1, rfl⟩
    | false =>
      rw [hbd] at hg15
      obtain ⟨h3, k3, x3', x3''⟩ := check13_ok (n := (nn : Int)) (ha := ha) (hl := hl) (c := c) aA.len aL.len h1
      have x3 : Ext h1 h3 := ⟨x3', x3''⟩
      have X3 := x1.trans x3
      have g3 : h3.get h.n = _ := (x3.get _ (H.get_lt g1)).trans g1
      cases hg : Good nn ha hl a.length l.length with
      | false =>
        rw [hg] at k3
        rw [w15, f15, s15]
        rw [← hcs] at hh1 g1 g3 k3 hlen ⊢
        simp [bx, ← hh1, ks, -binK_lss, hg15, rdN_of (o := 0) (n := 5) g1 (by simp [hlen]), List.take_of_length_le, hlen, k3]
        exact ⟨X3, rfl⟩
      | true =>
        rw [hg] at k3
        have hsz : a.length = (if ha then nn else 0) ∧ l.length = (if hl then nn else 0) := by
          unfold Good Fits at hg
          simp at hg
          obtain ⟨⟨_, h1⟩, h2⟩ := hg
          constructor
          · cases ha <;> simp at h1 ⊢ <;> omega
          · cases hl <;> simp at h2 ⊢ <;> omega
        obtain ⟨m, hm⟩ : ∃ m : Nat, (m : Int) = (nn : Int) * nn := ⟨nn * nn, by simp⟩
        obtain ⟨_, h4, k4, x4, sa, sl, rfl, SA, SL⟩ := (filled37_ok (ha := ha) (hl := hl) (c := c) (aA.ext X3) (aL.ext X3) hsz.1 hsz.2 (by omega) (by omega) c0 c1).elim
        have hfc : 0 ≤ fC ha hl a l c ∧ fC ha hl a l c ≤ 255 := by
          unfold fC
          split
          · split
            · exact ⟨c0, c1⟩
            · rename_i e1 e2
              have := aA.lt 0 (by rw [hsz.1, if_pos e1]; omega)
              omega
          · split
            · rename_i e1 e2
              have := aL.lt 0 (by rw [hsz.2, if_pos e2]; omega)
              omega
            · omega
        have bfa : AllB (tab (faF ha hl a l) nn) := allB_tab fun i hi => by
          unfold faF
          split
          · rename_i e; have := aA.lt i (by rw [hsz.1, if_pos e]; exact hi); omega
          · split
            · rename_i e1 e; have := aL.lt 0 (by rw [hsz.2, if_pos e]; omega); omega
            · omega
        have bfl : AllB (tab (flF ha hl a l) nn) := allB_tab fun i hi => by
          unfold flF
          split
          · rename_i e; have := aL.lt i (by rw [hsz.2, if_pos e]; exact hi); omega
          · split
            · rename_i e1 e; have := aA.lt 0 (by rw [hsz.1, if_pos e]; omega); omega
            · omega
        simp only [Int.toNat_natCast]
        unfold predR
        obtain ⟨C, hC⟩ : ∃ C, C = fC ha hl a l c := ⟨_, rfl⟩
        obtain ⟨fa', hfa⟩ : ∃ C, C = tab (faF ha hl a l) nn := ⟨_, rfl⟩
        obtain ⟨fl', hfl⟩ : ∃ C, C = tab (flF ha hl a l) nn := ⟨_, rfl⟩
        have lfa : fa'.length = nn := by rw [hfa, tab_length]
        have lfl : fl'.length = nn := by rw [hfl, tab_length]
        rw [← hC] at k4 hfc
        rw [← hfa] at SA bfa
        rw [← hfl] at SL bfl
        rw [← hC, ← hfa, ← hfl]
        have g4 : h4.get h.n = _ := (x4.get _ (H.get_lt g3)).trans g3
        obtain ⟨h5, hh5⟩ : ∃ g, g = (h4.new (.cells [.nils, .nils, .int .i64 0] 65 false)).put h4.n (.cells [sa, sl, .int .i64 C] 65 false) := ⟨_, rfl⟩
        have x5 : Ext h4 h5 := by rw [hh5]; exact ((Ext.refl h4).new _).put (Nat.le_refl _) _
        have g5 : h5.get h4.n = some (.cells [sa, sl, .int .i64 C] 65 false) := by rw [hh5, get_put_same (by rw [H.n_new]; omega)]
        obtain ⟨_, h6, ka, rfl, x6⟩ := (angle21x_ok mode delta h5).elim
        obtain ⟨an, hand⟩ : ∃ p, p = (angleOf mode delta).1 := ⟨_, rfl⟩
        obtain ⟨sl', hsld⟩ : ∃ p, p = (angleOf mode delta).2 := ⟨_, rfl⟩
        have hab : sl' = true → 0 ≤ an ∧ an ≤ 300 := fun e => by
          have := angle_bd mode delta (by rw [← hsld, e])
          rw [← hand] at this
          exact ⟨this.2.2.2.2.1, this.2.2.2.2.2⟩
        rw [← hand, ← hsld] at ka
        rw [← hand, ← hsld]
        have g5' : h6.get h4.n = _ := (x6.get _ (H.get_lt g5)).trans g5
        have X46 := x5.trans x6
        obtain ⟨_, h7, k7, x7, va, rfl, VA⟩ := (long38_ok (c := C) (lfa.symm ▸ (SA.ext X46)) (by omega) (by omega)).elim
        have g7 : h7.get h4.n = _ := (x7.get _ (H.get_lt g5')).trans g5'
        obtain ⟨_, h8, k8, x8, vl, rfl, VL⟩ := (long38_ok (c := C) (lfl.symm ▸ ((SL.ext X46).ext x7)) (by omega) (by omega)).elim
        have VA8 := VA.ext x8
        obtain ⟨h9, hh9⟩ : ∃ g, g = ((h8.new (.cells [.nils, .int .i64 0] 68 false)).new (.cells [.nils, .int .i64 0] 68 false)).put h8.n (.cells [va, .int .i64 0] 68 false) := ⟨_, rfl⟩
        have w9 : h9.get (h8.n + 1) = some (.cells [.nils, .int .i64 0] 68 false) := by rw [hh9, get_put_ne (by omega), get_new_eq (by rw [H.n_new])]
        have w8 : ((h8.new (.cells [.nils, .int .i64 0] 68 false)).new (.cells [.nils, .int .i64 0] 68 false)).get h8.n = some (.cells [.nils, .int .i64 0] 68 false) := by rw [get_new_lt (by rw [H.n_new]; omega), get_new_same]
        obtain ⟨h10, hh10⟩ : ∃ g, g = h9.put (h8.n + 1) (.cells [vl, .int .i64 0] 68 false) := ⟨_, rfl⟩
        have n9 : h9.n = h8.n + 2 := by rw [hh9]; simp only [H.n_put, H.n_new]
        have n10 : h10.n = h8.n + 2 := by rw [hh10, H.n_put, n9]
        have x10 : Ext h8 h10 := by rw [hh10, hh9]; exact ((((Ext.refl h8).new _).new _).put (Nat.le_refl _) _).put (by omega) _
        have q13 : h10.get h8.n = some (.cells [va, .int .i64 0] 68 false) := by rw [hh10, get_put_ne (by omega), hh9, get_put_same (by simp only [H.n_new]; omega)]
        have q14 : h10.get (h8.n + 1) = some (.cells [vl, .int .i64 0] 68 false) := by rw [hh10, get_put_same (by omega)]
        have lla := lng_length fa' C
        have lll := lng_length fl' C
        have bla := allB_lng bfa (by omega) hfc
        have bll := allB_lng bfl (by omega) hfc
        obtain ⟨La, hLa⟩ : ∃ z, z = lngL fa' C := ⟨_, rfl⟩
        obtain ⟨Ll, hLl⟩ : ∃ z, z = lngL fl' C := ⟨_, rfl⟩
        rw [← hLa] at VA8 lla bla
        rw [← hLl] at VL lll bll
        have X8 := ((X3.trans x4).trans X46).trans (x7.trans x8)
        have X10 := X8.trans x10
        have g8' : h8.get h4.n = _ := (x8.get _ (H.get_lt g7)).trans g7
        have h48 := H.get_lt g8'
        have h04 := H.get_lt g4
        have g8e : h8.get h.n = _ := ((X46.trans (x7.trans x8)).get _ h04).trans g4
        have g7e : h7.get h.n = _ := ((X46.trans x7).get _ h04).trans g4
        -- behind the edges
        have rest : ∀ (h11 : H) (u : Nat) (va' vl' : V) (La' Ll' : List Int) (p1 p2 : Nat), (∀ b, b < h8.n → h11.get b = h10.get b) → h10.n ≤ h11.n → h11.get h8.n = some (.cells [va', .int .i64 (u : Int)] 68 false) → h11.get (h8.n + 1) = some (.cells [vl', .int .i64 (u : Int)] 68 false) →
            GrowV p1 h11 va' 3 1 (intsV La') La'.length → GrowV p2 h11 vl' 3 1 (intsV Ll') Ll'.length → AllB La' → AllB Ll' → 0 < La'.length ∧ La'.length ≤ 1000 → 0 < Ll'.length ∧ Ll'.length ≤ 1000 → u = 0 ∨ u = 1 →
            h11.get h.n = some (.cells (edges ha hl A L c) 25 false) ∧ ∃ h12, KW 41 [.int .i64 nn, .agg (edges ha hl A L c)] h11 = some (.ret (.int .i64 (meanV a l : Nat)), h12) ∧ Ext h h12 ∧ Ctx15 h12 h4.n h8.n (h8.n + 1) nn u fa' fl' La' Ll' C sa sl va' vl' := by
          intro h11 u va' vl' La' Ll' p1 p2 e1 e2 e3 e4 e5 e6 e7 e8 e9 e10 e11
          have x11 : Ext h8 h11 := ⟨by omega, fun b hb => by rw [e1 b hb, x10.get b hb]⟩
          have X11 := X8.trans x11
          obtain ⟨_, h12, k12, rfl, x12⟩ := (dc41_ok (ha := ha) (hl := hl) (c := c) (aA.ext X11) (aL.ext X11) hsz.1 hsz.2 (by omega) (by omega)).elim
          refine ⟨by rw [x11.get _ (H.get_lt g8e)]; exact g8e, h12, k12, X11.trans x12, ⟨?_, ?_, ?_, ⟨h3.n, ?_⟩, ⟨h3.n, ?_⟩, ⟨_, e5.ext x12⟩, ⟨_, e6.ext x12⟩, lfa, lfl, bfa, bfl, e7, e8, e9, e10, hfc, e11⟩⟩
          · rw [(x11.trans x12).get _ h48]; exact g8'
          · rw [x12.get _ (H.get_lt e3), e3]
          · rw [x12.get _ (H.get_lt e4), e4]
          · rw [lfa]; exact SA.ext ((X46.trans (x7.trans x8)).trans (x11.trans x12))
          · rw [lfl]; exact SL.ext ((X46.trans (x7.trans x8)).trans (x11.trans x12))
        have sva := VA.same
        have ssa := SA.same
        have ssl := SL.same
        have svA8 : V.sames [va, .int .i64 0] [va, .int .i64 0] = true := by simp [V.sames, V.same, sva]
        have svl := VL.same
        unfold edges at hh1 g1 g3 g4 k3 k4 g8e g7e rest
        have g6e : h6.get h.n = _ := (X46.get _ h04).trans g4
        have g5e : h5.get h.n = _ := (x5.get _ h04).trans g4
        unfold edges
        cases hsl : sl' with
        | false =>
          obtain ⟨e1, h12, k12, X12, ctx⟩ := rest h10 0 va vl La Ll _ _ (fun _ _ => rfl) (Nat.le_refl _) q13 q14 (VA8.ext x10) (VL.ext x10) bla bll (by omega) (by omega) (.inl rfl)
          rw [hsl] at ka hab
          have hs8 : S8 nn mode delta = false := by unfold S8; rw [← hsld, hsl]; rfl
          have hs4 : S4 nn mode delta = false := by unfold S4; rw [← hsld, hsl]; rfl
          have hL : ∀ f, edL nn mode delta f C = lngL f C := fun f => by unfold edL; rw [hs8, hs4]; rfl
          have hU : edU nn mode delta = 0 := by unfold edU; rw [hs4]; rfl
          rw [hL, hL, hU, ← hLa, ← hLl]
          rw [w15, f15, s15]
          simp [bx, ← hh1, ks, -binK_lss, hg15, rdN_of (o := 0) (n := 5) g1 (by simp), k3, rdN_of (o := 0) (n := 5) g3 (by simp), k4, nw, wrN_of (o := 0) get_new_same, splice, ← hh5, ka, rd1_of g5', k7, rd1_of g7, k8, H.n_new, wrN_of (o := 0) w8, ← hh9, wrN_of (o := 0) w9, ← hh10, ck, V.same, V.sames, sva, svl, ssa, ssl, gl_t, rdN_of (o := 0) (n := 5) e1 (by simp), k12]
          exact (fin15 ctx (by omega) (by omega) hm hab X12 (by simp) (by simp) (by simp) (by simp) (by simp) (by simp) (by simp) (by simp) (by simp) (by simp) (fun en g => by simp)).mono fun w h' ⟨x, so, q1, q2⟩ => ⟨x, so, m, hm, q1, q2⟩
        | true =>
          rw [hsl] at ka hab
          by_cases hd : delta = 0
          · obtain ⟨e1, h12, k12, X12, ctx⟩ := rest h10 0 va vl La Ll _ _ (fun _ _ => rfl) (Nat.le_refl _) q13 q14 (VA8.ext x10) (VL.ext x10) bla bll (by omega) (by omega) (.inl rfl)
            have hs8 : S8 nn mode delta = false := by unfold S8; simp [hd]
            have hs4 : S4 nn mode delta = false := by unfold S4; simp [hd]
            have hL : ∀ f, edL nn mode delta f C = lngL f C := fun f => by unfold edL; rw [hs8, hs4]; rfl
            have hU : edU nn mode delta = 0 := by unfold edU; rw [hs4]; rfl
            rw [hL, hL, hU, ← hLa, ← hLl]
            subst hd
            rw [w15, f15, s15]
            simp [bx, ← hh1, ks, -binK_lss, hg15, rdN_of (o := 0) (n := 5) g1 (by simp), k3, rdN_of (o := 0) (n := 5) g3 (by simp), k4, nw, wrN_of (o := 0) get_new_same, splice, ← hh5, ka, rd1_of g5', k7, rd1_of g7, k8, H.n_new, wrN_of (o := 0) w8, ← hh9, wrN_of (o := 0) w9, ← hh10, ck, V.same, V.sames, sva, svl, ssa, ssl, gl_t, rdN_of (o := 0) (n := 5) e1 (by simp), k12]
            exact (fin15 ctx (by omega) (by omega) hm hab X12 (by simp) (by simp) (by simp) (by simp) (by simp) (by simp) (by simp) (by simp) (by simp) (by simp) (fun en g => by simp)).mono fun w h' ⟨x, so, q1, q2⟩ => ⟨x, so, m, hm, q1, q2⟩
          · by_cases h8 : 8 ≤ nn
            · obtain ⟨va', vl', i1, i2, i3, i4, p1, p2, p3, p4, p5, p6, p7, p8, p9, p10, p11⟩ := parts15 (d := false) rfl n10 q13 q14 (VA8.ext x10) (VL.ext x10) (by omega) (by omega) (by omega) (by omega) bla bll (by omega) (by omega : nn ≤ 64)
              simp only [Bool.false_eq_true, if_false] at p1 p2 p3 p4 p5 p6 p7 p8 p9
              have sm1 := sm_length (L := La) (n := nn) (by omega)
              have sm2 := sm_length (L := Ll) (n := nn) (by omega)
              obtain ⟨e1, h12, k12, X12, ctx⟩ := rest i4 0 va' vl' _ _ _ _ p10 p11 p6 p7 p8 p9 (allB_sm bla (by omega)) (allB_sm bll (by omega)) (by omega) (by omega) (.inl rfl)
              have hs8 : S8 nn mode delta = true := by unfold S8; rw [← hsld, hsl]; simp [hd, h8]
              have hs4 : S4 nn mode delta = false := by unfold S4; simp; omega
              have hL : ∀ f, edL nn mode delta f C = smL (lngL f C) nn := fun f => by unfold edL; rw [hs8]; rfl
              have hU : edU nn mode delta = 0 := by unfold edU; rw [hs4]; rfl
              rw [hL, hL, hU, ← hLa, ← hLl]
              rw [w15, f15, s15]
              simp [bx, ← hh1, ks, -binK_lss, hg15, rdN_of (o := 0) (n := 5) g1 (by simp), k3, rdN_of (o := 0) (n := 5) g3 (by simp), k4, nw, wrN_of (o := 0) get_new_same, splice, ← hh5, ka, rd1_of g5', k7, rd1_of g7, k8, H.n_new, wrN_of (o := 0) w8, ← hh9, wrN_of (o := 0) w9, ← hh10, ck, V.same, V.sames, sva, svl, ssa, ssl, gl_t, hd, h8, show (8 : Int) ≤ nn by omega, rdN_of (o := 0) (n := 2) q13 (by simp), rdN_of (o := 0) (n := 2) q14 (by simp), p1, rdN_of (o := 0) (n := 2) p2 (by simp), p3, p4, p5, svA8, show ¬ (nn : Int) = 4 by omega, show ¬ nn = 4 by omega, rdN_of (o := 0) (n := 5) e1 (by simp), k12]
              exact (fin15 ctx (by omega) (by omega) hm hab X12 (by simp) (by simp) (by simp) (by simp) (by simp) (by simp) (by simp) (by simp) (by simp) (by simp) (fun en g => by simp)).mono fun w h' ⟨x, so, q1, q2⟩ => ⟨x, so, m, hm, q1, q2⟩
            · have h4' : nn = 4 := by
                have := hz; simp [Sz] at this; omega
              obtain ⟨va', vl', i1, i2, i3, i4, p1, p2, p3, p4, p5, p6, p7, p8, p9, p10, p11⟩ := parts15 (d := true) rfl n10 q13 q14 (VA8.ext x10) (VL.ext x10) (by omega) (by omega) (by omega) (by omega) bla bll (by omega) (by omega : nn ≤ 64)
              simp only [if_true] at p1 p2 p3 p4 p5 p6 p7 p8 p9
              have sm1 := db_length (L := La) (n := nn)
              have sm2 := db_length (L := Ll) (n := nn)
              obtain ⟨e1, h12, k12, X12, ctx⟩ := rest i4 1 va' vl' _ _ _ _ p10 p11 p6 p7 p8 p9 (allB_db bla (by omega)) (allB_db bll (by omega)) (by omega) (by omega) (.inr rfl)
              have hs8 : S8 nn mode delta = false := by unfold S8; simp; omega
              have hs4 : S4 nn mode delta = true := by unfold S4; rw [← hsld, hsl]; simp [hd, h4']
              have hL : ∀ f, edL nn mode delta f C = dbL (lngL f C) nn := fun f => by unfold edL; rw [hs8, hs4]; rfl
              have hU : edU nn mode delta = 1 := by unfold edU; rw [hs4]; rfl
              rw [hL, hL, hU, ← hLa, ← hLl]
              subst h4'
              simp only [Int.cast_ofNat_Int] at ks k3 k4 k12 p1 p3 p4 p5
              rw [w15, f15, s15]
              simp [bx, ← hh1, ks, -binK_lss, hg15, rdN_of (o := 0) (n := 5) g1 (by simp), k3, rdN_of (o := 0) (n := 5) g3 (by simp), k4, nw, wrN_of (o := 0) get_new_same, splice, ← hh5, ka, rd1_of g5', k7, rd1_of g7, k8, H.n_new, wrN_of (o := 0) w8, ← hh9, wrN_of (o := 0) w9, ← hh10, ck, V.same, V.sames, sva, svl, ssa, ssl, gl_t, hd, rdN_of (o := 0) (n := 2) q13 (by simp), rdN_of (o := 0) (n := 2) q14 (by simp), p1, rdN_of (o := 0) (n := 2) p2 (by simp), p3, p4, p5, svA8, rdN_of (o := 0) (n := 5) e1 (by simp), k12]
              exact (fin15 ctx (by omega) (by omega) hm hab X12 (by simp) (by simp) (by simp) (by simp) (by simp) (by simp) (by simp) (by simp) (by simp) (by simp) (fun en g => by simp)).mono fun w h' ⟨x, so, q1, q2⟩ => ⟨x, so, m, hm, q1, q2⟩
end Go.Proofs.Ytpjcmgmmolediaa
