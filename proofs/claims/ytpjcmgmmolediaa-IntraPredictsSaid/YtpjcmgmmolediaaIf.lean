/- Directions: between, slant, direct. -/
import Derived.Test.YtpjcmgmmolediaaIe
set_option linter.unusedVariables false
set_option linter.unusedSimpArgs false
namespace Go.Proofs.Ytpjcmgmmolediaa
open Go Go.Zf Go.RowKit

theorem w67 (p0 p1 p2 p3 p4 : V) (h : H) : KW 67 [p0, p1, p2, p3, p4] h = f67 KW loopZ p0 p1 p2 p3 p4 h := (callW_eqF _ _ _ _ _ _ rfl).trans (congrFun (congrFun (congrFun (congrFun (congrFun (congrFun (congrFun (congrFun (r67) _) _) p0) p1) p2) p3) p4) h)
theorem w66 (p0 p1 p2 p3 p4 : V) (h : H) : KW 66 [p0, p1, p2, p3, p4] h = f66 KW loopZ p0 p1 p2 p3 p4 h := (callW_eqF _ _ _ _ _ _ rfl).trans (congrFun (congrFun (congrFun (congrFun (congrFun (congrFun (congrFun (congrFun (r66) _) _) p0) p1) p2) p3) p4) h)
theorem w68 (p0 p1 p2 p3 p4 : V) (h : H) : KW 68 [p0, p1, p2, p3, p4] h = f68 KW loopZ p0 p1 p2 p3 p4 h := (callW_eqF _ _ _ _ _ _ rfl).trans (congrFun (congrFun (congrFun (congrFun (congrFun (congrFun (congrFun (congrFun (r68) _) _) p0) p1) p2) p3) p4) h)
theorem w69 (p0 p1 p2 p3 p4 p5 : V) (h : H) : KW 69 [p0, p1, p2, p3, p4, p5] h = f69 KW loopZ p0 p1 p2 p3 p4 p5 h := (callW_eqF _ _ _ _ _ _ rfl).trans (congrFun (congrFun (congrFun (congrFun (congrFun (congrFun (congrFun (congrFun (congrFun (r69) _) _) p0) p1) p2) p3) p4) p5) h)
theorem w52 (p0 p1 p2 : V) (h : H) : KW 52 [p0, p1, p2] h = f52 KW loopZ p0 p1 p2 h := (callW_eqF _ _ _ _ _ _ rfl).trans (congrFun (congrFun (congrFun (congrFun (congrFun (congrFun (r52) _) _) p0) p1) p2) h)
theorem w50 (p0 p1 p2 : V) (h : H) : KW 50 [p0, p1, p2] h = f50 KW loopZ p0 p1 p2 h := (callW_eqF _ _ _ _ _ _ rfl).trans (congrFun (congrFun (congrFun (congrFun (congrFun (congrFun (r50) _) _) p0) p1) p2) h)
theorem w51 (p0 p1 p2 : V) (h : H) : KW 51 [p0, p1, p2] h = f51 KW loopZ p0 p1 p2 h := (callW_eqF _ _ _ _ _ _ rfl).trans (congrFun (congrFun (congrFun (congrFun (congrFun (congrFun (r51) _) _) p0) p1) p2) h)
theorem w31 (p0 p1 p2 : V) (h : H) : KW 31 [p0, p1, p2] h = f31 KW loopZ p0 p1 p2 h := (callW_eqF _ _ _ _ _ _ rfl).trans (congrFun (congrFun (congrFun (congrFun (congrFun (congrFun (r31) _) _) p0) p1) p2) h)

/-- A sample between two of an edge. -/
def bt (n p q : Int) (e : Int → Int) (far frm : Int) : Int :=
  if (2 * n - 1) * p ≤ far / q + frm * p then e ((2 * n - 1) * p)
  else ((32 - far * p / 2 % 32) * e (far / q + frm * p) + far * p / 2 % 32 * e (far / q + frm * p + 1) + 16) / 32
def btw (n : Int) (u : Nat) (e : Int → Int) (far frm : Int) : Int := if u = 0 then bt n 1 64 e far frm else bt n 2 32 e far frm

theorem between67_ok {h : H} {n : Int} {A L C v : V} {e : Int → Int} (a : Edge h v e (-big) big) {u : Nat} (hu : u = 0 ∨ u = 1) (hn : 4 ≤ n) (hn2 : n ≤ 64) {far frm : Int} (f0 : -1000000 ≤ far) (f1 : far ≤ 1000000) (g0 : 0 ≤ frm) (g1 : frm ≤ 64) :
    RT (fun v' h' => v' = .int .i64 (btw n u e far frm) ∧ Ext h h') (KW 67 [.agg [.int .i64 n, A, L, C], v, .int .i64 far, .int .i64 frm, .int .i64 (u : Int)] h) := by
  obtain ⟨h1', hh1⟩ : ∃ g, g = h.new (.cells [.int .i64 n, A, L, C] 59 false) := ⟨_, rfl⟩
  have x1 : Ext h h1' := by rw [hh1]; exact (Ext.refl h).new _
  have g0' : h1'.get h.n = some (.cells [.int .i64 n, A, L, C] 59 false) := by rw [hh1, get_new_same]
  have z1 : IntKind.i64.wrap (2 * n) = 2 * n := Go.Zf.wi64 (by omega) (by omega)
  have z2 : IntKind.i64.wrap (2 * n - 1) = 2 * n - 1 := Go.Zf.wi64 (by omega) (by omega)
  have key : ∀ (last at_ s : Int), 0 ≤ last → last ≤ 1000 → -1000000 ≤ at_ → at_ ≤ 1000000 → 0 ≤ s → s < 32 →
      ∃ w h', Ext h h' ∧ w = (if last ≤ at_ then e last else ((32 - s) * e at_ + s * e (at_ + 1) + 16) / 32) ∧
        (last ≤ at_ → cdy KW v [.int .i64 last] h1' = some (.ret (.int .i64 w), h')) ∧
        (¬ last ≤ at_ → ∃ y1 y2 k1, cdy KW v [.int .i64 at_] h1' = some (.ret (.int .i64 y1), k1) ∧ cdy KW v [.int .i64 (at_ + 1)] k1 = some (.ret (.int .i64 y2), h') ∧ w = ((32 - s) * y1 + s * y2 + 16) / 32 ∧
          0 ≤ (32 - s) * y1 ∧ (32 - s) * y1 ≤ 32 * 255 ∧ 0 ≤ s * y2 ∧ s * y2 ≤ 32 * 255) := by
    intro last at_ s l0 l1 a0 a1 s0 s1
    unfold big at a
    by_cases hc : last ≤ at_
    · obtain ⟨k, k1, k2⟩ := a.run h1' x1 last (by omega) (by omega)
      exact ⟨e last, k, x1.trans k2, by simp [hc], fun _ => k1, fun h => absurd hc h⟩
    · obtain ⟨k, k1, k2⟩ := a.run h1' x1 at_ (by omega) (by omega)
      obtain ⟨k', k3, k4⟩ := a.run k (x1.trans k2) (at_ + 1) (by omega) (by omega)
      have v1 := a.val at_ (by omega) (by omega)
      have v2 := a.val (at_ + 1) (by omega) (by omega)
      have m1 := mul_bd (a := 32 - s) (A := 32) (by omega) (by omega) v1.1 v1.2
      have m2 := mul_bd (a := s) (A := 32) (by omega) (by omega) v2.1 v2.2
      exact ⟨_, k', (x1.trans k2).trans k4, rfl, fun h => absurd h hc, fun _ => ⟨_, _, k, k1, k3, by simp [hc], m1.1, m1.2, m2.1, m2.2⟩⟩
  rcases hu with rfl | rfl
  · have z3 : IntKind.i64.wrap frm = frm := Go.Zf.wi64 (by omega) (by omega)
    have z4 : IntKind.i64.wrap (far / 64 + frm) = far / 64 + frm := Go.Zf.wi64 (by omega) (by omega)
    have z5 : IntKind.i64.wrap far = far := Go.Zf.wi64 (by omega) (by omega)
    have z6 : IntKind.i64.wrap 6 = 6 := Go.Zf.wi64 (by omega) (by omega)
    have hand : binK 0 .and (.int .i64 (far / 2)) (.int .i64 31) = some (.int .i64 (far / 2 % 32)) := binK_mask 0 _ 5 (by omega)
    obtain ⟨s, hs⟩ : ∃ s, s = far / 2 % 32 := ⟨_, rfl⟩
    obtain ⟨at_, hat⟩ : ∃ at_, at_ = far / 64 + frm := ⟨_, rfl⟩
    obtain ⟨w, h', x2, hw, c1, c2⟩ := key (2 * n - 1) at_ s (by omega) (by omega) (by omega) (by omega) (by omega) (by omega)
    have hb : btw n 0 e far frm = w := by
      rw [hw]; simp only [btw, bt, if_true, Int.mul_one, hs, hat]
    rw [hb, w67, f67, s67]
    rw [← hs] at hand
    rw [← hat] at z4
    by_cases hc : 2 * n - 1 ≤ at_
    · simp [bx, ← hh1, rd1_of g0', z1, z2, z3, z4, z5, z6, IntKind.bits, -binK_and, hand, ← hat, hc, c1 hc]
      exact ⟨rfl, x2⟩
    · obtain ⟨y1, y2, k1, d1, d2, d3, d4, d5, d6, d7⟩ := c2 hc
      have z7 : IntKind.i64.wrap (32 - s) = 32 - s := Go.Zf.wi64 (by omega) (by omega)
      have z8 : IntKind.i64.wrap ((32 - s) * y1) = (32 - s) * y1 := Go.Zf.wi64 (by omega) (by omega)
      have z9 : IntKind.i64.wrap (at_ + 1) = at_ + 1 := Go.Zf.wi64 (by omega) (by omega)
      have z10 : IntKind.i64.wrap (s * y2) = s * y2 := Go.Zf.wi64 (by omega) (by omega)
      have z11 : IntKind.i64.wrap ((32 - s) * y1 + s * y2) = (32 - s) * y1 + s * y2 := Go.Zf.wi64 (by omega) (by omega)
      have z12 : IntKind.i64.wrap ((32 - s) * y1 + s * y2 + 16) = (32 - s) * y1 + s * y2 + 16 := Go.Zf.wi64 (by omega) (by omega)
      simp [bx, ← hh1, rd1_of g0', z1, z2, z3, z4, z5, z6, z7, z8, z9, z10, z11, z12, IntKind.bits, -binK_and, hand, ← hat, hc, d1, d2]
      exact ⟨by rw [d3], x2⟩
  · have z3 : IntKind.i64.wrap (frm * 2) = frm * 2 := Go.Zf.wi64 (by omega) (by omega)
    have z4 : IntKind.i64.wrap (far / 32 + frm * 2) = far / 32 + frm * 2 := Go.Zf.wi64 (by omega) (by omega)
    have z5 : IntKind.i64.wrap (far * 2) = far * 2 := Go.Zf.wi64 (by omega) (by omega)
    have z6 : IntKind.i64.wrap 5 = 5 := Go.Zf.wi64 (by omega) (by omega)
    have z0 : IntKind.i64.wrap ((2 * n - 1) * 2) = (2 * n - 1) * 2 := Go.Zf.wi64 (by omega) (by omega)
    have hand : binK 0 .and (.int .i64 (far * 2 / 2)) (.int .i64 31) = some (.int .i64 (far * 2 / 2 % 32)) := binK_mask 0 _ 5 (by omega)
    rw [show far * 2 / 2 = far by omega] at hand
    obtain ⟨s, hs⟩ : ∃ s, s = far % 32 := ⟨_, rfl⟩
    obtain ⟨at_, hat⟩ : ∃ at_, at_ = far / 32 + frm * 2 := ⟨_, rfl⟩
    obtain ⟨w, h', x2, hw, c1, c2⟩ := key ((2 * n - 1) * 2) at_ s (by omega) (by omega) (by omega) (by omega) (by omega) (by omega)
    have hb : btw n 1 e far frm = w := by
      rw [hw]; simp only [btw, bt, Nat.one_ne_zero, if_false, hs, hat, show far * 2 / 2 = far by omega]
    rw [hb, w67, f67, s67]
    rw [← hs] at hand
    rw [← hat] at z4
    by_cases hc : (2 * n - 1) * 2 ≤ at_
    · simp [bx, ← hh1, rd1_of g0', z0, z1, z2, z3, z4, z5, z6, IntKind.bits, -binK_and, hand, ← hat, hc, c1 hc]
      exact ⟨rfl, x2⟩
    · obtain ⟨y1, y2, k1, d1, d2, d3, d4, d5, d6, d7⟩ := c2 hc
      have z7 : IntKind.i64.wrap (32 - s) = 32 - s := Go.Zf.wi64 (by omega) (by omega)
      have z8 : IntKind.i64.wrap ((32 - s) * y1) = (32 - s) * y1 := Go.Zf.wi64 (by omega) (by omega)
      have z9 : IntKind.i64.wrap (at_ + 1) = at_ + 1 := Go.Zf.wi64 (by omega) (by omega)
      have z10 : IntKind.i64.wrap (s * y2) = s * y2 := Go.Zf.wi64 (by omega) (by omega)
      have z11 : IntKind.i64.wrap ((32 - s) * y1 + s * y2) = (32 - s) * y1 + s * y2 := Go.Zf.wi64 (by omega) (by omega)
      have z12 : IntKind.i64.wrap ((32 - s) * y1 + s * y2 + 16) = (32 - s) * y1 + s * y2 + 16 := Go.Zf.wi64 (by omega) (by omega)
      simp [bx, ← hh1, rd1_of g0', z0, z1, z2, z3, z4, z5, z6, z7, z8, z9, z10, z11, z12, IntKind.bits, -binK_and, hand, ← hat, hc, d1, d2]
      exact ⟨by rw [d3], x2⟩

/-- A sample's function: what it answers. -/
structure Samp (h : H) (v : V) (s : Int → Int → Int) (n : Int) : Prop where
  run : ∀ h', Ext h h' → ∀ x y, 0 ≤ x → x < n → 0 ≤ y → y < n → RT (fun w h'' => w = .int .i64 (s x y) ∧ Ext h' h'') (cdy KW v [.int .i64 x, .int .i64 y] h')

def sl (t : Int) : Int := tabGet slopes t
theorem sl_bd (t : Int) : 0 ≤ sl t ∧ sl t ≤ 1023 := by
  unfold sl tabGet
  cases hf : slopes.find? fun p => p.1 == t with
  | none => simp
  | some p =>
    have h1 := List.mem_of_find?_eq_some hf
    have h2 : slopes.all (fun p => decide (0 ≤ p.2) && decide (p.2 ≤ 1023)) = true := by decide
    have := List.all_eq_true.mp h2 p h1
    simpa using this
theorem slope_ok (t : Int) (h : H) : KW 65 [.int .i64 t] h = some (.ret (.int .i64 (sl t)), h) := callW_ov rfl

def vis (u : Nat) (far : Int) : Bool := if u = 0 then decide (-1 ≤ far / 64) else decide (-2 ≤ far / 32)
def slt (n : Int) (u : Nat) (angle : Int) (A L : Int → Int) (x y : Int) : Int :=
  if angle < 90 then btw n u A ((y + 1) * sl angle) x
  else if 180 < angle then btw n u L ((x + 1) * sl (270 - angle)) y
  else if vis u (64 * x - (y + 1) * sl (180 - angle)) then btw n u A (64 * x - (y + 1) * sl (180 - angle)) 0
  else btw n u L (64 * y - (x + 1) * sl (angle - 90)) 0

theorem slant66_ok {h : H} {b bd bu : Nat} {n d : Int} {vA vL C : V} {A : Int → Int} {u : Nat} (hb : h.get b = some (.cells [.int .i64 n, vA, vL, C] 59 false)) (hd : h.get bd = some (.cells [.int .i64 d] 3 false)) (hu' : h.get bu = some (.cells [.int .i64 (u : Int)] 3 false))
    (a : Edge h vA A (-big) big) (hu : u = 0 ∨ u = 1) (hn : 4 ≤ n) (hn2 : n ≤ 64) (d0 : 0 ≤ d) (d1 : d ≤ 1023) {x y : Int} (x0 : 0 ≤ x) (x1 : x < n) (y0 : 0 ≤ y) (y1 : y < n) :
    RT (fun w h'' => w = .int .i64 (btw n u A ((y + 1) * d) x) ∧ Ext h h'') (KW 66 [.int .i64 x, .int .i64 y, .ptr b 0, .ptr bd 0, .ptr bu 0] h) := by
  have m := mul_bd (a := y + 1) (A := 64) (by omega) (by omega) d0 d1
  have z1 : IntKind.i64.wrap (y + 1) = y + 1 := Go.Zf.wi64 (by omega) (by omega)
  have z2 : IntKind.i64.wrap ((y + 1) * d) = (y + 1) * d := Go.Zf.wi64 (by omega) (by omega)
  obtain ⟨w, h', k1, rfl, k2⟩ := (between67_ok (A := vA) (L := vL) (C := C) (h := h) a hu hn hn2 (far := (y + 1) * d) (frm := x) (by omega) (by omega) x0 (by omega)).elim
  rw [w66, f66, s66]
  simp [rd1_of hb, rdN_of (o := 0) (n := 4) hb (by simp), rd1_of hd, rd1_of hu', z1, z2, k1]
  exact ⟨rfl, k2⟩

theorem slant68_ok {h : H} {b bd bu : Nat} {n d : Int} {vA vL C : V} {A : Int → Int} {u : Nat} (hb : h.get b = some (.cells [.int .i64 n, vA, vL, C] 59 false)) (hd : h.get bd = some (.cells [.int .i64 d] 3 false)) (hu' : h.get bu = some (.cells [.int .i64 (u : Int)] 3 false))
    (a : Edge h vL A (-big) big) (hu : u = 0 ∨ u = 1) (hn : 4 ≤ n) (hn2 : n ≤ 64) (d0 : 0 ≤ d) (d1 : d ≤ 1023) {x y : Int} (x0 : 0 ≤ x) (x1 : x < n) (y0 : 0 ≤ y) (y1 : y < n) :
    RT (fun w h'' => w = .int .i64 (btw n u A ((x + 1) * d) y) ∧ Ext h h'') (KW 68 [.int .i64 x, .int .i64 y, .ptr b 0, .ptr bd 0, .ptr bu 0] h) := by
  have m := mul_bd (a := x + 1) (A := 64) (by omega) (by omega) d0 d1
  have z1 : IntKind.i64.wrap (x + 1) = x + 1 := Go.Zf.wi64 (by omega) (by omega)
  have z2 : IntKind.i64.wrap ((x + 1) * d) = (x + 1) * d := Go.Zf.wi64 (by omega) (by omega)
  obtain ⟨w, h', k1, rfl, k2⟩ := (between67_ok (A := vA) (L := vL) (C := C) (h := h) a hu hn hn2 (far := (x + 1) * d) (frm := y) (by omega) (by omega) y0 (by omega)).elim
  rw [w68, f68, s68]
  simp [rd1_of hb, rdN_of (o := 0) (n := 4) hb (by simp), rd1_of hd, rd1_of hu', z1, z2, k1]
  exact ⟨rfl, k2⟩

theorem slant69_ok {h : H} {b bx' by' bu : Nat} {n dx dy : Int} {vA vL C : V} {A L : Int → Int} {u : Nat} (hb : h.get b = some (.cells [.int .i64 n, vA, vL, C] 59 false)) (hdx : h.get bx' = some (.cells [.int .i64 dx] 3 false)) (hdy : h.get by' = some (.cells [.int .i64 dy] 3 false)) (hu' : h.get bu = some (.cells [.int .i64 (u : Int)] 3 false))
    (aA : Edge h vA A (-big) big) (aL : Edge h vL L (-big) big) (hu : u = 0 ∨ u = 1) (hn : 4 ≤ n) (hn2 : n ≤ 64) (d0 : 0 ≤ dx) (d1 : dx ≤ 1023) (d2 : 0 ≤ dy) (d3 : dy ≤ 1023) {x y : Int} (x0 : 0 ≤ x) (x1 : x < n) (y0 : 0 ≤ y) (y1 : y < n) :
    RT (fun w h'' => w = .int .i64 (if vis u (64 * x - (y + 1) * dx) then btw n u A (64 * x - (y + 1) * dx) 0 else btw n u L (64 * y - (x + 1) * dy) 0) ∧ Ext h h'') (KW 69 [.int .i64 x, .int .i64 y, .ptr bx' 0, .ptr bu 0, .ptr b 0, .ptr by' 0] h) := by
  have m := mul_bd (a := x + 1) (A := 64) (by omega) (by omega) d2 d3
  have m' := mul_bd (a := y + 1) (A := 64) (by omega) (by omega) d0 d1
  have z1 : IntKind.i64.wrap (x + 1) = x + 1 := Go.Zf.wi64 (by omega) (by omega)
  have z2 : IntKind.i64.wrap (y + 1) = y + 1 := Go.Zf.wi64 (by omega) (by omega)
  have z3 : IntKind.i64.wrap ((x + 1) * dy) = (x + 1) * dy := Go.Zf.wi64 (by omega) (by omega)
  have z4 : IntKind.i64.wrap ((y + 1) * dx) = (y + 1) * dx := Go.Zf.wi64 (by omega) (by omega)
  have z5 : IntKind.i64.wrap (64 * x) = 64 * x := Go.Zf.wi64 (by omega) (by omega)
  have z6 : IntKind.i64.wrap (64 * y) = 64 * y := Go.Zf.wi64 (by omega) (by omega)
  have z7 : IntKind.i64.wrap (64 * x - (y + 1) * dx) = 64 * x - (y + 1) * dx := Go.Zf.wi64 (by omega) (by omega)
  have z8 : IntKind.i64.wrap (64 * y - (x + 1) * dy) = 64 * y - (x + 1) * dy := Go.Zf.wi64 (by omega) (by omega)
  have z9 : IntKind.i64.wrap 6 = 6 := Go.Zf.wi64 (by omega) (by omega)
  have z10 : IntKind.i64.wrap 5 = 5 := Go.Zf.wi64 (by omega) (by omega)
  have z11 : IntKind.i64.wrap (-1) = -1 := Go.Zf.wi64 (by omega) (by omega)
  have z12 : IntKind.i64.wrap (-2) = -2 := Go.Zf.wi64 (by omega) (by omega)
  obtain ⟨w, h', k1, rfl, k2⟩ := (between67_ok (A := vA) (L := vL) (C := C) (h := h) aA hu hn hn2 (far := 64 * x - (y + 1) * dx) (frm := 0) (by omega) (by omega) (by omega) (by omega)).elim
  obtain ⟨w, h', k3, rfl, k4⟩ := (between67_ok (A := vA) (L := vL) (C := C) (h := h) aL hu hn hn2 (far := 64 * y - (x + 1) * dy) (frm := 0) (by omega) (by omega) (by omega) (by omega)).elim
  obtain ⟨f1, hf1⟩ : ∃ f, f = 64 * x - (y + 1) * dx := ⟨_, rfl⟩
  rw [w69, f69, s69]
  rw [← hf1] at z7 k1
  rw [← hf1]
  rcases hu with rfl | rfl
  · unfold vis
    by_cases hc : -1 ≤ f1 / 64
    · simp at k1
      simp [rd1_of hb, rdN_of (o := 0) (n := 4) hb (by simp), rd1_of hdx, rd1_of hdy, rd1_of hu', z1, z2, z3, z4, z5, z6, ← hf1, z7, z8, z9, z11, IntKind.bits, hc, k1]
      exact ⟨by simp [hc], k2⟩
    · simp at k3
      simp [rd1_of hb, rdN_of (o := 0) (n := 4) hb (by simp), rd1_of hdx, rd1_of hdy, rd1_of hu', z1, z2, z3, z4, z5, z6, ← hf1, z7, z8, z9, z11, IntKind.bits, hc, k3]
      exact ⟨by simp [hc], k4⟩
  · unfold vis
    by_cases hc : -2 ≤ f1 / 32
    · simp at k1
      simp [rd1_of hb, rdN_of (o := 0) (n := 4) hb (by simp), rd1_of hdx, rd1_of hdy, rd1_of hu', z1, z2, z3, z4, z5, z6, ← hf1, z7, z8, z10, z12, IntKind.bits, hc, k1]
      exact ⟨by simp [hc], k2⟩
    · simp at k3
      simp [rd1_of hb, rdN_of (o := 0) (n := 4) hb (by simp), rd1_of hdx, rd1_of hdy, rd1_of hu', z1, z2, z3, z4, z5, z6, ← hf1, z7, z8, z10, z12, IntKind.bits, hc, k3]
      exact ⟨by simp [hc], k4⟩

theorem Samp.ext {h h' : H} {v : V} {s : Int → Int → Int} {n : Int} (a : Samp h v s n) (x : Ext h h') : Samp h' v s n := ⟨fun h2 hx => a.run h2 (x.trans hx)⟩

theorem slant52_ok {h : H} {n : Int} {vA vL C : V} {A L : Int → Int} {u : Nat} (aA : Edge h vA A (-big) big) (aL : Edge h vL L (-big) big) (hu : u = 0 ∨ u = 1) (hn : 4 ≤ n) (hn2 : n ≤ 64) {angle : Int} (a0 : 0 ≤ angle) (a1 : angle ≤ 300) :
    RT (fun w h' => Ext h h' ∧ Samp h' w (slt n u angle A L) n) (KW 52 [.agg [.int .i64 n, vA, vL, C], .int .i64 angle, .int .i64 (u : Int)] h) := by
  obtain ⟨h1, hh1⟩ : ∃ g, g = ((h.new (.cells [.int .i64 n, vA, vL, C] 59 false)).new (.cells [.int .i64 (u : Int)] 3 false)) := ⟨_, rfl⟩
  have x1 : Ext h h1 := by rw [hh1]; exact ((Ext.refl h).new _).new _
  have g0 : h1.get h.n = some (.cells [.int .i64 n, vA, vL, C] 59 false) := by
    rw [hh1, get_new_lt (by simp only [H.n_new]; omega), get_new_same]
  have g1 : h1.get (h.n + 1) = some (.cells [.int .i64 (u : Int)] 3 false) := by
    rw [hh1, get_new_eq (by simp only [H.n_new])]
  have hn1 : h1.n = h.n + 2 := by rw [hh1]; simp only [H.n_new]
  rw [w52, f52, s52]
  by_cases c1 : angle < 90
  · obtain ⟨h2, hh2⟩ : ∃ g, g = (h1.new (.cells [.int .i64 0] 3 false)).put h1.n (.cells [.int .i64 (sl angle)] 3 false) := ⟨_, rfl⟩
    have x2 : Ext h1 h2 := by rw [hh2]; exact ((Ext.refl h1).new _).put (Nat.le_refl _) _
    have g2 : h2.get (h.n + 2) = some (.cells [.int .i64 (sl angle)] 3 false) := by rw [hh2, ← hn1, get_put_same (by rw [H.n_new]; omega)]
    have hb := sl_bd angle
    simp [bx, H.n_new, ← hh1, c1, slope_ok, nw, wr1_of get_new_same, ← hh2]
    refine ⟨x1.trans x2, ⟨fun h' hx x y x0 x1' y0 y1 => ?_⟩⟩
    rw [cdy_fn]
    have := slant66_ok (h := h') (by rw [(x2.trans hx).get _ (H.get_lt g0), g0]) (by rw [hx.get _ (H.get_lt g2), g2]) (by rw [(x2.trans hx).get _ (H.get_lt g1), g1]) (aA.ext ((x1.trans x2).trans hx)) hu hn hn2 hb.1 hb.2 x0 x1' y0 y1
    rw [← hn1] at this
    unfold slt
    simp only [c1, if_true]
    exact this
  · by_cases c2 : 180 < angle
    · obtain ⟨h2, hh2⟩ : ∃ g, g = (h1.new (.cells [.int .i64 0] 3 false)).put h1.n (.cells [.int .i64 (sl (270 - angle))] 3 false) := ⟨_, rfl⟩
      have x2 : Ext h1 h2 := by rw [hh2]; exact ((Ext.refl h1).new _).put (Nat.le_refl _) _
      have g2 : h2.get (h.n + 2) = some (.cells [.int .i64 (sl (270 - angle))] 3 false) := by rw [hh2, ← hn1, get_put_same (by rw [H.n_new]; omega)]
      have hb := sl_bd (270 - angle)
      have z1 : IntKind.i64.wrap (270 - angle) = 270 - angle := Go.Zf.wi64 (by omega) (by omega)
      simp [bx, H.n_new, ← hh1, c1, c2, z1, slope_ok, nw, wr1_of get_new_same, ← hh2]
      refine ⟨x1.trans x2, ⟨fun h' hx x y x0 x1' y0 y1 => ?_⟩⟩
      rw [cdy_fn]
      have := slant68_ok (h := h') (by rw [(x2.trans hx).get _ (H.get_lt g0), g0]) (by rw [hx.get _ (H.get_lt g2), g2]) (by rw [(x2.trans hx).get _ (H.get_lt g1), g1]) (aL.ext ((x1.trans x2).trans hx)) hu hn hn2 hb.1 hb.2 x0 x1' y0 y1
      rw [← hn1] at this
      unfold slt
      simp only [c1, c2, if_true, if_false]
      exact this
    · obtain ⟨h2, hh2⟩ : ∃ g, g = (((h1.new (.cells [.int .i64 0] 3 false)).new (.cells [.int .i64 0] 3 false)).put h1.n (.cells [.int .i64 (sl (180 - angle))] 3 false)) := ⟨_, rfl⟩
      obtain ⟨h3, hh3⟩ : ∃ g, g = h2.put (h1.n + 1) (.cells [.int .i64 (sl (angle - 90))] 3 false) := ⟨_, rfl⟩
      have x2 : Ext h1 h3 := by rw [hh3, hh2]; exact ((((Ext.refl h1).new _).new _).put (Nat.le_refl _) _).put (by omega) _
      have hn2' : h2.n = h1.n + 2 := by rw [hh2]; simp only [H.n_put, H.n_new]
      have r1 : ((h1.new (.cells [.int .i64 0] 3 false)).new (.cells [.int .i64 0] 3 false)).get h1.n = some (.cells [.int .i64 0] 3 false) := by rw [get_new_lt (by rw [H.n_new]; omega), get_new_same]
      have r2 : h2.get (h1.n + 1) = some (.cells [.int .i64 0] 3 false) := by rw [hh2, get_put_ne (by omega), get_new_eq (by rw [H.n_new])]
      have g2 : h3.get (h.n + 2) = some (.cells [.int .i64 (sl (180 - angle))] 3 false) := by rw [hh3, get_put_ne (by omega), hh2, ← hn1, get_put_same (by simp only [H.n_new]; omega)]
      have g3 : h3.get (h.n + 3) = some (.cells [.int .i64 (sl (angle - 90))] 3 false) := by rw [hh3, show h.n + 3 = h1.n + 1 by omega, get_put_same (by omega)]
      have hb := sl_bd (180 - angle)
      have hb' := sl_bd (angle - 90)
      have z1 : IntKind.i64.wrap (180 - angle) = 180 - angle := Go.Zf.wi64 (by omega) (by omega)
      have z2 : IntKind.i64.wrap (angle - 90) = angle - 90 := Go.Zf.wi64 (by omega) (by omega)
      simp [bx, H.n_new, ← hh1, c1, c2, z1, z2, slope_ok, nw, wr1_of r1, ← hh2, wr1_of r2, ← hh3]
      refine ⟨x1.trans x2, ⟨fun h' hx x y x0 x1' y0 y1 => ?_⟩⟩
      rw [cdy_fn]
      have := slant69_ok (h := h') (by rw [(x2.trans hx).get _ (H.get_lt g0), g0]) (by rw [hx.get _ (H.get_lt g2), g2]) (by rw [hx.get _ (H.get_lt g3), g3]) (by rw [(x2.trans hx).get _ (H.get_lt g1), g1]) (aA.ext ((x1.trans x2).trans hx)) (aL.ext ((x1.trans x2).trans hx)) hu hn hn2 hb.1 hb.2 hb'.1 hb'.2 x0 x1' y0 y1
      rw [← hn1, show h.n + 3 = h1.n + 1 by omega] at this
      unfold slt
      simp only [c1, c2, if_false]
      exact this

end Go.Proofs.Ytpjcmgmmolediaa
