/- Edges: of, flat, kept, smooth, double. -/
import Derived.Test.YtpjcmgmmolediaaId
import Derived.Test.YtpjcmgmmolediaaZBytes
set_option linter.unusedVariables false
set_option linter.unusedSimpArgs false
namespace Go.Proofs.Ytpjcmgmmolediaa
open Go Go.Zf Go.RowKit

/-- An edge: what it answers. -/
structure Edge (h : H) (v : V) (e : Int → Int) (lo hi : Int) : Prop where
  fn : ∃ g cap, v = .fn (.func g) [] cap ∧ V.sames cap cap = true
  val : ∀ i, lo ≤ i → i ≤ hi → 0 ≤ e i ∧ e i ≤ 255
  run : ∀ h', Ext h h' → ∀ i, lo ≤ i → i ≤ hi → ∃ h'', cdy KW v [.int .i64 i] h' = some (.ret (.int .i64 (e i)), h'') ∧ Ext h' h''

/-- .. whatever becomes of the blocks from p to q. -/
structure EdgeX (p q : Nat) (h : H) (v : V) (e : Int → Int) (lo hi : Int) : Prop where
  fn : ∃ g cap, v = .fn (.func g) [] cap ∧ V.sames cap cap = true
  val : ∀ i, lo ≤ i → i ≤ hi → 0 ≤ e i ∧ e i ≤ 255
  run : ∀ h', ExtX p q h h' → ∀ i, lo ≤ i → i ≤ hi → ∃ h'', cdy KW v [.int .i64 i] h' = some (.ret (.int .i64 (e i)), h'') ∧ Ext h' h''
theorem EdgeX.edge {p q : Nat} {h h' : H} {v : V} {e : Int → Int} {lo hi : Int} (a : EdgeX p q h v e lo hi) (x : ExtX p q h h') : Edge h' v e lo hi :=
  ⟨a.fn, a.val, fun h2 hx => a.run h2 (x.trans (hx.x p q))⟩
theorem EdgeX.mono {p q p' q' : Nat} {h : H} {v : V} {e : Int → Int} {lo hi : Int} (a : EdgeX p q h v e lo hi) (h1 : p ≤ p') (h2 : q' ≤ q) : EdgeX p' q' h v e lo hi :=
  ⟨a.fn, a.val, fun h2 hx => a.run h2 (hx.mono h1 (by assumption))⟩
theorem EdgeX.same {p q : Nat} {h : H} {v : V} {e : Int → Int} {lo hi : Int} (a : EdgeX p q h v e lo hi) : V.same v v = true := by
  obtain ⟨g, cap, rfl, hc⟩ := a.fn; simp [V.same, hc, V.sames]
theorem EdgeX.cells {p q : Nat} {h : H} {v : V} {e : Int → Int} {lo hi : Int} (a : EdgeX p q h v e lo hi) : V.cells v = some [v] := by
  obtain ⟨g, cap, rfl, hc⟩ := a.fn; rfl

theorem Edge.ext {h h' : H} {v : V} {e : Int → Int} {lo hi : Int} (a : Edge h v e lo hi) (x : Ext h h') : Edge h' v e lo hi :=
  ⟨a.fn, a.val, fun h2 hx => a.run h2 (x.trans hx)⟩

theorem Edge.same {h : H} {v : V} {e : Int → Int} {lo hi : Int} (a : Edge h v e lo hi) : V.same v v = true := by
  obtain ⟨g, cap, rfl, hc⟩ := a.fn; simp [V.same, hc, V.sames]
theorem Edge.cells {h : H} {v : V} {e : Int → Int} {lo hi : Int} (a : Edge h v e lo hi) : V.cells v = some [v] := by
  obtain ⟨g, cap, rfl, hc⟩ := a.fn; rfl
theorem Edge.stZ {h : H} {v : V} {e : Int → Int} {lo hi : Int} (a : Edge h v e lo hi) (g : H) (b o : Nat) : stZ 1 g (.ptr b o) v = (g.wr1 b o v).bind fun h' => some (.und, h') := by
  obtain ⟨g, cap, rfl, hc⟩ := a.fn; rfl
theorem Edge.narrow {h : H} {v : V} {e : Int → Int} {lo hi lo' hi' : Int} (a : Edge h v e lo hi) (h0 : lo ≤ lo') (h1 : hi' ≤ hi) : Edge h v e lo' hi' :=
  ⟨a.fn, fun i x y => a.val i (by omega) (by omega), fun h2 hx i x y => a.run h2 hx i (by omega) (by omega)⟩
theorem Edge.congr {h : H} {v : V} {e e' : Int → Int} {lo hi : Int} (a : Edge h v e lo hi) (he : ∀ i, lo ≤ i → i ≤ hi → e i = e' i) : Edge h v e' lo hi :=
  ⟨a.fn, fun i x y => by rw [← he i x y]; exact a.val i x y, fun h2 hx i x y => by rw [← he i x y]; exact a.run h2 hx i x y⟩

def eOf (l : List Nat) (c : Int) (i : Int) : Int := if i < 0 then c else ((l.getD (min i ((l.length : Int) - 1)).toNat 0 : Nat) : Int)
def cl (to i : Int) : Int := min (max (i + 2) 0) (to + 2) - 2
def eSm (last c : Int) (e : Int → Int) (i : Int) : Int := if i < 0 then c else (e (i - 1) + 2 * e i + e (min (i + 1) last) + 2) / 4
def eDb (e : Int → Int) (i : Int) : Int := if i % 2 = 0 then e (i / 2) else min (max ((9 * (e (i / 2) + e (i / 2 + 1)) - e (i / 2 - 1) - e (i / 2 + 2) + 8) / 16) 0) 255

theorem w46 (p0 p1 : V) (h : H) : KW 46 [p0, p1] h = f46 KW loopZ p0 p1 h := (callW_eqF _ _ _ _ _ _ rfl).trans (congrFun (congrFun (congrFun (congrFun (congrFun (r46) _) _) p0) p1) h)
theorem w47 (p0 p1 : V) (h : H) : KW 47 [p0, p1] h = f47 KW loopZ p0 p1 h := (callW_eqF _ _ _ _ _ _ rfl).trans (congrFun (congrFun (congrFun (congrFun (congrFun (r47) _) _) p0) p1) h)
theorem w48 (p0 p1 : V) (h : H) : KW 48 [p0, p1] h = f48 KW loopZ p0 p1 h := (callW_eqF _ _ _ _ _ _ rfl).trans (congrFun (congrFun (congrFun (congrFun (congrFun (r48) _) _) p0) p1) h)
theorem w49 (p0 p1 : V) (h : H) : KW 49 [p0, p1] h = f49 KW loopZ p0 p1 h := (callW_eqF _ _ _ _ _ _ rfl).trans (congrFun (congrFun (congrFun (congrFun (congrFun (r49) _) _) p0) p1) h)
theorem w61 (p0 p1 p2 : V) (h : H) : KW 61 [p0, p1, p2] h = f61 KW loopZ p0 p1 p2 h := (callW_eqF _ _ _ _ _ _ rfl).trans (congrFun (congrFun (congrFun (congrFun (congrFun (congrFun (r61) _) _) p0) p1) p2) h)
theorem w62 (p0 p1 : V) (h : H) : KW 62 [p0, p1] h = f62 KW loopZ p0 p1 h := (callW_eqF _ _ _ _ _ _ rfl).trans (congrFun (congrFun (congrFun (congrFun (congrFun (r62) _) _) p0) p1) h)
theorem w63 (p0 p1 p2 p3 : V) (h : H) : KW 63 [p0, p1, p2, p3] h = f63 KW loopZ p0 p1 p2 p3 h := (callW_eqF _ _ _ _ _ _ rfl).trans (congrFun (congrFun (congrFun (congrFun (congrFun (congrFun (congrFun (r63) _) _) p0) p1) p2) p3) h)
theorem w64 (p0 p1 : V) (h : H) : KW 64 [p0, p1] h = f64 KW loopZ p0 p1 h := (callW_eqF _ _ _ _ _ _ rfl).trans (congrFun (congrFun (congrFun (congrFun (congrFun (r64) _) _) p0) p1) h)
theorem w71 (p0 p1 : V) (h : H) : KW 71 [p0, p1] h = f71 KW loopZ p0 p1 h := (callW_eqF _ _ _ _ _ _ rfl).trans (congrFun (congrFun (congrFun (congrFun (congrFun (r71) _) _) p0) p1) h)

def big : Int := 1099511627776

/-- of$1 -/
theorem of61_ok {h : H} {b1 o1 b2 o2 : Nat} {c : Int} {v : V} {l : List Nat} (hc : h.rd1 b1 o1 = some (.int .i64 c)) (hv : h.rd1 b2 o2 = some v) (a : ByAt h v l) (hl : 0 < l.length) (hl2 : l.length < 1000000) (i : Int) (h0 : -big ≤ i) (h1 : i ≤ big) :
    KW 61 [.int .i64 i, .ptr b1 o1, .ptr b2 o2] h = some (.ret (.int .i64 (eOf l c i)), h) := by
  unfold big at h0 h1
  rw [w61, f61, s61]
  unfold eOf
  by_cases hi : i < 0
  · simp [hi, hc]
  · have hw : IntKind.i64.wrap ((l.length : Int) - 1) = (l.length : Int) - 1 := Go.Zf.wi64 (by omega) (by omega)
    obtain ⟨k, hk⟩ : ∃ k : Nat, (k : Int) = min i ((l.length : Int) - 1) := ⟨(min i ((l.length : Int) - 1)).toNat, by omega⟩
    have hk2 : (if (l.length : Int) - 1 < i then (l.length : Int) - 1 else i) = (k : Int) := by split <;> omega
    obtain ⟨b, o, g1, g2, g3⟩ := a.at_ k (by omega)
    have hlt := a.lt k (by omega)
    have hw2 : IntKind.i64.wrap ((l.getD k 0 : Nat) : Int) = (l.getD k 0 : Nat) := Go.Zf.wi64 (by omega) (by omega)
    simp [hi, hv, a.len, hw, hk2, g1, g2, hw2, ← hk, -List.getD_eq_getElem?_getD]

theorem of46_ok {h0 h : H} {v : V} {l : List Nat} {c : Int} (a : ByAt h0 v l) (x0 : Ext h0 h) (hl : 0 < l.length) (hl2 : l.length < 1000000) (hc : 0 ≤ c) (hc2 : c ≤ 255) :
    RT (fun v' h' => Ext h h' ∧ EdgeX h0.n h.n h' v' (eOf l c) (-big) big) (KW 46 [v, .int .i64 c] h) := by
  rw [w46, f46, s46]
  simp [bx, a.cells, H.n_new]
  refine ⟨((Ext.refl h).new _).new _, ⟨⟨_, _, rfl, by simp [V.sames, V.same]⟩, fun i h0 h1 => ?_, fun h' hx i h0 h1 => ?_⟩⟩
  · unfold eOf
    split
    · exact ⟨hc, hc2⟩
    · have := a.lt (min i ((l.length : Int) - 1)).toNat (by omega)
      omega
  · refine ⟨h', ?_, Ext.refl _⟩
    have hn := hx.n
    have hg := hx.get
    have hn0 := x0.n
    simp only [H.n_new] at hn hg
    rw [cdy_fn]
    refine of61_ok (v := v) (h := h') ?_ ?_ (a.ext ⟨by omega, fun b h3 => ?_⟩) hl hl2 i h0 h1
    · unfold H.rd1; rw [hg _ (by omega) (by omega), get_new_eq (by rw [H.n_new])]; rfl
    · unfold H.rd1; rw [hg _ (by omega) (by omega), get_new_lt (by rw [H.n_new]; omega), get_new_same]; rfl
    · rw [hg b (.inl h3) (by omega), get_new_lt (by rw [H.n_new]; omega), get_new_lt (by omega), x0.get b h3]

theorem flat47_ok {h : H} {v c : Int} (hv : 0 ≤ v) (hv2 : v ≤ 255) (hc : 0 ≤ c) (hc2 : c ≤ 255) :
    RT (fun v' h' => Ext h h' ∧ EdgeX 0 h.n h' v' (eOf [v.toNat] c) (-big) big) (KW 47 [.int .i64 v, .int .i64 c] h) := by
  rw [w47, f47, s47]
  have hw : IntKind.u8.wrap v = v := wu8 hv (by omega)
  simp [hw, bs, fillW, splice]
  rw [w46, f46, s46]
  simp [bx, H.n_new]
  refine ⟨(((Ext.refl h).new _).new _).new _, ⟨⟨_, _, rfl, by simp [V.sames, V.same]⟩, fun i h0 h1 => ?_, fun h' hx i h0 h1 => ?_⟩⟩
  · unfold eOf
    split
    · exact ⟨hc, hc2⟩
    · have : (min i (([v.toNat].length : Int) - 1)).toNat = 0 := by simp; omega
      rw [this]; simp; omega
  · refine ⟨h', ?_, Ext.refl _⟩
    have hn := hx.n
    have hg := hx.get
    simp only [H.n_new] at hn hg
    rw [cdy_fn]
    refine of61_ok (v := .sl h.n 0 1 (.ex 1)) (h := h') (l := [v.toNat]) ?_ ?_ (ByAt.of (l := [v.toNat]) (t := 5) (ro := false) ?_ fun i hi => ?_) (by simp) (by simp) i h0 h1
    · unfold H.rd1; rw [hg _ (by omega) (by omega), get_new_eq (by simp only [H.n_new])]; rfl
    · unfold H.rd1; rw [hg _ (by omega) (by omega), get_new_lt (by simp only [H.n_new]; omega), get_new_eq (by simp only [H.n_new])]; rfl
    · rw [hg _ (by omega) (by omega), get_new_lt (by simp only [H.n_new]; omega), get_new_lt (by simp only [H.n_new]; omega), get_new_same]; simp [bytesV]; omega
    · have : i = 0 := by simpa using hi
      subst this; simp; omega

def keptL (e : Int → Int) (k : Nat) : List V := (List.range k).map fun k : Nat => V.int .i64 (e ((k : Int) - 2))
theorem keptL_length (e : Int → Int) (k : Nat) : (keptL e k).length = k := by simp [keptL]
theorem keptL_get (e : Int → Int) (k i : Nat) (h : i < k) : (keptL e k)[i]? = some (V.int .i64 (e ((i : Int) - 2))) := by simp [keptL, h]
theorem keptL_succ (e : Int → Int) (k : Nat) : keptL e (k + 1) = keptL e k ++ [V.int .i64 (e ((k : Int) - 2))] := by simp [keptL, List.range_succ]
/-- kept$1 -/
theorem kept71_ok {h : H} {b1 o1 b : Nat} {cp : Cap} {e : Int → Int} {to : Int} {m : Nat} {t : TypeId} {ro : Bool} (hm : (m : Int) = to + 3) (h0 : -2 ≤ to) (h1 : to ≤ 1000) (hc : h.rd1 b1 o1 = some (.sl b 0 m cp))
    (hb : h.get b = some (.cells (keptL e m) t ro)) (i : Int) (hi0 : -big ≤ i) (hi1 : i ≤ big) :
    KW 71 [.int .i64 i, .ptr b1 o1] h = some (.ret (.int .i64 (e (cl to i))), h) := by
  unfold big at hi0 hi1
  rw [w71, f71, s71]
  have hw1 : IntKind.i64.wrap (i + 2) = i + 2 := Go.Zf.wi64 (by omega) (by omega)
  have hw2 : IntKind.i64.wrap ((m : Int) - 1) = to + 2 := by rw [Go.Zf.wi64 (by omega) (by omega)]; omega
  obtain ⟨k, hk⟩ : ∃ k : Nat, (k : Int) = cl to i + 2 := ⟨(cl to i + 2).toNat, by unfold cl; omega⟩
  have hk2 : (if to + 2 < (if i + 2 < 0 then 0 else i + 2) then to + 2 else (if i + 2 < 0 then 0 else i + 2)) = (k : Int) := by
    rw [hk]; unfold cl; repeat' split
    all_goals omega
  have hkl : k < m := by unfold cl at hk; omega
  have hx := keptL_get e m k hkl
  rw [show (k : Int) - 2 = cl to i by omega] at hx
  obtain ⟨cs, hcs⟩ : ∃ cs, cs = keptL e m := ⟨_, rfl⟩
  rw [← hcs] at hb hx
  simp [hc, hw1, hw2, hk2, show (k : Int) < (m : Nat) by omega, hkl, rd1_of hb, hx]

structure I62 (h : H) (v : V) (e : Int → Int) (to : Int) (n : Nat) (en : E) (g : H) : Prop where
  hn : n ≤ (to + 3).toNat
  p0 : en.s [0, 1, 4, 5, 6] 0 = v
  p1 : en.s [0, 1, 4, 5, 6] 1 = .int .i64 to
  p5 : en.s [0, 1, 4, 5, 6] 5 = .ptr h.n 0
  p6 : en.s [0, 1, 4, 5, 6] 6 = .int .i64 (to + 1 - n)
  x : Ext h g
  l : (n = (to + 3).toNat ∧ g.get h.n = some (.cells [.nils] 34 false)) ∨ ∃ b k, h.n < b ∧ k + n = (to + 3).toNat ∧ 0 < k ∧ g.get h.n = some (.cells [.sl b 0 k (.op 1)] 34 false) ∧ g.get b = some (.cells (keptL e k) 3 false)

theorem kept62_ok {h : H} {v : V} {e : Int → Int} {to : Int} (a : Edge h v e (-2) to) (h0 : -2 ≤ to) (h1 : to ≤ 1000) :
    RT (fun v' h' => Ext h h' ∧ EdgeX 0 h.n h' v' (fun i => e (cl to i)) (-big) big) (KW 62 [v, .int .i64 to] h) := by
  have L := loop_run (body := l62_0 KW loopZ) (I62 h v e to)
    (fun s => s.x = .ex 0 ∧ s.e.s [0, 1, 4, 5, 6] 5 = .ptr h.n 0 ∧ Ext h s.h ∧ ∃ b, h.n ≤ b ∧ s.h.get h.n = some (.cells [.sl b 0 (to + 3).toNat (.op 1)] 34 false) ∧ s.h.get b = some (.cells (keptL e (to + 3).toNat) 3 false))
    (fun n e1 g hi => by
      obtain ⟨i0, i1, i2, i3, i4, i5, i6⟩ := hi
      cases n with
      | zero =>
        rcases i6 with ⟨j1, j2⟩ | ⟨b, k, j1, jk, jk0, j3, j4⟩
        · omega
        · simp [l62_0, i1, i2, i3, i4, show ¬ to + 1 ≤ to by omega]
          have : k = (to + 3).toNat := by omega
          subst this
          exact ⟨rfl, by simp [i3], i5, b, by omega, j3, j4⟩
      | succ n =>
        have hle : to + 1 - ((n : Int) + 1) ≤ to := by omega
        obtain ⟨g1, k1, k2⟩ := a.run g i5 (to + 1 - ((n : Int) + 1)) (by omega) hle
        have hw : IntKind.i64.wrap (to + 1 - ((n : Int) + 1) + 1) = to + 1 - (n : Nat) := by rw [Go.Zf.wi64 (by omega) (by omega)]; omega
        have hlt : h.n < g.n := by
          rcases i6 with ⟨j1, j2⟩ | ⟨b, k, j1, jk, jk0, j3, j4⟩
          · exact H.get_lt j2
          · exact H.get_lt j3
        have kn := k2.n
        rcases i6 with ⟨j1, j2⟩ | ⟨b, k, j1, jk, jk0, j3, j4⟩
        · have g2 : g1.get h.n = some (.cells [.nils] 34 false) := by rw [k2.get _ hlt, j2]
          have g3 : (H.new (g1.new (Blk.cells [V.int IntKind.i64 (e (to + 1 - ((n : Int) + 1)))] 3 false)) (Blk.cells [V.int IntKind.i64 (e (to + 1 - ((n : Int) + 1)))] 3 false)).get h.n = some (.cells [.nils] 34 false) := by
            rw [get_new_lt (by rw [H.n_new]; omega), get_new_lt (by omega), g2]
          simp [l62_0, i1, i2, i3, i4, hle, k1, rd1_of g2, rd1_of j2, bs, fillW, splice, apZ, lenOf, firstV, H.rdN, get_new_same, apN, wr1_of g3, hw]
          refine ⟨n, Nat.lt_succ_self n, by omega, by simp [i1], by simp [i2], by simp [i3], by simp, (((i5.trans k2).new _).new _).put (Nat.le_refl _) _, .inr ⟨g1.n + 1, 1, by omega, by omega, by omega, ?_, ?_⟩⟩
          · rw [get_put_same (by rw [H.n_new, H.n_new]; omega)]; rfl
          · rw [get_put_ne (by omega), get_new_eq (by rw [H.n_new]), show to + 1 - ((n : Int) + 1) = -2 by omega]; rfl
        · have g2 : g1.get h.n = some (.cells [.sl b 0 k (.op 1)] 34 false) := by rw [k2.get _ hlt, j3]
          have hbl := H.get_lt j4
          have g3 : g1.get b = some (.cells (keptL e k) 3 false) := by rw [k2.get _ hbl, j4]
          have hcl := keptL_length e k
          have hne : ∀ x, (g1.new x).get b = g1.get b := fun x => get_new_lt (by omega)
          have htk : List.take k (keptL e k) = keptL e k := List.take_of_length_le (by omega)
          obtain ⟨cs, hcs⟩ : ∃ cs, cs = keptL e k := ⟨_, rfl⟩
          have hk' : (k : Int) - 2 = to + 1 - ((n : Int) + 1) := by omega
          have hsucc := keptL_succ e k
          rw [hk'] at hsucc
          rw [← hcs] at g3 htk hcl hsucc
          have g4 : ∀ x y z, (H.new (H.put (g1.new x) b y) z).get h.n = some (.cells [.sl b 0 k (.op 1)] 34 false) := fun x y z => by
            rw [get_new_lt (by rw [H.n_put, H.n_new]; omega), get_put_ne (by omega), get_new_lt (by omega), g2]
          simp [l62_0, i1, i2, i3, i4, hle, k1, rd1_of g2, rd1_of j3, bs, fillW, splice, apZ, lenOf, firstV, H.rdN, get_new_same, apN, hne, g3, htk, hcl, show (k + 1) * 8 ≤ 140737488355328 by omega, wr1_of (g4 _ _ _), hw]
          refine ⟨n, Nat.lt_succ_self n, by omega, by simp [i1], by simp [i2], by simp [i3], by simp, ((((i5.trans k2).new _).put (by omega) _).new _).put (Nat.le_refl _) _, .inr ⟨g1.n + 1, k + 1, by omega, by omega, by omega, ?_, ?_⟩⟩
          · rw [get_put_same (by rw [H.n_new, H.n_put, H.n_new]; omega)]; rfl
          · rw [get_put_ne (by omega), get_new_eq (by rw [H.n_put, H.n_new]), hsucc])
  have hfn := a.fn
  obtain ⟨s, m1, m2, m3, m4, b, m0, m5, m6⟩ := L (to + 3).toNat ⟨[v, .int .i64 to, .nilf, .ptr h.n 0, .int .i64 (-2)], 6, .int .i64 (-2)⟩ (h.new (.cells [.nils] 34 false))
    ⟨Nat.le_refl _, by simp, by simp, by simp, by simp; omega, (Ext.refl h).new _, .inl ⟨rfl, get_new_same⟩⟩
  obtain ⟨x, e1, h2⟩ := s
  simp only at m2 m3 m4 m5 m6
  subst m2
  rw [w62, f62, s62]
  simp [nw, m1, m3]
  refine ⟨m4, ⟨⟨_, _, rfl, by simp [V.sames, V.same]⟩, fun i hi0 hi1 => a.val _ (by unfold cl; omega) (by unfold cl; omega), fun h' hx i hi0 hi1 => ⟨h', ?_, Ext.refl _⟩⟩⟩
  rw [cdy_fn]
  have hb1 := H.get_lt m5
  have hb2 := H.get_lt m6
  show KW 71 [.int .i64 i, .ptr h.n 0] h' = _
  refine kept71_ok (h := h') (b := b) (cp := .op 1) (t := 3) (ro := false) (m := (to + 3).toNat) (by omega) h0 h1 ?_ (by rw [hx.get _ (.inr m0) hb2, m6]) i hi0 hi1
  rw [rd1_of (by rw [hx.get _ (.inr (Nat.le_refl _)) hb1, m5])]; rfl

/-- smooth$1 -/
theorem smooth63_ok {h : H} {b2 b3 b5 : Nat} {n c last : Int} {A L v : V} {e : Int → Int} {lo hi : Int} (hb : h.get b2 = some (.cells [.int .i64 n, A, L, .int .i64 c] 59 false)) (he : h.get b3 = some (.cells [v] 57 false))
    (hl : h.get b5 = some (.cells [.int .i64 last] 3 false)) (a : Edge h v e lo hi) (h0 : lo ≤ -2) (h1 : last ≤ hi) (h2 : 0 ≤ last) (h3 : last ≤ 1000) (hc : 0 ≤ c) (hc2 : c ≤ 255) (i : Int) (i0 : -2 ≤ i) (i1 : i ≤ last) :
    RT (fun v' h' => v' = .int .i64 (eSm last c e i) ∧ Ext h h') (KW 63 [.int .i64 i, .ptr b2 0, .ptr b3 0, .ptr b5 0] h) := by
  have hb2 := H.get_lt hb
  have hb3 := H.get_lt he
  have hb5 := H.get_lt hl
  have hs := a.same
  rw [w63, f63, s63]
  unfold eSm
  by_cases hi' : i < 0
  · simp [hi', rd1_of hb]
    exact ⟨by simp [hi'], Ext.refl _⟩
  · obtain ⟨m, hm⟩ : ∃ m, m = min (i + 1) last := ⟨_, rfl⟩
    obtain ⟨g1, k1, x1⟩ := a.run h (Ext.refl _) (i - 1) (by omega) (by omega)
    obtain ⟨g2, k2, x2⟩ := a.run g1 x1 i (by omega) (by omega)
    obtain ⟨g3, k3, x3⟩ := a.run g2 (x1.trans x2) m (by omega) (by omega)
    have v1 := a.val (i - 1) (by omega) (by omega)
    have v2 := a.val i (by omega) (by omega)
    have v3 := a.val m (by omega) (by omega)
    have he1 : g1.get b3 = _ := (x1.get _ hb3).trans he
    have he2 : g2.get b3 = _ := ((x1.trans x2).get _ hb3).trans he
    have hl1 : g1.get b5 = _ := (x1.get _ hb5).trans hl
    have hl2 : g2.get b5 = _ := ((x1.trans x2).get _ hb5).trans hl
    have hmm : (if last < i + 1 then last else i + 1) = m := by omega
    obtain ⟨y1, hy1⟩ : ∃ y, y = e (i - 1) := ⟨_, rfl⟩
    obtain ⟨y2, hy2⟩ : ∃ y, y = e i := ⟨_, rfl⟩
    obtain ⟨y3, hy3⟩ : ∃ y, y = e m := ⟨_, rfl⟩
    rw [← hm]
    rw [← hy1] at k1 v1
    rw [← hy2] at k2 v2
    rw [← hy3] at k3 v3
    rw [← hy1, ← hy2, ← hy3]
    have z1 : IntKind.i64.wrap (i - 1) = i - 1 := Go.Zf.wi64 (by omega) (by omega)
    have z2 : IntKind.i64.wrap (i + 1) = i + 1 := Go.Zf.wi64 (by omega) (by omega)
    have z3 : IntKind.i64.wrap (2 * y2) = 2 * y2 := Go.Zf.wi64 (by omega) (by omega)
    have z4 : IntKind.i64.wrap (y1 + 2 * y2) = y1 + 2 * y2 := Go.Zf.wi64 (by omega) (by omega)
    have z5 : IntKind.i64.wrap (y1 + 2 * y2 + y3) = y1 + 2 * y2 + y3 := Go.Zf.wi64 (by omega) (by omega)
    have z6 : IntKind.i64.wrap (y1 + 2 * y2 + y3 + 2) = y1 + 2 * y2 + y3 + 2 := Go.Zf.wi64 (by omega) (by omega)
    simp [hi', rd1_of he, rd1_of he1, rd1_of he2, rd1_of hl, rd1_of hl1, rd1_of hl2, k1, k2, k3, z1, z2, z3, z4, z5, z6, hmm, ck, hs, V.same, IntKind.bits]
    exact ⟨by simp [hi'], (x1.trans x2).trans x3⟩

theorem smooth48_ok {h : H} {n c : Int} {A L v : V} {e : Int → Int} {lo hi : Int} (a : Edge h v e lo hi) (hn : 4 ≤ n) (hn2 : n ≤ 64) (h0 : lo ≤ -2) (h1 : 2 * n - 1 ≤ hi) (hc : 0 ≤ c) (hc2 : c ≤ 255) :
    RT (fun v' h' => Ext h h' ∧ EdgeX 0 h.n h' v' (fun i => eSm (2 * n - 1) c e (cl (2 * n - 1) i)) (-big) big) (KW 48 [.agg [.int .i64 n, A, L, .int .i64 c], v] h) := by
  rw [w48, f48, s48]
  obtain ⟨h1', hh1⟩ : ∃ g, g = (((h.new (.cells [.int .i64 n, A, L, .int .i64 c] 59 false)).new (.cells [v] 57 false)).new (.cells [.int .i64 0] 3 false)).put (h.n + 2) (.cells [.int .i64 (2 * n - 1)] 3 false) := ⟨_, rfl⟩
  have x1 : Ext h h1' := by rw [hh1]; exact ((((Ext.refl h).new _).new _).new _).put (by omega) _
  have g0 : h1'.get h.n = some (.cells [.int .i64 n, A, L, .int .i64 c] 59 false) := by
    rw [hh1, get_put_ne (by omega), get_new_lt (by simp only [H.n_new]; omega), get_new_lt (by simp only [H.n_new]; omega), get_new_same]
  have g1 : h1'.get (h.n + 1) = some (.cells [v] 57 false) := by
    rw [hh1, get_put_ne (by omega), get_new_lt (by simp only [H.n_new]; omega), get_new_eq (by simp only [H.n_new])]
  have g2 : h1'.get (h.n + 2) = some (.cells [.int .i64 (2 * n - 1)] 3 false) := by
    rw [hh1, get_put_same (by simp only [H.n_new]; omega)]
  have E1 : Edge h1' (.fn (.func 63) [] [.ptr h.n 0, .ptr (h.n + 1) 0, .ptr (h.n + 2) 0]) (eSm (2 * n - 1) c e) (-2) (2 * n - 1) := by
    refine ⟨⟨_, _, rfl, by simp [V.sames, V.same]⟩, fun i i0 i1 => ?_, fun h' hx i i0 i1 => ?_⟩
    · unfold eSm
      split
      · exact ⟨hc, hc2⟩
      · have v1 := a.val (i - 1) (by omega) (by omega)
        have v2 := a.val i (by omega) (by omega)
        have v3 := a.val (min (i + 1) (2 * n - 1)) (by omega) (by omega)
        omega
    · obtain ⟨v', h2, k1, rfl, k3⟩ := (smooth63_ok (h := h') (by rw [hx.get _ (H.get_lt g0), g0]) (by rw [hx.get _ (H.get_lt g1), g1]) (by rw [hx.get _ (H.get_lt g2), g2]) (a.ext (x1.trans hx)) h0 h1 (by omega) (by omega) hc hc2 i i0 i1).elim
      exact ⟨h2, k1, k3⟩
  obtain ⟨v', h', k1, k2, k3⟩ := (kept62_ok E1 (by omega) (by omega)).elim
  have r1 : (((h.new (.cells [.int .i64 n, A, L, .int .i64 c] 59 false)).new (.cells [v] 57 false))).get h.n = some (.cells [.int .i64 n, A, L, .int .i64 c] 59 false) := by
    rw [get_new_lt (by simp only [H.n_new]; omega), get_new_same]
  have r2 : (((h.new (.cells [.int .i64 n, A, L, .int .i64 c] 59 false)).new (.cells [v] 57 false)).new (.cells [.int .i64 0] 3 false)).get (h.n + 2) = some (.cells [.int .i64 0] 3 false) := get_new_eq (by simp only [H.n_new])
  have z1 : IntKind.i64.wrap (2 * n) = 2 * n := Go.Zf.wi64 (by omega) (by omega)
  have z2 : IntKind.i64.wrap (2 * n - 1) = 2 * n - 1 := Go.Zf.wi64 (by omega) (by omega)
  simp [bx, a.cells, H.n_new, rd1_of r1, nw, z1, z2, wr1_of r2, ← hh1, rd1_of g2, k1]
  exact ⟨x1.trans k2, k3.mono (Nat.le_refl _) x1.n⟩

/-- double$1 -/
theorem double64_ok {h : H} {b1 : Nat} {v : V} {e : Int → Int} {lo hi : Int} (he : h.get b1 = some (.cells [v] 57 false)) (a : Edge h v e lo hi) (i : Int) (i0 : -2 ≤ i) (i1 : i ≤ 1000) (h0 : lo ≤ -2) (h1 : i / 2 + 2 ≤ hi) :
    RT (fun v' h' => v' = .int .i64 (eDb e i) ∧ Ext h h') (KW 64 [.int .i64 i, .ptr b1 0] h) := by
  have hb1 := H.get_lt he
  have hs := a.same
  have hand : binK 0 .and (.int .i64 i) (.int .i64 1) = some (.int .i64 (i % 2)) := by rw [binK_and]; exact congrArg (fun x => some (V.int .i64 x)) (and_mask i 1 (by omega))
  rw [w64, f64, s64]
  unfold eDb
  by_cases h2 : i % 2 = 0
  · obtain ⟨g1, k1, x1⟩ := a.run h (Ext.refl _) (i / 2) (by omega) (by omega)
    simp [-binK_and, hand, h2, IntKind.bits, rd1_of he, k1]
    exact ⟨by simp [h2], x1⟩
  · obtain ⟨k, hk⟩ : ∃ k, k = i / 2 := ⟨_, rfl⟩
    rw [← hk] at h1
    rw [← hk]
    obtain ⟨g1, k1, x1⟩ := a.run h (Ext.refl _) k (by omega) (by omega)
    obtain ⟨g2, k2, x2⟩ := a.run g1 x1 (k + 1) (by omega) (by omega)
    obtain ⟨g3, k3, x3⟩ := a.run g2 (x1.trans x2) (k - 1) (by omega) (by omega)
    obtain ⟨g4, k4, x4⟩ := a.run g3 ((x1.trans x2).trans x3) (k + 2) (by omega) (by omega)
    have v1 := a.val k (by omega) (by omega)
    have v2 := a.val (k + 1) (by omega) (by omega)
    have v3 := a.val (k - 1) (by omega) (by omega)
    have v4 := a.val (k + 2) (by omega) (by omega)
    have he1 : g1.get b1 = _ := (x1.get _ hb1).trans he
    have he2 : g2.get b1 = _ := ((x1.trans x2).get _ hb1).trans he
    have he3 : g3.get b1 = _ := (((x1.trans x2).trans x3).get _ hb1).trans he
    obtain ⟨y1, hy1⟩ : ∃ y, y = e k := ⟨_, rfl⟩
    obtain ⟨y2, hy2⟩ : ∃ y, y = e (k + 1) := ⟨_, rfl⟩
    obtain ⟨y3, hy3⟩ : ∃ y, y = e (k - 1) := ⟨_, rfl⟩
    obtain ⟨y4, hy4⟩ : ∃ y, y = e (k + 2) := ⟨_, rfl⟩
    rw [← hy1] at k1 v1
    rw [← hy2] at k2 v2
    rw [← hy3] at k3 v3
    rw [← hy4] at k4 v4
    rw [← hy1, ← hy2, ← hy3, ← hy4]
    have z1 : IntKind.i64.wrap (k - 1) = k - 1 := Go.Zf.wi64 (by omega) (by omega)
    have z2 : IntKind.i64.wrap (k + 1) = k + 1 := Go.Zf.wi64 (by omega) (by omega)
    have z3 : IntKind.i64.wrap (k + 2) = k + 2 := Go.Zf.wi64 (by omega) (by omega)
    have z4 : IntKind.i64.wrap (y1 + y2) = y1 + y2 := Go.Zf.wi64 (by omega) (by omega)
    have z5 : IntKind.i64.wrap (9 * (y1 + y2)) = 9 * (y1 + y2) := Go.Zf.wi64 (by omega) (by omega)
    have z6 : IntKind.i64.wrap (9 * (y1 + y2) - y3) = 9 * (y1 + y2) - y3 := Go.Zf.wi64 (by omega) (by omega)
    have z7 : IntKind.i64.wrap (9 * (y1 + y2) - y3 - y4) = 9 * (y1 + y2) - y3 - y4 := Go.Zf.wi64 (by omega) (by omega)
    have z8 : IntKind.i64.wrap (9 * (y1 + y2) - y3 - y4 + 8) = 9 * (y1 + y2) - y3 - y4 + 8 := Go.Zf.wi64 (by omega) (by omega)
    simp [← hk, -binK_and, hand, h2, IntKind.bits, rd1_of he, rd1_of he1, rd1_of he2, rd1_of he3, k1, k2, k3, k4, z1, z2, z3, z4, z5, z6, z7, z8, ck, hs, V.same]
    refine ⟨?_, ((x1.trans x2).trans x3).trans x4⟩
    congr 1
    repeat' split
    all_goals omega

theorem double49_ok {h : H} {n c : Int} {A L v : V} {e : Int → Int} {lo hi : Int} (a : Edge h v e lo hi) (hn : 4 ≤ n) (hn2 : n ≤ 64) (h0 : lo ≤ -2) (h1 : 2 * n + 2 ≤ hi) :
    RT (fun v' h' => Ext h h' ∧ EdgeX 0 h.n h' v' (fun i => eDb e (cl (4 * n) i)) (-big) big) (KW 49 [.agg [.int .i64 n, A, L, .int .i64 c], v] h) := by
  rw [w49, f49, s49]
  obtain ⟨h1', hh1⟩ : ∃ g, g = ((h.new (.cells [.int .i64 n, A, L, .int .i64 c] 59 false)).new (.cells [v] 57 false)) := ⟨_, rfl⟩
  have x1 : Ext h h1' := by rw [hh1]; exact ((Ext.refl h).new _).new _
  have g0 : h1'.get h.n = some (.cells [.int .i64 n, A, L, .int .i64 c] 59 false) := by
    rw [hh1, get_new_lt (by simp only [H.n_new]; omega), get_new_same]
  have g1 : h1'.get (h.n + 1) = some (.cells [v] 57 false) := by
    rw [hh1, get_new_eq (by simp only [H.n_new])]
  have E1 : Edge h1' (.fn (.func 64) [] [.ptr (h.n + 1) 0]) (eDb e) (-2) (4 * n) := by
    refine ⟨⟨_, _, rfl, by simp [V.sames, V.same]⟩, fun i i0 i1 => ?_, fun h' hx i i0 i1 => ?_⟩
    · unfold eDb
      split
      · exact a.val _ (by omega) (by omega)
      · omega
    · obtain ⟨v', h2, k1, rfl, k3⟩ := (double64_ok (h := h') (by rw [hx.get _ (H.get_lt g1), g1]) (a.ext (x1.trans hx)) i i0 (by omega) h0 (by omega)).elim
      exact ⟨h2, k1, k3⟩
  obtain ⟨v', h', k1, k2, k3⟩ := (kept62_ok E1 (by omega) (by omega)).elim
  have z1 : IntKind.i64.wrap (4 * n) = 4 * n := Go.Zf.wi64 (by omega) (by omega)
  simp [bx, a.cells, H.n_new, ← hh1, rd1_of g0, z1, k1]
  exact ⟨x1.trans k2, k3.mono (Nat.le_refl _) x1.n⟩
end Go.Proofs.Ytpjcmgmmolediaa
