/- The decoders: shift and next, Value, Take. -/
import Derived.Test.YtpikblkbeoophaaRg
set_option linter.unusedVariables false
set_option linter.unusedSimpArgs false
namespace Go.Proofs.Ytpikblkbeoophaa
open Go Go.Zf

/-- Nothing but one block changes. -/
def Only (h h' : H) (p : Nat) : Prop := h'.n = h.n ∧ ∀ c, c ≠ p → h'.get c = h.get c
theorem Only.refl (h : H) (p : Nat) : Only h h p := ⟨rfl, fun _ _ => rfl⟩
theorem Only.trans {h h1 h2 : H} {p : Nat} (a : Only h h1 p) (b : Only h1 h2 p) : Only h h2 p :=
  ⟨b.1.trans a.1, fun c hc => by rw [b.2 c hc, a.2 c hc]⟩
theorem Only.put (h : H) (p : Nat) (x : Blk) : Only h (h.put p x) p := ⟨H.n_put _ _ _, fun c hc => get_put_ne hc⟩

/-- A slice with bytes, that a decoder reads, in a block that is none of X (X: what is written). -/
def OSl (h : H) (X : Nat → Prop) (v : V) (l : List Nat) : Prop :=
  (v = .nils ∧ l = []) ∨ (∃ b o k, v = .sl b o 0 k ∧ l = []) ∨
  ∃ b o c e ro, v = .sl b o l.length (.op 1) ∧ ¬ X b ∧ h.get b = some (.cells c e ro) ∧ ∀ i, i < l.length → c[o + i]? = (bytesV l)[i]?
theorem OSl.only {h h' : H} {X : Nat → Prop} {p : Nat} {v : V} {l : List Nat} (a : OSl h X v l) (o : Only h h' p) (hX : X p) : OSl h' X v l := by
  rcases a with a | a | ⟨b, o', c, e, ro, h1, h2, h3, h4⟩
  · exact .inl a
  · exact .inr (.inl a)
  · exact .inr (.inr ⟨b, o', c, e, ro, h1, h2, by rw [o.2 b (fun e => h2 (e ▸ hX)), h3], h4⟩)

/-- The program's decoder: bytes that are not read yet, code, range. -/
structure DecAt (h : H) (X : Nat → Prop) (p : Nat) (v : V) (rest : List Nat) (code rng : Nat) : Prop where
  cell : h.get p = some (.cells [v, .int .u32 code, .int .u32 rng] 54 false)
  own : X p
  sl : OSl h X v rest
  byte : ∀ x ∈ rest, x < 256
/-- What code and range of a decoder are at any time. -/
def DInv (code rng : Nat) : Prop := 16777216 ≤ rng ∧ rng < 4294967296 ∧ code < rng
def value (code rng : Nat) : Nat := min (code / (rng / 32768)) 32767

theorem value35_ok {h : H} {X : Nat → Prop} {p : Nat} {v : V} {rest : List Nat} {code rng : Nat} (a : DecAt h X p v rest code rng) (inv : DInv code rng) :
    KK 35 [.ptr p 0] h = some (.ret (.int .u32 (value code rng)), h) := by
  obtain ⟨i1, i2, i3⟩ := inv
  have e1 : (rng : Int).fdiv (2 ^ (min 15 IntKind.u32.bits)) = ((rng / 32768 : Nat) : Int) := by
    rw [Int.fdiv_eq_ediv_of_nonneg _ (by decide)]; rfl
  obtain ⟨q, hq⟩ : ∃ q, q = rng / 32768 := ⟨_, rfl⟩
  have hq0 : ¬ (q = 0) := by omega
  have e2 : (code : Int).tdiv (q : Int) = ((code / q : Nat) : Int) := by rw [Int.tdiv_eq_ediv_of_nonneg (by omega)]; rfl
  have hle : code / q ≤ code := Nat.div_le_self _ _
  rw [← hq] at e1
  rw [value, ← hq]
  obtain ⟨x, hx⟩ : ∃ x, x = code / q := ⟨_, rfl⟩
  rw [← hx] at e2 hle ⊢
  have e3 : IntKind.u32.wrap (x : Int) = x := w32 (by omega) (by omega)
  have e4 : minV [.int .u32 (x : Int), .int .u32 32767] = some (.int .u32 ((min x 32767 : Nat) : Int)) := by
    simp [minV, foldV, min2V]
    split <;> omega
  rw [KK, c35, f35, s35]
  simp [rd1_of a.cell, e1, hq0, e2, e3, e4]

theorem shift33_ok {h : H} {X : Nat → Prop} {p : Nat} {v : V} {rest : List Nat} {code rng : Nat} (a : DecAt h X p v rest code rng) (hc : code < 16777216) :
    ∃ h' v', KK 33 [.ptr p 0] h = some (.ret (.tup []), h') ∧ DecAt h' X p v' rest.tail (code * 256 + rest.headD 0) rng ∧ Only h h' p := by
  have hpl := H.get_lt a.cell
  obtain ⟨d, hd⟩ : ∃ d, d = code * 256 := ⟨_, rfl⟩
  have m1 : IntKind.u32.wrap ((code : Int) * 2 ^ (min 8 IntKind.u32.bits)) = (d : Int) := by
    rw [show IntKind.u32.bits = 32 from rfl, w32 (by simp; omega) (by simp; omega), hd]; simp
  have hw1 := fun x => wr1_of a.cell (o := 1) (by simp) x
  obtain ⟨h1, hh1⟩ : ∃ h1, h1 = h.put p (.cells [v, .int .u32 (d : Int), .int .u32 rng] 54 false) := ⟨_, rfl⟩
  have hp1 : h1.get p = some (.cells [v, .int .u32 (d : Int), .int .u32 rng] 54 false) := by rw [hh1]; exact get_put_same hpl
  have o1 : Only h h1 p := by rw [hh1]; exact Only.put _ _ _
  rw [← hd]
  rcases a.sl with ⟨rfl, rfl⟩ | ⟨b, o, k, rfl, rfl⟩ | ⟨b, o, c, e, ro, rfl, hbX, hb, hcs⟩
  · refine ⟨h1, .nils, ?_, ⟨by simpa using hp1, a.own, .inl ⟨rfl, rfl⟩, by simp⟩, o1⟩
    rw [KK, c33, f33, s33]
    simp [rd1_of a.cell, hw1, m1, ← hh1, rd1_of hp1]
  · refine ⟨h1, .sl b o 0 k, ?_, ⟨by simpa using hp1, a.own, .inr (.inl ⟨b, o, k, rfl, rfl⟩), by simp⟩, o1⟩
    rw [KK, c33, f33, s33]
    simp [rd1_of a.cell, hw1, m1, ← hh1, rd1_of hp1]
  · cases rest with
    | nil =>
      simp only [List.length_nil] at hh1 hp1
      refine ⟨h1, .sl b o 0 (.op 1), ?_, ⟨by simpa using hp1, a.own, .inr (.inl ⟨b, o, _, rfl, rfl⟩), by simp⟩, o1⟩
      rw [KK, c33, f33, s33]
      simp [rd1_of a.cell, hw1, m1, ← hh1, rd1_of hp1]
    | cons x r =>
      have hbp : b ≠ p := fun e => hbX (e ▸ a.own)
      have hx : x < 256 := a.byte x (by simp)
      have hcx : c[o]? = some (.int .u8 x) := by have := hcs 0 (by simp); simpa [bytesV] using this
      have hb1 : h1.get b = some (.cells c e ro) := by rw [o1.2 b hbp, hb]
      have ho : IntKind.u32.wrap ((d % 2 ^ IntKind.u32.bits ||| x % 2 ^ IntKind.u32.bits : Nat) : Int) = ((d + x : Nat) : Int) := by
        rw [show IntKind.u32.bits = 32 from rfl, Nat.mod_eq_of_lt (show d < 2 ^ 32 by omega), Nat.mod_eq_of_lt (show x < 2 ^ 32 by omega)]
        have e1 : d ||| x = d + x := by
          rw [hd, Nat.mul_comm, show (256 : Nat) = 2 ^ 8 from rfl, Nat.two_pow_add_eq_or_of_lt (by omega)]
        rw [e1, w32 (by omega) (by omega)]
      have mx : IntKind.u32.wrap (x : Int) = x := w32 (by omega) (by omega)
      have hw2 := fun x => wr1_of hp1 (o := 1) (by simp) x
      obtain ⟨w, hw⟩ : ∃ w, w = d + x := ⟨_, rfl⟩
      rw [← hw] at ho
      obtain ⟨h2, hh2⟩ : ∃ h2, h2 = h1.put p (.cells [.sl b o (x :: r).length (.op 1), .int .u32 (w : Int), .int .u32 rng] 54 false) := ⟨_, rfl⟩
      have hp2 : h2.get p = some (.cells [.sl b o (x :: r).length (.op 1), .int .u32 (w : Int), .int .u32 rng] 54 false) := by rw [hh2]; exact get_put_same (H.get_lt hp1)
      have o2 : Only h1 h2 p := by rw [hh2]; exact Only.put _ _ _
      have hw3 := fun x => wr1_of hp2 (o := 0) (by simp) x
      have hsl : slS 1 (.sl b o (r.length + 1) (.op 1)) (some (.int .i64 1)) none none = some (.sl b (o + 1) r.length (.op 1)) := by
        simp [slS, sbV, optB, show (1 : Int) ≤ (r.length : Int) + 1 by omega]
      obtain ⟨h3, hh3⟩ : ∃ h3, h3 = h2.put p (.cells [.sl b (o + 1) r.length (.op 1), .int .u32 (w : Int), .int .u32 rng] 54 false) := ⟨_, rfl⟩
      have o3 : Only h2 h3 p := by rw [hh3]; exact Only.put _ _ _
      have hp3 : h3.get p = some (.cells [.sl b (o + 1) r.length (.op 1), .int .u32 (w : Int), .int .u32 rng] 54 false) := by rw [hh3]; exact get_put_same (H.get_lt hp2)
      simp only [List.length_cons] at hh1 hp1 hh2 hp2
      refine ⟨h3, .sl b (o + 1) r.length (.op 1), ?_, ⟨by simpa [← hw] using hp3, a.own, .inr (.inr ⟨b, o + 1, c, e, ro, rfl, hbX, by rw [o3.2 b hbp, o2.2 b hbp, hb1], fun i hi => ?_⟩), fun y hy => a.byte y (by simp at hy; simp [hy])⟩, o1.trans (o2.trans o3)⟩
      · rw [KK, c33, f33, s33]
        simp [rd1_of a.cell, hw1, m1, ← hh1, rd1_of hp1, rd1_of hb1, hcx, mx, ho, hw2, ← hh2, rd1_of hp2, hw3, hsl, ← hh3]
      · have := hcs (i + 1) (by simp at hi ⊢; omega)
        simp [bytesV] at this ⊢
        rw [show o + 1 + i = o + (i + 1) by omega, this]

/-- The reference's decoder. -/
structure RefAt (h : H) (X : Nat → Prop) (p : Nat) (at_ : Nat) (rest : List Nat) (code rng : Nat) : Prop where
  ex : ∃ v B, h.get p = some (.cells [v, .int .i64 at_, .int .u64 code, .int .u64 rng] 63 false) ∧ OSl h X v B ∧ rest = B.drop at_ ∧ ∀ x ∈ B, x < 256
  own : X p
  far : at_ < 4611686018427387904

theorem next34_ok {h : H} {X : Nat → Prop} {p at_ : Nat} {v : V} {B : List Nat} {code rng : V} (hp : h.get p = some (.cells [v, .int .i64 at_, code, rng] 63 false)) (hs : OSl h X v B) (hX : X p) (hB : ∀ x ∈ B, x < 256) (far : at_ < 4611686018427387904) :
    KK 34 [.ptr p 0] h = some (.ret (.int .u64 ((B.drop at_).headD 0)), h.put p (.cells [v, .int .i64 (at_ + 1 : Nat), code, rng] 63 false)) := by
  have hpl := H.get_lt hp
  have hw1 := fun x => wr1_of hp (o := 1) (by simp) x
  have m1 : IntKind.i64.wrap ((at_ : Int) + 1) = ((at_ + 1 : Nat) : Int) := by rw [wi64 (by omega) (by omega)]; simp
  obtain ⟨a1, ha1⟩ : ∃ a1, a1 = at_ + 1 := ⟨_, rfl⟩
  rw [← ha1] at m1 ⊢
  obtain ⟨h1, hh1⟩ : ∃ h1, h1 = h.put p (.cells [v, .int .i64 (a1 : Int), code, rng] 63 false) := ⟨_, rfl⟩
  have hp1 : h1.get p = some (.cells [v, .int .i64 (a1 : Int), code, rng] 63 false) := by rw [hh1]; exact get_put_same hpl
  have o1 : Only h h1 p := by rw [hh1]; exact Only.put _ _ _
  have hs1 := hs.only o1 hX
  rcases hs1 with ⟨rfl, rfl⟩ | ⟨b, o, k, rfl, rfl⟩ | ⟨b, o, c, e, ro, rfl, hbp, hb, hcs⟩
  · rw [KK, c34, f34, s34]
    simp [rd1_of hp, hw1, m1, ← hh1, rd1_of hp1]
    rw [if_neg (by omega)]; simp
  · rw [KK, c34, f34, s34]
    simp [rd1_of hp, hw1, m1, ← hh1, rd1_of hp1]
    rw [if_neg (by omega)]; simp
  · rw [KK, c34, f34, s34]
    by_cases hi : at_ < B.length
    · have hcx := hcs at_ hi
      have hx : B[at_] < 256 := hB _ (by simp)
      have e1 : (B.drop at_).headD 0 = B[at_] := by rw [List.drop_eq_getElem_cons hi]; rfl
      obtain ⟨x, hxx⟩ : ∃ x, x = B[at_] := ⟨_, rfl⟩
      rw [e1]
      have e2 : (bytesV B)[at_]? = some (.int .u8 x) := by simp [bytesV, hi, hxx]
      rw [← hxx] at hx ⊢
      rw [e2] at hcx
      have m2 : IntKind.u64.wrap (x : Int) = x := w64 (by omega) (by omega)
      simp [rd1_of hp, hw1, m1, ← hh1, rd1_of hp1, hi, rd1_of hb, hcx, m2]
    · have e1 : (B.drop at_).headD 0 = 0 := by rw [List.drop_of_length_le (by omega)]; rfl
      rw [e1]
      simp [rd1_of hp, hw1, m1, ← hh1, rd1_of hp1, hi]

def drenorm : Nat → List Nat → Nat → Nat → List Nat × Nat × Nat
  | 0, rest, code, wide => (rest, code, wide)
  | n + 1, rest, code, wide => if wide < 16777216 then drenorm n rest.tail (code * 256 + rest.headD 0) (wide * 256) else (rest, code, wide)
theorem headD_lt {l : List Nat} (h : ∀ x ∈ l, x < 256) : l.headD 0 < 256 := by
  cases l with
  | nil => simp
  | cons a l => exact h a (by simp)

theorem loop24 (X : Nat → Prop) (p : Nat) (rng : Nat) : ∀ (n : Nat) (h : H) (v : V) (rest : List Nat) (code wide : Nat) (e : E), DecAt h X p v rest code rng → code < wide → 16777216 ≤ wide * 256 ^ n → wide < 4294967296 →
    e.s [0, 1, 2, 6, 7, 8, 9] 0 = .ptr p 0 → e.s [0, 1, 2, 6, 7, 8, 9] 9 = .int .u32 wide →
    ∃ e' h' v', loopZ (l24_0 KK loopZ) e h = some ⟨.ex 0, e', h'⟩ ∧ e'.s [0, 1, 2, 6, 7, 8, 9] 0 = .ptr p 0 ∧ e'.s [0, 1, 2, 6, 7, 8, 9] 9 = .int .u32 (drenorm n rest code wide).2.2 ∧
      DecAt h' X p v' (drenorm n rest code wide).1 (drenorm n rest code wide).2.1 rng ∧ Only h h' p
  | n, h, v, rest, code, wide, e, a, hcw, hw, hw32, he0, he9 => by
    by_cases hc : wide < 16777216
    · cases n with
      | zero => simp at hw; omega
      | succ n =>
        obtain ⟨h1, v1, k1, k2, k3⟩ := shift33_ok a (by omega)
        have hm : IntKind.u32.wrap ((wide : Int) * 2 ^ (min 8 IntKind.u32.bits)) = ((wide * 256 : Nat) : Int) := by
          rw [show IntKind.u32.bits = 32 from rfl, w32 (by simp; omega) (by simp; omega)]; simp
        have hb := headD_lt a.byte
        rw [loopZ_eq]
        simp [l24_0, he0, he9, show (wide : Int) ≤ 16777215 by omega, k1]
        rw [hm]
        obtain ⟨e', h', v', i1, i2, i3, i4, i5⟩ := loop24 X p rng n h1 v1 _ _ (wide * 256) ⟨[.ptr p 0, e.s [0, 1, 2, 6, 7, 8, 9] 1, e.s [0, 1, 2, 6, 7, 8, 9] 2, e.s [0, 1, 2, 6, 7, 8, 9] 6, e.s [0, 1, 2, 6, 7, 8, 9] 7, e.s [0, 1, 2, 6, 7, 8, 9] 8, .int .u32 ((wide * 256 : Nat) : Int)], 9, .int .u32 ((wide * 256 : Nat) : Int)⟩ k2
          (by omega) (by rw [Nat.mul_assoc, ← Nat.pow_succ']; exact hw) (by omega) (by simp) (by simp)
        simp only [drenorm, if_pos hc]
        exact ⟨e', h', i1, i2, i3, ⟨v', i4⟩, k3.trans i5⟩
    · rw [loopZ_eq]
      simp [l24_0, he0, he9, show ¬ (wide : Int) ≤ 16777215 by omega]
      have hr : drenorm n rest code wide = (rest, code, wide) := by cases n <;> simp [drenorm, hc]
      rw [hr]
      exact ⟨_, _, ⟨rfl, rfl⟩, by simp, by simp, ⟨v, a⟩, Only.refl _ _⟩

theorem loop25 (X : Nat → Prop) (p : Nat) : ∀ (n : Nat) (h : H) (at_ : Nat) (rest : List Nat) (code wide : Nat) (e : E), RefAt h X p at_ rest code wide → code < wide → 16777216 ≤ wide * 256 ^ n → wide < 4294967296 → at_ + n < 4611686018427387904 →
    e.s [0, 1, 2, 6, 7, 9, 10] 0 = .ptr p 0 →
    ∃ e' h' at', loopZ (l25_0 KK loopZ) e h = some ⟨.ex 0, e', h'⟩ ∧ e'.s [0, 1, 2, 6, 7, 9, 10] 0 = .ptr p 0 ∧ at' ≤ at_ + n ∧
      RefAt h' X p at' (drenorm n rest code wide).1 (drenorm n rest code wide).2.1 (drenorm n rest code wide).2.2 ∧ Only h h' p
  | n, h, at_, rest, code, wide, e, a, hcw, hw, hw32, hat, he0 => by
    obtain ⟨⟨v, B, hp, hs, hr, hB⟩, hX, far⟩ := a
    by_cases hc : wide < 16777216
    · cases n with
      | zero => simp at hw; omega
      | succ n =>
        have k1 := next34_ok hp hs hX hB far
        rw [← hr] at k1
        have hb : rest.headD 0 < 256 := by
          rw [hr]; exact headD_lt fun x hx => hB x (List.mem_of_mem_drop hx)
        obtain ⟨x, hx⟩ : ∃ x, x = rest.headD 0 := ⟨_, rfl⟩
        obtain ⟨a1, ha1⟩ : ∃ a1 : Nat, a1 = at_ + 1 := ⟨_, rfl⟩
        rw [← hx, ← ha1] at k1
        rw [← hx] at hb
        obtain ⟨h1, hh1⟩ : ∃ h1, h1 = h.put p (.cells [v, .int .i64 a1, .int .u64 code, .int .u64 wide] 63 false) := ⟨_, rfl⟩
        have o1 : Only h h1 p := by rw [hh1]; exact Only.put _ _ _
        have hp1 : h1.get p = some (.cells [v, .int .i64 a1, .int .u64 code, .int .u64 wide] 63 false) := by rw [hh1]; exact get_put_same (H.get_lt hp)
        rw [← hh1] at k1
        have m1 : IntKind.u64.wrap ((code : Int) * 256) = (code : Int) * 256 := w64 (by omega) (by omega)
        have m2 : IntKind.u64.wrap ((code : Int) * 256 + x) = ((code * 256 + x : Nat) : Int) := by rw [w64 (by omega) (by omega)]; simp
        have m3 : IntKind.u64.wrap ((wide : Int) * 256) = ((wide * 256 : Nat) : Int) := by rw [w64 (by omega) (by omega)]; simp
        obtain ⟨cd, hcd⟩ : ∃ cd, cd = code * 256 + x := ⟨_, rfl⟩
        obtain ⟨wd, hwd⟩ : ∃ wd, wd = wide * 256 := ⟨_, rfl⟩
        rw [← hcd] at m2
        rw [← hwd] at m3
        have hw2 := fun x => wr1_of hp1 (o := 2) (by simp) x
        obtain ⟨h2, hh2⟩ : ∃ h2, h2 = h1.put p (.cells [v, .int .i64 a1, .int .u64 cd, .int .u64 wide] 63 false) := ⟨_, rfl⟩
        have o2 : Only h1 h2 p := by rw [hh2]; exact Only.put _ _ _
        have hp2 : h2.get p = some (.cells [v, .int .i64 a1, .int .u64 cd, .int .u64 wide] 63 false) := by rw [hh2]; exact get_put_same (H.get_lt hp1)
        have hw3 := fun x => wr1_of hp2 (o := 3) (by simp) x
        obtain ⟨h3, hh3⟩ : ∃ h3, h3 = h2.put p (.cells [v, .int .i64 a1, .int .u64 cd, .int .u64 wd] 63 false) := ⟨_, rfl⟩
        have o3 : Only h2 h3 p := by rw [hh3]; exact Only.put _ _ _
        have hp3 : h3.get p = some (.cells [v, .int .i64 a1, .int .u64 cd, .int .u64 wd] 63 false) := by rw [hh3]; exact get_put_same (H.get_lt hp2)
        have oo := o1.trans (o2.trans o3)
        have a3 : RefAt h3 X p a1 rest.tail cd wd := ⟨⟨v, B, hp3, hs.only oo hX, by rw [hr, List.tail_drop, ha1], hB⟩, hX, by omega⟩
        rw [loopZ_eq]
        simp [l25_0, he0, rd1_of hp, show (wide : Int) < 16777216 by omega, k1, rd1_of hp1, m1, m2, hw2, ← hh2, rd1_of hp2, m3, hw3, ← hh3]
        obtain ⟨e', h', at', i1, i2, i3, i4, i5⟩ := loop25 X p n h3 a1 rest.tail cd wd ⟨[.ptr p 0, e.s [0, 1, 2, 6, 7, 9, 10] 1, e.s [0, 1, 2, 6, 7, 9, 10] 2, e.s [0, 1, 2, 6, 7, 9, 10] 6, e.s [0, 1, 2, 6, 7, 9, 10] 7, e.s [0, 1, 2, 6, 7, 9, 10] 9, e.s [0, 1, 2, 6, 7, 9, 10] 10], 0, .ptr p 0⟩ a3
          (by omega) (by rw [hwd, Nat.mul_assoc, ← Nat.pow_succ']; exact hw) (by omega) (by omega) (by simp)
        simp only [drenorm, if_pos hc]
        rw [← hx, ← hcd, ← hwd]
        exact ⟨e', h', i1, i2, at', by omega, i4, oo.trans i5⟩
    · rw [loopZ_eq]
      simp [l25_0, he0, rd1_of hp, show ¬ (wide : Int) < 16777216 by omega]
      have hr' : drenorm n rest code wide = (rest, code, wide) := by cases n <;> simp [drenorm, hc]
      rw [hr']
      exact ⟨_, _, ⟨rfl, rfl⟩, by simp, at_, by omega, ⟨⟨v, B, hp, hs, hr, hB⟩, hX, far⟩, Only.refl _ _⟩
end Go.Proofs.Ytpikblkbeoophaa
