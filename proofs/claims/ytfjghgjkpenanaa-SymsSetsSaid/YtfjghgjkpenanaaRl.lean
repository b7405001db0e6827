/- Texts of ours made one: Ra Rb Rc Rd Re Rf Rg Rh Ri Rj Rk Rl. -/
import Derived.Test.YtfjghgjkpenanaaSb
/- The program's range coder and the reference's: what each function does to the abstract heap. -/
set_option linter.unusedVariables false
set_option linter.unusedSimpArgs false
namespace Go.Proofs.Ytfjghgjkpenanaa
open Go Go.Zf


def u32 (n : Int) : V := .int .u32 n
def u64 (n : Int) : V := .int .u64 n
def i64 (n : Int) : V := .int .i64 n

theorem wrap32 {n : Int} (h0 : 0 ≤ n) (h1 : n < 4294967296) : IntKind.u32.wrap n = n := by
  unfold IntKind.wrap; simp [IntKind.bits, IntKind.signed]; omega
theorem wrap64 {n : Int} (h0 : 0 ≤ n) (h1 : n < 18446744073709551616) : IntKind.u64.wrap n = n := by
  unfold IntKind.wrap; simp [IntKind.bits, IntKind.signed]; omega

/-- narrow: a range's part. -/
theorem narrow_ok (rng lo hi : Int) (hr0 : 0 ≤ rng) (hr : rng < 4294967296) (hl : 0 ≤ lo) (hlh : lo < hi) (hh : hi ≤ 32768) (h : H) :
    KW 94 [u32 rng, u32 lo, u32 hi] h = some (.ret (.tup [u32 (rng / 32768 * lo), u32 (if hi = 32768 then rng - rng / 32768 * lo else rng / 32768 * (hi - lo))]), h) := by
  have e1 : (rng.fdiv (2 ^ (min 15 IntKind.u32.bits))) = rng / 32768 := by
    rw [Int.fdiv_eq_ediv_of_nonneg _ (by decide)]; rfl
  have hq : rng / 32768 < 131072 := by omega
  have hq0 : 0 ≤ rng / 32768 := by omega
  generalize hR : rng / 32768 = r at *
  have m1 : r * lo ≤ r * 32768 := Int.mul_le_mul_of_nonneg_left (by omega) hq0
  have m0 : 0 ≤ r * lo := Int.mul_nonneg hq0 hl
  have m2 : r * (hi - lo) ≤ r * 32768 := Int.mul_le_mul_of_nonneg_left (by omega) hq0
  have m3 : 0 ≤ r * (hi - lo) := Int.mul_nonneg hq0 (by omega)
  rw [w94, f94, s94]
  simp only [u32]
  by_cases hc : hi = 32768
  · subst hc
    simp [e1, wrap32 m0 (by omega), wrap32 (n := rng - r * lo) (by omega) (by omega)]
  · simp [e1, hc, wrap32 m0 (by omega), wrap32 (n := hi - lo) (by omega) (by omega), wrap32 m3 (by omega)]

end Go.Proofs.Ytfjghgjkpenanaa
/- The encoders: what their functions do to the abstract heap. -/
set_option linter.unusedVariables false
set_option linter.unusedSimpArgs false
namespace Go.Proofs.Ytfjghgjkpenanaa
open Go Go.Zf

attribute [simp] Go.Zf.bytesV_length

/-- One block changed, and nothing else. -/
def Upd (h : H) (b : Nat) (x : Blk) (h' : H) : Prop := h'.n = h.n ∧ ∀ c, h'.get c = if c = b then some x else h.get c
theorem upd_put {h : H} {b : Nat} (hb : b < h.n) (x : Blk) : Upd h b x (h.put b x) :=
  ⟨rfl, fun c => by simp [H.get_put, hb]⟩
theorem Upd.trans {h h1 h2 : H} {b : Nat} {x y : Blk} (a : Upd h b x h1) (c : Upd h1 b y h2) : Upd h b y h2 :=
  ⟨c.1.trans a.1, fun d => by rw [c.2, a.2]; split <;> rfl⟩
theorem Upd.refl {h : H} {b : Nat} {x : Blk} (a : h.get b = some x) : Upd h b x h := ⟨rfl, fun d => by split <;> simp_all⟩

/-- 1 into bytes, the last one first. -/
def incR : List Nat → List Nat
  | [] => []
  | b :: r => if b = 255 then 0 :: incR r else (b + 1) :: r
def inc (l : List Nat) : List Nat := (incR l.reverse).reverse
theorem inc_nil : inc [] = [] := rfl
theorem inc_snoc (l : List Nat) (b : Nat) : inc (l ++ [b]) = if b = 255 then inc l ++ [0] else l ++ [b + 1] := by
  simp only [inc, List.reverse_append, List.reverse_cons, List.reverse_nil, List.nil_append, List.singleton_append, incR]
  split <;> simp
theorem inc_length (l : List Nat) : (inc l).length = l.length := by
  unfold inc
  rw [List.length_reverse]
  have e : l.length = l.reverse.length := by simp
  rw [e]
  generalize l.reverse = r
  induction r with
  | nil => rfl
  | cons b r ih => simp only [incR]; split <;> simp [ih]

theorem incR_byte : ∀ {l : List Nat}, (∀ x ∈ l, x < 256) → ∀ x ∈ incR l, x < 256
  | [], _, x, hx => by simp [incR] at hx
  | b :: r, h, x, hx => by
    have hb := h b (by simp)
    have hr : ∀ x ∈ r, x < 256 := fun x hx => h x (by simp [hx])
    simp only [incR] at hx
    split at hx
    · rcases List.mem_cons.mp hx with rfl | hx
      · omega
      · exact incR_byte hr x hx
    · rcases List.mem_cons.mp hx with rfl | hx
      · omega
      · exact hr x hx
theorem inc_byte {l : List Nat} (h : ∀ x ∈ l, x < 256) : ∀ x ∈ inc l, x < 256 := by
  intro x hx
  exact incR_byte (l := l.reverse) (fun x hx => h x (by simpa using hx)) x (by simpa [inc] using hx)

theorem wrap8 {n : Int} : IntKind.u8.wrap n = n % 256 := by
  unfold IntKind.wrap; simp [IntKind.bits, IntKind.signed]

theorem loop36 (p b : Nat) (t tb : TypeId) (c1 c2 : V) (len : Nat) : ∀ (k : Nat) (pre suf : List Nat) (h : H) (e : E), pre.length = k → (∀ x ∈ pre, x < 256) → (pre ++ suf).length = len → len < 1099511627776 →
    h.get p = some (.cells [.sl b 0 len (.op 1), c1, c2] t false) → h.get b = some (.cells (bytesV (pre ++ suf)) tb false) → p ≠ b →
    e.s [0, 2, 28] 0 = .ptr p 0 → e.s [0, 2, 28] 2 = .int .i64 ((k : Int) - 1) →
    ∃ e' h', loopZ (l92_0 KW loopZ) e h = some ⟨.ex 0, e', h'⟩ ∧ e'.s [0, 2, 28] 0 = .ptr p 0 ∧ Upd h b (.cells (bytesV (inc pre ++ suf)) tb false) h'
  | 0, pre, suf, h, e, hk, hp, hl, hs, hgp, hgb, hn, he0, he2 => by
    have : pre = [] := List.length_eq_zero_iff.mp hk
    subst this
    rw [loopZ_eq]
    simp [l92_0, he0, he2]
    exact ⟨_, _, ⟨rfl, rfl⟩, by simp, Upd.refl hgb⟩
  | k + 1, pre, suf, h, e, hk, hp, hl, hs, hgp, hgb, hn, he0, he2 => by
    obtain ⟨pr, x, rfl⟩ : ∃ pr x, pre = pr ++ [x] := by
      rcases List.eq_nil_or_concat pre with h0 | ⟨a, b, h0⟩
      · subst h0; simp at hk
      · exact ⟨a, b, by simpa using h0⟩
    have hk' : pr.length = k := by simpa using hk
    have hx : x < 256 := hp x (by simp)
    have hlk : k < len := by simp at hl; omega
    have hix : (bytesV (pr ++ [x] ++ suf))[k]? = some (.int .u8 x) := by
      simp [bytesV, ← hk']
    have hset : ∀ y : Nat, (bytesV (pr ++ [x] ++ suf)).set k (.int .u8 y) = bytesV (pr ++ [y] ++ suf) := by
      intro y; simp [bytesV, ← hk']
    have hbl := H.get_lt hgb
    have hpl := H.get_lt hgp
    have hgb0 := hgb
    obtain ⟨c, hc⟩ : ∃ c, c = bytesV (pr ++ [x] ++ suf) := ⟨_, rfl⟩
    have hcl : c.length = len := by rw [hc]; simpa using hl
    rw [← hc] at hgb hix hset
    have hw := fun v => wr1_of hgb (o := k) (by omega) v
    have hpb : ∀ v, (h.put b v).get p = h.get p := fun v => get_put_ne hn
    by_cases hx5 : x = 255
    · subst hx5
      have hz : c.set k (.int .u8 0) = bytesV (pr ++ [0] ++ suf) := hset 0
      have hg2 : (h.put b (.cells (bytesV (pr ++ [0] ++ suf)) tb false)).get b = some (.cells (bytesV (pr ++ [0] ++ suf)) tb false) := get_put_same hbl
      have hz2 : (bytesV (pr ++ [0] ++ suf))[k]? = some (.int .u8 0) := by simp [bytesV, ← hk']
      obtain ⟨c', hc'⟩ : ∃ c', c' = bytesV (pr ++ [0] ++ suf) := ⟨_, rfl⟩
      obtain ⟨h1, hh1⟩ : ∃ h1, h1 = h.put b (.cells c' tb false) := ⟨_, rfl⟩
      have hgp1 : h1.get p = some (.cells [.sl b 0 len (.op 1), c1, c2] t false) := by rw [hh1, hpb, hgp]
      rw [← hc'] at hz hg2 hz2
      rw [← hh1] at hg2
      rw [loopZ_eq]
      simp [l92_0, he0, he2, rd1_of hgp, rd1_of hgb, hix, hlk, hw, hz, wrap8, ← hh1, rd1_of hgp1, rd1_of hg2, hz2]
      rw [wi64 (by omega) (by omega)]
      obtain ⟨e', h', i1, i2, i3⟩ := loop36 p b t tb c1 c2 len k pr (0 :: suf) h1 ⟨[V.ptr p 0, V.int IntKind.i64 ((k : Int) - 1), V.int IntKind.u8 0], 2, V.int IntKind.i64 ((k : Int) - 1)⟩ hk' (fun x hx => hp x (by simp [hx]))
        (by simpa using hl) hs hgp1 (by rw [hg2, hc']; simp) hn (by simp) (by simp)
      refine ⟨e', h', i1, i2, ?_⟩
      have hu : Upd h b (.cells c' tb false) h1 := by rw [hh1]; exact upd_put hbl _
      rw [inc_snoc]
      simpa using hu.trans i3
    · rw [loopZ_eq]
      have hz : c.set k (.int .u8 ((x : Int) + 1)) = bytesV (pr ++ [x + 1] ++ suf) := hset (x + 1)
      have hg2 : (h.put b (.cells (bytesV (pr ++ [x + 1] ++ suf)) tb false)).get b = some (.cells (bytesV (pr ++ [x + 1] ++ suf)) tb false) := get_put_same hbl
      have hz2 : (bytesV (pr ++ [x + 1] ++ suf))[k]? = some (.int .u8 ((x : Int) + 1)) := by simp [bytesV, ← hk']
      obtain ⟨c', hc'⟩ : ∃ c', c' = bytesV (pr ++ [x + 1] ++ suf) := ⟨_, rfl⟩
      obtain ⟨h1, hh1⟩ : ∃ h1, h1 = h.put b (.cells c' tb false) := ⟨_, rfl⟩
      have hgp1 : h1.get p = some (.cells [.sl b 0 len (.op 1), c1, c2] t false) := by rw [hh1, hpb, hgp]
      rw [← hc'] at hz hg2 hz2
      rw [← hh1] at hg2
      have hm : ((x : Int) + 1) % 256 = (x : Int) + 1 := by omega
      have hne : ¬ ((x : Int) + 1 = 0) := by omega
      simp [l92_0, he0, he2, rd1_of hgp, rd1_of hgb, hix, hlk, hw, wrap8, hm, hz, ← hh1, rd1_of hgp1, rd1_of hg2, hz2, hne]
      have hu : Upd h b (.cells c' tb false) h1 := by rw [hh1]; exact upd_put hbl _
      refine ⟨_, _, ⟨rfl, rfl⟩, by simp, ?_⟩
      rw [inc_snoc, if_neg hx5, ← hc']
      exact hu
/-- A slice that grows. -/
def Grow (h : H) (v : V) (l : List Nat) : Prop :=
  (v = .nils ∧ l = []) ∨ ∃ b, v = .sl b 0 l.length (.op 1) ∧ l ≠ [] ∧ h.get b = some (.cells (bytesV l) 5 false)
/-- An encoder (the program's or the reference's): its bytes, low, range. -/
structure EncAt (h : H) (p : Nat) (t : TypeId) (v : V) (out : List Nat) (low : Nat) (rng : V) : Prop where
  cell : h.get p = some (.cells [v, .int .u64 low, rng] t false)
  grow : Grow h v out
  byte : ∀ x ∈ out, x < 256
  low64 : low < 18446744073709551616
def fp (p : Nat) (v : V) (c : Nat) : Prop := c = p ∨ ∃ o n k, v = .sl c o n k
def Fram (h h' : H) (S : Nat → Prop) : Prop := h.n ≤ h'.n ∧ ∀ c, c < h.n → ¬ S c → h'.get c = h.get c

theorem and32 {n : Nat} (hn : n < 18446744073709551616) : IntKind.u64.wrap ((n % 2 ^ IntKind.u64.bits &&& 4294967295 % 2 ^ IntKind.u64.bits : Nat) : Int) = (n : Int) % 4294967296 := by
  rw [show IntKind.u64.bits = 64 from rfl, Nat.mod_eq_of_lt (show n < 2 ^ 64 by omega), Nat.mod_eq_of_lt (show 4294967295 < 2 ^ 64 by omega)]
  rw [show (4294967295 : Nat) = 2 ^ 32 - 1 from rfl, Nat.and_two_pow_sub_one_eq_mod]
  rw [wrap64 (by omega) (by omega)]
  omega

theorem sl_ne {h : H} {p b : Nat} {t tb : TypeId} {v x y : V} {l : List Nat} (hp : h.get p = some (.cells [v, x, y] t false)) (hb : h.get b = some (.cells (bytesV l) tb false)) (hv : ∀ k n, v ≠ .int k n) : p ≠ b := by
  intro e; subst e; rw [hp] at hb; simp only [Option.some.injEq, Blk.cells.injEq] at hb
  obtain ⟨h1, _⟩ := hb
  cases l with
  | nil => simp [bytesV] at h1
  | cons a l => simp [bytesV] at h1; exact hv _ _ h1.1

theorem carry_ok {h : H} {p : Nat} {t : TypeId} {v rng : V} {out : List Nat} {low : Nat} (a : EncAt h p t v out low rng) (hlen : out.length < 1099511627776) :
    ∃ h', KW 92 [.ptr p 0] h = some (.ret (.tup []), h') ∧ EncAt h' p t v (inc out) (low % 4294967296) rng ∧ Fram h h' (fp p v) ∧ h'.n = h.n := by
  have hpl := H.get_lt a.cell
  have hl64 := a.low64
  rcases a.grow with ⟨rfl, rfl⟩ | ⟨b, rfl, hne, hb⟩
  · have hw := fun v => wr1_of a.cell (o := 1) (by simp) v
    have hlp : loopZ (l92_0 KW loopZ) ⟨[.ptr p 0, .int .i64 (-1), V.tup []], 2, .int .i64 (-1)⟩ h = some ⟨.ex 0, ⟨[.ptr p 0, .int .i64 (-1), V.tup []], 10, .bool false⟩, h⟩ := by
      rw [loopZ_eq]
      simp [l92_0]
    rw [w92, f92, s92]
    simp [rd1_of a.cell]
    rw [wi64 (by omega) (by omega)]
    simp [hlp, hw, rd1_of a.cell, and32 a.low64]
    refine ⟨⟨get_put_same hpl, .inl ⟨rfl, rfl⟩, by simp [inc_nil], by omega⟩, ⟨Nat.le_refl _, fun c hc hs => get_put_ne fun e => hs (.inl e)⟩, rfl⟩
  · have hn := sl_ne a.cell hb (by simp)
    have hll : out.length ≠ 0 := by simpa using hne
    rw [w92, f92, s92]
    simp [rd1_of a.cell]
    obtain ⟨e', h', i1, i2, i3⟩ := loop36 p b t 5 (.int .u64 low) rng out.length out.length out [] h ⟨[.ptr p 0, .int .i64 ((out.length : Int) - 1), V.und], 2, .int .i64 ((out.length : Int) - 1)⟩ rfl a.byte (by simp) hlen a.cell (by simpa using hb) hn (by simp) (by simp)
    have hc' : h'.get p = some (.cells [.sl b 0 out.length (.op 1), .int .u64 low, rng] t false) := by rw [i3.2, if_neg hn, a.cell]
    have hw := fun v => wr1_of hc' (o := 1) (by simp) v
    rw [wi64 (by omega) (by omega)]
    simp at i1
    simp [i1, i2, rd1_of hc', hw, and32 a.low64]
    have hpl' : p < h'.n := by rw [i3.1]; exact hpl
    refine ⟨⟨get_put_same hpl', .inr ⟨b, by rw [inc_length], ?_, ?_⟩, ?_, by omega⟩, ⟨by rw [H.n_put, i3.1]; exact Nat.le_refl _, fun c hc hs => ?_⟩, i3.1⟩
    · intro e; have := inc_length out; rw [e] at this; simp at this; exact hll this.symm
    · rw [get_put_ne (Ne.symm hn), i3.2, if_pos rfl]; simp
    · exact inc_byte a.byte
    · rw [get_put_ne fun e => hs (.inl e), i3.2, if_neg fun e => hs (.inr ⟨_, _, _, by rw [e]⟩)]
theorem append_ok {h : H} {v : V} {out l : List Nat} (g : Grow h v out) {q o n : Nat} {cp : Cap} (hr : h.rdN q o n = some (bytesV l)) (hl : l.length = n) (hn : n ≠ 0) (hlen : out.length + n < 1099511627777) :
    ∃ h2, apZ 5 1 1 h v (.sl q o n cp) = some (.sl h.n 0 (out.length + n) (.op 1), h2) ∧ h2.n = h.n + 1 ∧ h2.get h.n = some (.cells (bytesV (out ++ l)) 5 false) ∧
      ∀ c, c < h.n → (∀ o n k, v ≠ .sl c o n k) → h2.get c = h.get c := by
  rcases g with ⟨rfl, rfl⟩ | ⟨b, rfl, hne, hb⟩
  · refine ⟨h.new (.cells (bytesV l) 5 false), ?_, rfl, ?_, ?_⟩
    · simp [apZ, lenOf, firstV, hr, apN, hn]
      simp at hlen; omega
    · simp [get_new_same]
    · intro c hc hv; exact get_new_lt hc
  · have hbl := H.get_lt hb
    refine ⟨((h.put b .dead).new (.cells (bytesV out ++ bytesV l) 5 false)), ?_, rfl, ?_, ?_⟩
    · have : List.take out.length (bytesV out) = bytesV out := List.take_of_length_le (by simp)
      simp [apZ, lenOf, firstV, hr, apN, hn, hb, this, H.n_put]
      omega
    · rw [show h.n = (h.put b .dead).n from rfl, get_new_same, bytesV_append]
    · intro c hc hv
      rw [get_new_lt (by simpa [H.n_put] using hc), get_put_ne (fun e => hv _ _ _ (by rw [e]))]
def emit (out : List Nat) (low : Nat) : List Nat × Nat :=
  let q := if 4294967296 ≤ low then (inc out, low % 4294967296) else (out, low)
  (q.1 ++ [q.2 / 16777216], q.2 % 16777216 * 256)
theorem emit_length (out : List Nat) (low : Nat) : (emit out low).1.length = out.length + 1 := by
  unfold emit; split <;> simp [inc_length]
theorem emit_lt (out : List Nat) (low : Nat) : (emit out low).2 < 4294967296 := by
  unfold emit; split <;> simp <;> omega
theorem shift_ok {h : H} {p : Nat} {t : TypeId} {v rng : V} {out : List Nat} {low : Nat} (a : EncAt h p t v out low rng) (hlen : out.length < 1099511627775) (hlow : low < 8589934592) :
    ∃ h' v', KW 76 [.ptr p 0] h = some (.ret (.tup []), h') ∧ EncAt h' p t v' (emit out low).1 (emit out low).2 rng ∧ Fram h h' (fp p v) ∧ ∀ c o n k, v' = .sl c o n k → h.n ≤ c := by
  have hpl := H.get_lt a.cell
  -- behind the carry
  obtain ⟨h1, o1, l1, hif, a1, hl1, hol, hq, f1, hn1⟩ : ∃ h1 o1 l1, (4294967295 < low → KW 92 [.ptr p 0] h = some (.ret (.tup []), h1)) ∧ EncAt h1 p t v o1 l1 rng ∧ l1 < 4294967296 ∧ o1.length = out.length ∧
      emit out low = (o1 ++ [l1 / 16777216], l1 % 16777216 * 256) ∧ Fram h h1 (fp p v) ∧ h1.n = h.n ∧ (¬ 4294967295 < low → h1 = h) := by
    by_cases hc : 4294967295 < low
    · obtain ⟨h1, k1, k2, k3, k4⟩ := carry_ok a (by omega)
      exact ⟨h1, inc out, low % 4294967296, fun _ => k1, k2, by omega, inc_length out, by simp [emit, show 4294967296 ≤ low by omega], k3, k4, fun h => absurd hc h⟩
    · exact ⟨h, out, low, fun h => absurd h hc, a, by omega, rfl, by simp [emit, show ¬ 4294967296 ≤ low by omega], ⟨Nat.le_refl _, fun _ _ _ => rfl⟩, rfl, fun _ => rfl⟩
  have hpl1 : p < h1.n := by omega
  obtain ⟨x, hx⟩ : ∃ x, x = l1 / 16777216 := ⟨_, rfl⟩
  obtain ⟨hn, hhn⟩ : ∃ hn, hn = h1.new (.cells [.int .u8 (x : Int)] 5 false) := ⟨_, rfl⟩
  have hnn : hn.n = h1.n + 1 := by rw [hhn, H.n_new]
  have hnew : hn.rdN h1.n 0 1 = some (bytesV [x]) := by
    rw [hhn]; simp [H.rdN, get_new_same, bytesV]
  have hg1 : Grow hn v o1 := by
    rcases a1.grow with ⟨e1, e2⟩ | ⟨b, e1, e2, e3⟩
    · exact .inl ⟨e1, e2⟩
    · exact .inr ⟨b, e1, e2, by rw [hhn, get_new_lt (H.get_lt e3), e3]⟩
  obtain ⟨h2, ha, hn2, hs2, hf2⟩ := append_ok hg1 (cp := .ex 1) hnew rfl (by decide) (by omega)
  have hp2 : h2.get p = some (.cells [v, .int .u64 l1, rng] t false) := by
    rw [hf2 p (by omega), hhn, get_new_lt hpl1, a1.cell]
    intro o n k e
    rcases a1.grow with ⟨e1, e2⟩ | ⟨b, e1, e2, e3⟩
    · rw [e1] at e; cases e
    · rw [e1] at e; cases e; exact sl_ne a1.cell e3 (by simp [e1]) rfl
  have e1 : (l1 : Int).fdiv (2 ^ (min 24 IntKind.u64.bits)) = (x : Int) := by
    rw [Int.fdiv_eq_ediv_of_nonneg _ (by decide), hx]; rfl
  have e2 : IntKind.u8.wrap (x : Int) = (x : Int) := by rw [wrap8]; omega
  have hck : ∀ {β : Type} (y : Option β), ck (some v) v y = y := by
    intro β y
    rcases a1.grow with ⟨e1, e2⟩ | ⟨b, e1, e2, e3⟩ <;> rw [e1] <;> simp
  have w1 := fun x => wr1_of hp2 (o := 0) (by simp) x
  obtain ⟨h3, hh3⟩ : ∃ h3, h3 = h2.put p (.cells [.sl hn.n 0 (o1.length + 1) (.op 1), .int .u64 l1, rng] t false) := ⟨_, rfl⟩
  have hp3 : h3.get p = some (.cells [.sl hn.n 0 (o1.length + 1) (.op 1), .int .u64 l1, rng] t false) := by rw [hh3]; exact get_put_same (by omega)
  have w3 := fun x => wr1_of hp3 (o := 1) (by simp) x
  have fin : Fram h (h3.put p (.cells [.sl hn.n 0 (o1.length + 1) (.op 1), .int .u64 ((l1 % 16777216 * 256 : Nat) : Int), rng] t false)) (fp p v) := by
    refine ⟨by rw [H.n_put, hh3, H.n_put]; omega, fun c hc hs => ?_⟩
    have hcp : c ≠ p := fun e => hs (.inl e)
    rw [get_put_ne hcp, hh3, get_put_ne hcp, hf2 c (by omega) (fun o n k e => hs (.inr ⟨o, n, k, e⟩)), hhn, get_new_lt (by omega), f1.2 c hc hs]
  have enc : EncAt (h3.put p (.cells [.sl hn.n 0 (o1.length + 1) (.op 1), .int .u64 ((l1 % 16777216 * 256 : Nat) : Int), rng] t false)) p t (.sl hn.n 0 (o1.length + 1) (.op 1)) (emit out low).1 (emit out low).2 rng := by
    rw [hq]
    refine ⟨get_put_same (by rw [hh3, H.n_put]; omega), .inr ⟨hn.n, by simp, by simp, ?_⟩, ?_, by show _ < _; omega⟩
    · rw [get_put_ne (by omega), hh3, get_put_ne (by omega), hs2, hx]
    · intro y hy
      rcases List.mem_append.mp hy with hy | hy
      · exact a1.byte y hy
      · simp at hy; omega
  have m1 : IntKind.u64.wrap (IntKind.u64.wrap ((l1 % 2 ^ IntKind.u64.bits &&& 16777215 % 2 ^ IntKind.u64.bits : Nat) : Int) * 2 ^ (min 8 IntKind.u64.bits)) = (l1 : Int) % 16777216 * 256 := by
    rw [show IntKind.u64.bits = 64 from rfl, Nat.mod_eq_of_lt (show l1 < 2 ^ 64 by omega), Nat.mod_eq_of_lt (show 16777215 < 2 ^ 64 by omega)]
    rw [show (16777215 : Nat) = 2 ^ 24 - 1 from rfl, Nat.and_two_pow_sub_one_eq_mod]
    rw [wrap64 (n := ((l1 % 2 ^ 24 : Nat) : Int)) (by omega) (by omega), wrap64 (by simp; omega) (by simp; omega)]
    simp
  refine ⟨_, _, ?_, enc, fin, fun c o n k e => by cases e; omega⟩
  rw [w76, f76, s76]
  by_cases hc : 4294967295 < low
  · simp [rd1_of a.cell, show (4294967295 : Int) < low by omega, hif hc, rd1_of a1.cell, bs, fillW, e1, e2, V.cells, splice, ← hhn, ha, w1, hck, ← hh3, rd1_of hp3, w3, m1]
  · have h1e := hn1.2 hc
    subst h1e
    have hll : low = l1 := by have e := a.cell.symm.trans a1.cell; simp at e; omega
    rw [hll] at a hc
    simp [rd1_of a.cell, show ¬ (4294967295 : Int) < l1 by omega, rd1_of a1.cell, bs, fillW, e1, e2, V.cells, splice, ← hhn, ha, w1, hck, ← hh3, rd1_of hp3, w3, m1]
end Go.Proofs.Ytfjghgjkpenanaa
/- The reference's encoder: what its functions do to the abstract heap. -/
set_option linter.unusedVariables false
set_option linter.unusedSimpArgs false
namespace Go.Proofs.Ytfjghgjkpenanaa
open Go Go.Zf

theorem loop31 (p b : Nat) (t tb : TypeId) (c1 c2 : V) (len : Nat) : ∀ (k : Nat) (pre suf : List Nat) (h : H) (e : E), pre.length = k → (∀ x ∈ pre, x < 256) → (pre ++ suf).length = len → len < 1099511627776 →
    h.get p = some (.cells [.sl b 0 len (.op 1), c1, c2] t false) → h.get b = some (.cells (bytesV (pre ++ suf)) tb false) → p ≠ b →
    e.s [0, 2] 0 = .ptr p 0 → e.s [0, 2] 2 = .int .i64 ((k : Int) - 1) →
    ∃ e' h' cur, loopZ (l77_0 KW loopZ) e h = some ⟨.ex 0, e', h'⟩ ∧ e'.s [0, 2] 0 = .ptr p 0 ∧ Upd h b (.cells cur tb false) h' ∧ cur.length = len ∧
      ((e'.s [0, 2] 2 = .int .i64 (-1) ∧ cur = bytesV (inc pre ++ suf)) ∨
       ∃ m x : Nat, e'.s [0, 2] 2 = .int .i64 m ∧ m < len ∧ cur[m]? = some (.int .u8 x) ∧ x < 255 ∧ cur.set m (.int .u8 ((x + 1 : Nat) : Int)) = bytesV (inc pre ++ suf))
  | 0, pre, suf, h, e, hk, hp, hl, hs, hgp, hgb, hn, he0, he2 => by
    have : pre = [] := List.length_eq_zero_iff.mp hk
    subst this
    rw [loopZ_eq]
    simp [l77_0, he0, he2]
    exact ⟨_, _, ⟨rfl, rfl⟩, by simp, _, Upd.refl hgb, by simpa using hl, .inl ⟨by simp, rfl⟩⟩
  | k + 1, pre, suf, h, e, hk, hp, hl, hs, hgp, hgb, hn, he0, he2 => by
    obtain ⟨pr, x, rfl⟩ : ∃ pr x, pre = pr ++ [x] := by
      rcases List.eq_nil_or_concat pre with h0 | ⟨a, b, h0⟩
      · subst h0; simp at hk
      · exact ⟨a, b, by simpa using h0⟩
    have hk' : pr.length = k := by simpa using hk
    have hx : x < 256 := hp x (by simp)
    have hlk : k < len := by simp at hl; omega
    have hix : (bytesV (pr ++ [x] ++ suf))[k]? = some (.int .u8 x) := by
      simp [bytesV, ← hk']
    have hset : ∀ y : Nat, (bytesV (pr ++ [x] ++ suf)).set k (.int .u8 y) = bytesV (pr ++ [y] ++ suf) := by
      intro y; simp [bytesV, ← hk']
    have hbl := H.get_lt hgb
    have hpl := H.get_lt hgp
    have hgb0 := hgb
    obtain ⟨c, hc⟩ : ∃ c, c = bytesV (pr ++ [x] ++ suf) := ⟨_, rfl⟩
    have hcl : c.length = len := by rw [hc]; simpa using hl
    rw [← hc] at hgb hix hset
    have hw := fun v => wr1_of hgb (o := k) (by omega) v
    have hpb : ∀ v, (h.put b v).get p = h.get p := fun v => get_put_ne hn
    by_cases hx5 : x = 255
    · subst hx5
      have hz : c.set k (.int .u8 0) = bytesV (pr ++ [0] ++ suf) := hset 0
      have hg2 : (h.put b (.cells (bytesV (pr ++ [0] ++ suf)) tb false)).get b = some (.cells (bytesV (pr ++ [0] ++ suf)) tb false) := get_put_same hbl
      obtain ⟨c', hc'⟩ : ∃ c', c' = bytesV (pr ++ [0] ++ suf) := ⟨_, rfl⟩
      obtain ⟨h1, hh1⟩ : ∃ h1, h1 = h.put b (.cells c' tb false) := ⟨_, rfl⟩
      have hgp1 : h1.get p = some (.cells [.sl b 0 len (.op 1), c1, c2] t false) := by rw [hh1, hpb, hgp]
      rw [← hc'] at hz hg2
      rw [← hh1] at hg2
      rw [loopZ_eq]
      simp [l77_0, he0, he2, rd1_of hgp, rd1_of hgb, hix, hlk, hw, hz, wrap8, ← hh1]
      rw [wi64 (by omega) (by omega)]
      obtain ⟨e', h', cur, i1, i2, i3, i4, i5⟩ := loop31 p b t tb c1 c2 len k pr (0 :: suf) h1 ⟨[V.ptr p 0, V.int IntKind.i64 ((k : Int) - 1)], 2, V.int IntKind.i64 ((k : Int) - 1)⟩ hk' (fun x hx => hp x (by simp [hx]))
        (by simpa using hl) hs hgp1 (by rw [hg2, hc']; simp) hn (by simp) (by simp)
      have hu : Upd h b (.cells c' tb false) h1 := by rw [hh1]; exact upd_put hbl _
      refine ⟨e', h', i1, i2, cur, hu.trans i3, i4, ?_⟩
      rw [inc_snoc]
      simpa using i5
    · rw [loopZ_eq]
      have hne : ¬ ((x : Int) = 255) := by omega
      simp [l77_0, he0, he2, rd1_of hgp, rd1_of hgb, hix, hlk, hw, hne]
      refine ⟨_, _, ⟨rfl, rfl⟩, by simp, c, Upd.refl hgb, hcl, .inr ⟨k, by simp, hlk, x, hix, by omega, ?_⟩⟩
      rw [inc_snoc, if_neg hx5]
      simpa using hset (x + 1)

/-- goes, behind the carry. -/
noncomputable def t31 (K : Oracle) (L : Looper) (e : E) (h : H) : Out :=
 sq (bd (nilC (e.s k77 0)) fun t55 =>
 bd (fa 0 t55) fun t56 =>
 bd (ld h t56) fun t57 =>
 bd (nilC (e.s k77 0)) fun t59 =>
 bd (fa 1 t59) fun t60 =>
 bd (ld h t60) fun t61 =>
 bd (binK 0 .quo t61 (.int .u64 16777216)) fun t62 =>
 bd (cv .u8 t62) fun t63 =>
 bf (bs h 5 1 [(.int .u8 0)] [(some (0, 1), t63)]) fun t64 h1 =>
 bf (apZ 5 1 1 h1 t57 t64) fun t65 h2 =>
 bd (nilC (e.s k77 0)) fun t66 =>
 bd (fa 0 t66) fun t67 =>
 bf (stZ 1 h2 t67 t65) fun _ h3 =>
 ck (ld h t56) t57 (ck (ld h t60) t61 (some ⟨.nm, ⟨[(e.s k77 0), (e.s k77 2)], 0, (e.s k77 0)⟩, h3⟩))) fun e h =>
 bd (nilC (e.s k77 0)) fun t70 =>
 bd (fa 1 t70) fun t71 =>
 bd (ld h t71) fun t72 =>
 bd (binK 0 .rem t72 (.int .u64 16777216)) fun t73 =>
 bd (binK 0 .mul t73 (.int .u64 256)) fun t74 =>
 bd (nilC (e.s k77 0)) fun t75 =>
 bd (fa 1 t75) fun t76 =>
 bf (stZ 1 h t76 t74) fun _ h1 =>
 some ⟨.nm, ⟨[(e.s k77 0), (e.s k77 2)], 0, (e.s k77 0)⟩, h1⟩

theorem tail31 {h1 : H} {p : Nat} {t : TypeId} {v rng : V} {o1 : List Nat} {l1 : Nat} {e : E} (he : e.s [0, 2] 0 = .ptr p 0) (a1 : EncAt h1 p t v o1 l1 rng) (hlen : o1.length < 1099511627775) (hl1 : l1 < 4294967296) :
    ∃ h' v', fin Try.prog k77 [] (t31 KW loopZ e h1) = some (.ret (.tup []), h') ∧ EncAt h' p t v' (o1 ++ [l1 / 16777216]) (l1 % 16777216 * 256) rng ∧ Fram h1 h' (fp p v) ∧ ∀ c o n k, v' = .sl c o n k → h1.n ≤ c := by
  have hpl1 := H.get_lt a1.cell
  obtain ⟨x, hx⟩ : ∃ x, x = l1 / 16777216 := ⟨_, rfl⟩
  obtain ⟨hn, hhn⟩ : ∃ hn, hn = h1.new (.cells [.int .u8 (x : Int)] 5 false) := ⟨_, rfl⟩
  have hnn : hn.n = h1.n + 1 := by rw [hhn, H.n_new]
  have hnew : hn.rdN h1.n 0 1 = some (bytesV [x]) := by
    rw [hhn]; simp [H.rdN, get_new_same, bytesV]
  have hg1 : Grow hn v o1 := by
    rcases a1.grow with ⟨e1, e2⟩ | ⟨b, e1, e2, e3⟩
    · exact .inl ⟨e1, e2⟩
    · exact .inr ⟨b, e1, e2, by rw [hhn, get_new_lt (H.get_lt e3), e3]⟩
  obtain ⟨h2, ha, hn2, hs2, hf2⟩ := append_ok hg1 (cp := .ex 1) hnew rfl (by decide) (by omega)
  have hp2 : h2.get p = some (.cells [v, .int .u64 l1, rng] t false) := by
    rw [hf2 p (by omega), hhn, get_new_lt hpl1, a1.cell]
    intro o n k e
    rcases a1.grow with ⟨e1, e2⟩ | ⟨b, e1, e2, e3⟩
    · rw [e1] at e; cases e
    · rw [e1] at e; cases e; exact sl_ne a1.cell e3 (by simp [e1]) rfl
  have e1 : (l1 : Int).tdiv 16777216 = (x : Int) := by
    rw [Int.tdiv_eq_ediv_of_nonneg (by omega), hx]; rfl
  have e2 : IntKind.u8.wrap (x : Int) = (x : Int) := by rw [wrap8]; omega
  have hck : ∀ {β : Type} (y : Option β), ck (some v) v y = y := by
    intro β y
    rcases a1.grow with ⟨e1, e2⟩ | ⟨b, e1, e2, e3⟩ <;> rw [e1] <;> simp
  have w1 := fun x => wr1_of hp2 (o := 0) (by simp) x
  obtain ⟨h3, hh3⟩ : ∃ h3, h3 = h2.put p (.cells [.sl hn.n 0 (o1.length + 1) (.op 1), .int .u64 l1, rng] t false) := ⟨_, rfl⟩
  have hp3 : h3.get p = some (.cells [.sl hn.n 0 (o1.length + 1) (.op 1), .int .u64 l1, rng] t false) := by rw [hh3]; exact get_put_same (by omega)
  have w3 := fun x => wr1_of hp3 (o := 1) (by simp) x
  have fin : Fram h1 (h3.put p (.cells [.sl hn.n 0 (o1.length + 1) (.op 1), .int .u64 ((l1 % 16777216 * 256 : Nat) : Int), rng] t false)) (fp p v) := by
    refine ⟨by rw [H.n_put, hh3, H.n_put]; omega, fun c hc hs => ?_⟩
    have hcp : c ≠ p := fun e => hs (.inl e)
    rw [get_put_ne hcp, hh3, get_put_ne hcp, hf2 c (by omega) (fun o n k e => hs (.inr ⟨o, n, k, e⟩)), hhn, get_new_lt (by omega)]
  have enc : EncAt (h3.put p (.cells [.sl hn.n 0 (o1.length + 1) (.op 1), .int .u64 ((l1 % 16777216 * 256 : Nat) : Int), rng] t false)) p t (.sl hn.n 0 (o1.length + 1) (.op 1)) (o1 ++ [l1 / 16777216]) (l1 % 16777216 * 256) rng := by
    refine ⟨get_put_same (by rw [hh3, H.n_put]; omega), .inr ⟨hn.n, by simp, by simp, ?_⟩, ?_, by show _ < _; omega⟩
    · rw [get_put_ne (by omega), hh3, get_put_ne (by omega), hs2, hx]
    · intro y hy
      rcases List.mem_append.mp hy with hy | hy
      · exact a1.byte y hy
      · simp at hy; omega
  have m1 : (l1 : Int).tmod 16777216 = (l1 : Int) % 16777216 := Int.tmod_eq_emod_of_nonneg (by omega)
  have m2 : IntKind.u64.wrap ((l1 : Int) % 16777216 * 256) = (l1 : Int) % 16777216 * 256 := wrap64 (by omega) (by omega)
  have m3 : IntKind.u64.wrap (x : Int) = x := wrap64 (by omega) (by omega)
  refine ⟨_, _, ?_, enc, fin, fun c o n k e => by cases e; omega⟩
  rw [t31]
  simp [he, rd1_of a1.cell, bs, fillW, e1, e2, m3, V.cells, splice, ← hhn, ha, w1, hck, ← hh3, rd1_of hp3, w3, m1, m2]

/-- goes, up to the carry. -/
noncomputable def h31 (K : Oracle) (L : Looper) (e : E) (h : H) : Out :=
 (sq (bd (nilC (e.s k77 0)) fun t4 =>
 bd (fa 1 t4) fun t5 =>
 bd (ld h t5) fun t6 =>
 bd (binK 0 .geq t6 (.int .u64 4294967296)) fun t7 =>
 some ⟨.nm, ⟨[(e.s k77 0), (e.s k77 2)], 7, t7⟩, h⟩) fun e h =>
 br (e.s k77 7) (sq (bd (nilC (e.s k77 0)) fun t9 =>
 bd (fa 0 t9) fun t10 =>
 bd (ld h t10) fun t11 =>
 bd (lnS t11) fun t12 =>
 bd (binK 0 .sub t12 (.int .i64 1)) fun t13 =>
 some ⟨.nm, ⟨[(e.s k77 0), t13], 2, t13⟩, h⟩) fun e h =>
 sq (blk 0 (L (l77_0 K L) e h)) fun e h =>
 sq (sq (bd (binK 0 .geq (e.s k77 2) (.int .i64 0)) fun t35 =>
 some ⟨.nm, ⟨[(e.s k77 0), (e.s k77 2)], 35, t35⟩, h⟩) fun e h =>
 br (e.s k77 35) (bd (nilC (e.s k77 0)) fun t37 =>
 bd (fa 0 t37) fun t38 =>
 bd (ld h t38) fun t39 =>
 bd (iaS 1 t39 (e.s k77 2)) fun t41 =>
 bd (ld h t41) fun t42 =>
 bd (binK 0 .add t42 (.int .u8 1)) fun t43 =>
 bd (iaS 1 t39 (e.s k77 2)) fun t44 =>
 bf (stZ 1 h t44 t43) fun _ h1 =>
 some ⟨.nm, ⟨[(e.s k77 0), (e.s k77 2)], 0, (e.s k77 0)⟩, h1⟩)
 (some ⟨.nm, e, h⟩)) fun e h =>
 bd (nilC (e.s k77 0)) fun t47 =>
 bd (fa 1 t47) fun t48 =>
 bd (ld h t48) fun t49 =>
 bd (binK 0 .sub t49 (.int .u64 4294967296)) fun t50 =>
 bd (nilC (e.s k77 0)) fun t51 =>
 bd (fa 1 t51) fun t52 =>
 bf (stZ 1 h t52 t50) fun _ h1 =>
 some ⟨.nm, ⟨[(e.s k77 0), (e.s k77 2)], 0, (e.s k77 0)⟩, h1⟩)
 (some ⟨.nm, e, h⟩))
theorem s31_eq (K : Oracle) (L : Looper) (e : E) (h : H) : s77 K L e h = sq (h31 K L e h) (t31 K L) := rfl

theorem head31 {h : H} {p : Nat} {t : TypeId} {v rng : V} {out : List Nat} {low : Nat} (a : EncAt h p t v out low rng) (hlen : out.length < 1099511627775) (hlow : low < 8589934592) :
    ∃ e' h1 o1 l1, h31 KW loopZ ⟨[.ptr p 0, V.und], 0, .ptr p 0⟩ h = some ⟨.nm, e', h1⟩ ∧ e'.s [0, 2] 0 = .ptr p 0 ∧ EncAt h1 p t v o1 l1 rng ∧ l1 < 4294967296 ∧ o1.length = out.length ∧
      emit out low = (o1 ++ [l1 / 16777216], l1 % 16777216 * 256) ∧ Fram h h1 (fp p v) ∧ h1.n = h.n := by
  have hpl := H.get_lt a.cell
  by_cases hc : 4294967296 ≤ low
  · have hem : emit out low = (inc out ++ [low % 4294967296 / 16777216], low % 4294967296 % 16777216 * 256) := by simp [emit, hc]
    have ml : IntKind.u64.wrap ((low : Int) - 4294967296) = (low : Int) % 4294967296 := by rw [wrap64 (by omega) (by omega)]; omega
    rcases a.grow with ⟨rfl, rfl⟩ | ⟨b, rfl, hne, hb⟩
    · have hw := fun v => wr1_of a.cell (o := 1) (by simp) v
      have hlp : loopZ (l77_0 KW loopZ) ⟨[.ptr p 0, .int .i64 (-1)], 2, .int .i64 (-1)⟩ h = some ⟨.ex 0, ⟨[.ptr p 0, .int .i64 (-1)], 25, .bool false⟩, h⟩ := by
        rw [loopZ_eq]
        simp [l77_0]
      simp [h31, rd1_of a.cell, show (4294967296 : Int) ≤ low by omega]
      rw [wi64 (by omega) (by omega)]
      simp [hlp, rd1_of a.cell, hw, ml]
      refine ⟨_, _, ⟨rfl, rfl⟩, by simp, [], low % 4294967296, ⟨get_put_same hpl, .inl ⟨rfl, rfl⟩, by simp, by omega⟩, by omega, rfl, by rw [hem]; rfl, ⟨Nat.le_refl _, fun c hc hs => get_put_ne fun e => hs (.inl e)⟩, rfl⟩
    · have hn := sl_ne a.cell hb (by simp)
      have hll : out.length ≠ 0 := by simpa using hne
      obtain ⟨e', h', cur, i1, i2, i3, i4, i5⟩ := loop31 p b t 5 (.int .u64 low) rng out.length out.length out [] h ⟨[.ptr p 0, .int .i64 ((out.length : Int) - 1)], 2, .int .i64 ((out.length : Int) - 1)⟩ rfl a.byte (by simp) (by omega) a.cell (by simpa using hb) hn (by simp) (by simp)
      have hc' : h'.get p = some (.cells [.sl b 0 out.length (.op 1), .int .u64 low, rng] t false) := by rw [i3.2, if_neg hn, a.cell]
      have hb' : h'.get b = some (.cells cur 5 false) := by rw [i3.2, if_pos rfl]
      have hnn : h'.n = h.n := i3.1
      simp only [List.append_nil] at i5
      have hine : inc out ≠ [] := by intro e; have := inc_length out; rw [e] at this; simp at this; exact hll this.symm
      simp [h31, rd1_of a.cell, show (4294967296 : Int) ≤ low by omega]
      rw [wi64 (by omega) (by omega)]
      rcases i5 with ⟨j1, j2⟩ | ⟨m, x, j1, j2, j3, j4, j5⟩
      · have hw := fun v => wr1_of hc' (o := 1) (by simp) v
        simp [i1, i2, j1, rd1_of hc', hw, ml]
        refine ⟨_, _, ⟨rfl, rfl⟩, by simp, inc out, low % 4294967296, ⟨get_put_same (by omega), .inr ⟨b, by rw [inc_length], hine, ?_⟩, inc_byte a.byte, by omega⟩, by omega, inc_length out, hem, ⟨by rw [H.n_put]; omega, fun c hc hs => ?_⟩, hnn⟩
        · rw [get_put_ne (Ne.symm hn), hb', j2]
        · rw [get_put_ne fun e => hs (.inl e), i3.2, if_neg fun e => hs (.inr ⟨_, _, _, by rw [e]⟩)]
      · have hw1 := fun v => wr1_of hb' (o := m) (by omega) v
        have hx8 : IntKind.u8.wrap ((x : Int) + 1) = ((x + 1 : Nat) : Int) := by rw [wrap8]; omega
        obtain ⟨h2, hh2⟩ : ∃ h2, h2 = h'.put b (.cells (bytesV (inc out)) 5 false) := ⟨_, rfl⟩
        have hc2 : h2.get p = some (.cells [.sl b 0 out.length (.op 1), .int .u64 low, rng] t false) := by rw [hh2, get_put_ne hn, hc']
        have hb2 : h2.get b = some (.cells (bytesV (inc out)) 5 false) := by rw [hh2, get_put_same (H.get_lt hb')]
        have hnn2 : h2.n = h.n := by rw [hh2, H.n_put, hnn]
        have hw2 := fun v => wr1_of hc2 (o := 1) (by simp) v
        simp only [Int.natCast_add, Int.cast_ofNat_Int] at j5 hx8
        simp [i1, i2, j1, rd1_of hc', rd1_of hb', j2, j3, hx8, hw1, j5, ← hh2, rd1_of hc2, hw2, ml]
        refine ⟨_, _, ⟨rfl, rfl⟩, by simp, inc out, low % 4294967296, ⟨get_put_same (by omega), .inr ⟨b, by rw [inc_length], hine, ?_⟩, inc_byte a.byte, by omega⟩, by omega, inc_length out, hem, ⟨by rw [H.n_put]; omega, fun c hc hs => ?_⟩, hnn2⟩
        · rw [get_put_ne (Ne.symm hn), hb2]
        · rw [get_put_ne fun e => hs (.inl e), hh2, get_put_ne (fun e => hs (.inr ⟨_, _, _, by rw [e]⟩)), i3.2, if_neg fun e => hs (.inr ⟨_, _, _, by rw [e]⟩)]
  · have hem : emit out low = (out ++ [low / 16777216], low % 16777216 * 256) := by simp [emit, hc]
    simp [h31, rd1_of a.cell, show ¬ (4294967296 : Int) ≤ low by omega]
    exact ⟨_, _, ⟨rfl, rfl⟩, by simp, out, low, a, by omega, rfl, hem, ⟨Nat.le_refl _, fun _ _ _ => rfl⟩, rfl⟩

theorem goes_ok {h : H} {p : Nat} {t : TypeId} {v rng : V} {out : List Nat} {low : Nat} (a : EncAt h p t v out low rng) (hlen : out.length < 1099511627775) (hlow : low < 8589934592) :
    ∃ h' v', KW 77 [.ptr p 0] h = some (.ret (.tup []), h') ∧ EncAt h' p t v' (emit out low).1 (emit out low).2 rng ∧ Fram h h' (fp p v) ∧ ∀ c o n k, v' = .sl c o n k → h.n ≤ c := by
  obtain ⟨e', h1, o1, l1, k1, k2, k3, k4, k5, k6, k7, k8⟩ := head31 a hlen hlow
  obtain ⟨h', v', m1, m2, m3, m4⟩ := tail31 k2 k3 (by omega) k4
  refine ⟨h', v', ?_, by rw [k6]; exact m2, ⟨by have := m3.1; omega, fun c hc hs => ?_⟩, fun c o n k e => by have := m4 c o n k e; omega⟩
  · rw [w77, f77, s31_eq, k1]; exact m1
  · rw [m3.2 c (by omega) hs, k7.2 c hc hs]

end Go.Proofs.Ytfjghgjkpenanaa
/- Put, of both encoders. -/
set_option linter.unusedVariables false
set_option linter.unusedSimpArgs false
namespace Go.Proofs.Ytfjghgjkpenanaa
open Go Go.Zf

/-- What changes is an encoder's own: its cells, its bytes; its new bytes are the old ones or lie in a new block. -/
structure Own (h h' : H) (p : Nat) (v v' : V) : Prop where
  fr : Fram h h' (fp p v)
  nw : v' = v ∨ ∀ c o n k, v' = .sl c o n k → h.n ≤ c
theorem Own.refl (h : H) (p : Nat) (v : V) : Own h h p v v := ⟨⟨Nat.le_refl _, fun _ _ _ => rfl⟩, .inl rfl⟩
theorem Own.trans {h h1 h2 : H} {p : Nat} {v v1 v2 : V} (a : Own h h1 p v v1) (b : Own h1 h2 p v1 v2) : Own h h2 p v v2 := by
  refine ⟨⟨Nat.le_trans a.fr.1 b.fr.1, fun c hc hs => ?_⟩, ?_⟩
  · have h1n := a.fr.1
    rw [b.fr.2 c (by omega) ?_, a.fr.2 c hc hs]
    rintro (e | ⟨o, n, k, e⟩)
    · exact hs (.inl e)
    · rcases a.nw with e1 | e1
      · exact hs (.inr ⟨o, n, k, by rw [← e1, e]⟩)
      · have := e1 c o n k e; omega
  · have h1n := a.fr.1
    rcases b.nw with e | e
    · rw [e]; exact a.nw
    · exact .inr fun c o n k e1 => by have := e c o n k e1; omega

def renorm : Nat → List Nat → Nat → Nat → List Nat × Nat × Nat
  | 0, out, low, wide => (out, low, wide)
  | n + 1, out, low, wide => if wide < 16777216 then renorm n (emit out low).1 (emit out low).2 (wide * 256) else (out, low, wide)

theorem loop12 (p : Nat) (t : TypeId) (rng : V) : ∀ (n : Nat) (h : H) (v : V) (out : List Nat) (low wide : Nat) (e : E), EncAt h p t v out low rng → low < 8589934592 → 16777216 ≤ wide * 256 ^ n → wide < 4294967296 → out.length + n < 1099511627775 →
    e.s [0, 1, 2, 6, 7, 8] 0 = .ptr p 0 → e.s [0, 1, 2, 6, 7, 8] 8 = .int .u32 wide →
    ∃ e' h' v', loopZ (l82_0 KW loopZ) e h = some ⟨.ex 1, e', h'⟩ ∧ e'.s [0, 1, 2, 6, 7, 8] 0 = .ptr p 0 ∧ e'.s [0, 1, 2, 6, 7, 8] 8 = .int .u32 (renorm n out low wide).2.2 ∧
      EncAt h' p t v' (renorm n out low wide).1 (renorm n out low wide).2.1 rng ∧ Own h h' p v v'
  | n, h, v, out, low, wide, e, a, hlow, hw, hw32, hlen, he0, he8 => by
    by_cases hc : wide < 16777216
    · cases n with
      | zero => simp at hw; omega
      | succ n =>
        obtain ⟨h1, v1, k1, k2, k3, k4⟩ := shift_ok a (by omega) hlow
        have hm : IntKind.u32.wrap ((wide : Int) * 2 ^ (min 8 IntKind.u32.bits)) = ((wide * 256 : Nat) : Int) := by
          rw [show IntKind.u32.bits = 32 from rfl, wrap32 (by simp; omega) (by simp; omega)]; simp
        rw [loopZ_eq]
        simp [l82_0, he0, he8, show (wide : Int) ≤ 16777215 by omega, k1]
        rw [hm]
        obtain ⟨e', h', v', i1, i2, i3, i4, i5⟩ := loop12 p t rng n h1 v1 _ _ (wide * 256) ⟨[.ptr p 0, e.s [0, 1, 2, 6, 7, 8] 1, e.s [0, 1, 2, 6, 7, 8] 2, e.s [0, 1, 2, 6, 7, 8] 6, e.s [0, 1, 2, 6, 7, 8] 7, .int .u32 ((wide * 256 : Nat) : Int)], 8, .int .u32 ((wide * 256 : Nat) : Int)⟩ k2
          (by have := emit_lt out low; omega) (by rw [Nat.mul_assoc, ← Nat.pow_succ']; exact hw) (by omega) (by rw [emit_length]; omega) (by simp) (by simp)
        simp only [renorm, if_pos hc]
        exact ⟨e', h', i1, i2, i3, v', i4, (Own.trans ⟨k3, .inr k4⟩ i5)⟩
    · rw [loopZ_eq]
      simp [l82_0, he0, he8, show ¬ (wide : Int) ≤ 16777215 by omega]
      have hr : renorm n out low wide = (out, low, wide) := by cases n <;> simp [renorm, hc]
      rw [hr]
      exact ⟨_, _, ⟨rfl, rfl⟩, by simp, by simp, v, a, Own.refl _ _ _⟩

theorem loop13 (p : Nat) (t : TypeId) : ∀ (n : Nat) (h : H) (v : V) (out : List Nat) (low wide : Nat) (e : E), EncAt h p t v out low (.int .u64 wide) → low < 8589934592 → 16777216 ≤ wide * 256 ^ n → wide < 4294967296 → out.length + n < 1099511627775 →
    e.s [0, 1, 2, 6, 7, 8] 0 = .ptr p 0 →
    ∃ e' h' v', loopZ (l70_0 KW loopZ) e h = some ⟨.ex 0, e', h'⟩ ∧ e'.s [0, 1, 2, 6, 7, 8] 0 = .ptr p 0 ∧
      EncAt h' p t v' (renorm n out low wide).1 (renorm n out low wide).2.1 (.int .u64 (renorm n out low wide).2.2) ∧ Own h h' p v v'
  | n, h, v, out, low, wide, e, a, hlow, hw, hw32, hlen, he0 => by
    by_cases hc : wide < 16777216
    · cases n with
      | zero => simp at hw; omega
      | succ n =>
        obtain ⟨h1, v1, k1, k2, k3, k4⟩ := goes_ok a (by omega) hlow
        have hm : IntKind.u64.wrap ((wide : Int) * 256) = ((wide * 256 : Nat) : Int) := by
          rw [wrap64 (by omega) (by omega)]; simp
        have hw1 := fun v => wr1_of k2.cell (o := 2) (by simp) v
        have hp1 := H.get_lt k2.cell
        obtain ⟨h2, hh2⟩ : ∃ h2, h2 = h1.put p (.cells [v1, .int .u64 ((emit out low).2 : Int), .int .u64 ((wide * 256 : Nat) : Int)] t false) := ⟨_, rfl⟩
        have k5 : EncAt h2 p t v1 (emit out low).1 (emit out low).2 (.int .u64 ((wide * 256 : Nat) : Int)) := by
          refine ⟨by rw [hh2, get_put_same hp1], ?_, k2.byte, k2.low64⟩
          rcases k2.grow with g | ⟨b, g1, g2, g3⟩
          · exact .inl g
          · exact .inr ⟨b, g1, g2, by rw [hh2, get_put_ne (fun e => sl_ne k2.cell g3 (by simp [g1]) e.symm), g3]⟩
        have k6 : Own h h2 p v v1 := by
          refine ⟨⟨by rw [hh2, H.n_put]; exact k3.1, fun c hc hs => ?_⟩, .inr k4⟩
          rw [hh2, get_put_ne (fun e => hs (.inl e)), k3.2 c hc hs]
        rw [loopZ_eq]
        simp [l70_0, he0, rd1_of a.cell, show (wide : Int) < 16777216 by omega, k1, rd1_of k2.cell, hw1]
        rw [hm, ← hh2]
        obtain ⟨e', h', v', i1, i2, i4, i5⟩ := loop13 p t n h2 v1 _ _ (wide * 256) ⟨[.ptr p 0, e.s [0, 1, 2, 6, 7, 8] 1, e.s [0, 1, 2, 6, 7, 8] 2, e.s [0, 1, 2, 6, 7, 8] 6, e.s [0, 1, 2, 6, 7, 8] 7, e.s [0, 1, 2, 6, 7, 8] 8], 0, .ptr p 0⟩ k5
          (by have := emit_lt out low; omega) (by rw [Nat.mul_assoc, ← Nat.pow_succ']; exact hw) (by omega) (by rw [emit_length]; omega) (by simp)
        simp only [renorm, if_pos hc]
        exact ⟨e', h', i1, i2, v', i4, k6.trans i5⟩
    · rw [loopZ_eq]
      simp [l70_0, he0, rd1_of a.cell, show ¬ (wide : Int) < 16777216 by omega]
      have hr : renorm n out low wide = (out, low, wide) := by cases n <;> simp [renorm, hc]
      rw [hr]
      exact ⟨_, _, ⟨rfl, rfl⟩, by simp, v, a, Own.refl _ _ _⟩

def part (rng lo hi : Nat) : Nat × Nat := (rng / 32768 * lo, if hi = 32768 then rng - rng / 32768 * lo else rng / 32768 * (hi - lo))
theorem part_bounds {rng lo hi : Nat} (h0 : 16777216 ≤ rng) (h1 : rng < 4294967296) (h2 : lo < hi) (h3 : hi ≤ 32768) :
    (part rng lo hi).1 + (part rng lo hi).2 ≤ rng ∧ 512 ≤ (part rng lo hi).2 := by
  unfold part
  have hq : 512 ≤ rng / 32768 := by omega
  have hq2 : rng / 32768 * 32768 ≤ rng := by omega
  generalize rng / 32768 = q at *
  have m1 : q * lo + q * (hi - lo) ≤ q * 32768 := by rw [← Nat.mul_add]; exact Nat.mul_le_mul_left _ (by omega)
  have m2 : q * 1 ≤ q * (hi - lo) := Nat.mul_le_mul_left _ (by omega)
  split
  · subst_vars; constructor <;> simp only <;> omega
  · constructor <;> simp only <;> omega
/-- What low and range of an encoder are at any time. -/
def EInv (low rng : Nat) : Prop := 16777216 ≤ rng ∧ rng < 4294967296 ∧ low + rng < 8589934592
theorem renorm_inv : ∀ {n : Nat} {out : List Nat} {low wide : Nat}, 16777216 ≤ wide * 256 ^ n → wide < 4294967296 → low + wide < 8589934592 →
    EInv (renorm n out low wide).2.1 (renorm n out low wide).2.2 ∧ (renorm n out low wide).1.length ≤ out.length + n
  | 0, out, low, wide, h1, h2, h3 => ⟨⟨by simpa [renorm] using h1, h2, h3⟩, Nat.le_refl _⟩
  | n + 1, out, low, wide, h1, h2, h3 => by
    unfold renorm
    split
    · have hl : (emit out low).2 ≤ 4294967040 := by unfold emit; split <;> simp <;> omega
      have := renorm_inv (n := n) (out := (emit out low).1) (low := (emit out low).2) (wide := wide * 256) (by rw [Nat.mul_assoc, ← Nat.pow_succ']; exact h1) (by omega) (by omega)
      refine ⟨this.1, ?_⟩
      have := this.2; rw [emit_length] at this; omega
    · rename_i hc
      exact ⟨⟨by show _ ≤ wide; omega, h2, h3⟩, by simp⟩

def put (out : List Nat) (low rng lo hi : Nat) : List Nat × Nat × Nat := renorm 3 out (low + (part rng lo hi).1) (part rng lo hi).2
theorem put_inv {out : List Nat} {low rng lo hi : Nat} (hi0 : EInv low rng) (h2 : lo < hi) (h3 : hi ≤ 32768) :
    EInv (put out low rng lo hi).2.1 (put out low rng lo hi).2.2 ∧ (put out low rng lo hi).1.length ≤ out.length + 3 := by
  obtain ⟨a, b, c⟩ := hi0
  obtain ⟨m1, m2⟩ := part_bounds a b h2 h3
  exact renorm_inv (by omega) (by omega) (by omega)

/-- The program's encoder, with its range. -/
theorem put12_ok {h : H} {p : Nat} {t : TypeId} {v : V} {out : List Nat} {low rng lo hi : Nat} (a : EncAt h p t v out low (.int .u32 rng)) (inv : EInv low rng) (hlen : out.length < 1099511627000) (h2 : lo < hi) (h3 : hi ≤ 32768) :
    ∃ h' v', KW 82 [.ptr p 0, .int .u32 lo, .int .u32 hi] h = some (.ret (.int .i64 0), h') ∧
      EncAt h' p t v' (put out low rng lo hi).1 (put out low rng lo hi).2.1 (.int .u32 (put out low rng lo hi).2.2) ∧ Own h h' p v v' := by
  obtain ⟨i1, i2, i3⟩ := inv
  obtain ⟨m1, m2⟩ := part_bounds i1 i2 h2 h3
  have hpl := H.get_lt a.cell
  have hna := narrow_ok rng lo hi (by omega) (by omega) (by omega) (by omega) (by omega) h
  obtain ⟨at_, hat⟩ : ∃ x, x = (part rng lo hi).1 := ⟨_, rfl⟩
  obtain ⟨wd, hwd⟩ : ∃ x, x = (part rng lo hi).2 := ⟨_, rfl⟩
  have e1 : (rng : Int) / 32768 * lo = (at_ : Int) := by rw [hat, part]; simp
  have e2 : (if (hi : Int) = 32768 then (rng : Int) - rng / 32768 * lo else rng / 32768 * (hi - lo)) = (wd : Int) := by
    rw [hwd, part]
    have := m1; rw [part] at this
    by_cases hc : hi = 32768
    · have hc' : (hi : Int) = 32768 := by omega
      simp only [if_pos hc, if_pos hc'] at *
      rw [Int.natCast_sub (by omega)]; simp
    · have hc' : ¬ (hi : Int) = 32768 := by omega
      simp only [if_neg hc, if_neg hc']
      rw [Int.natCast_mul, Int.natCast_sub (by omega)]; simp
  rw [← hat, ← hwd] at m1
  rw [← hwd] at m2
  rw [e2, e1] at hna
  have hw1 := fun v => wr1_of a.cell (o := 1) (by simp) v
  obtain ⟨h1, hh1⟩ : ∃ h1, h1 = h.put p (.cells [v, .int .u64 ((low : Int) + at_), .int .u32 rng] t false) := ⟨_, rfl⟩
  have a1 : EncAt h1 p t v out (low + at_) (.int .u32 rng) := by
    refine ⟨by rw [hh1, get_put_same hpl]; simp, ?_, a.byte, by omega⟩
    rcases a.grow with g | ⟨b, g1, g2, g3⟩
    · exact .inl g
    · exact .inr ⟨b, g1, g2, by rw [hh1, get_put_ne (fun e => sl_ne a.cell g3 (by simp [g1]) e.symm), g3]⟩
  have o1 : Own h h1 p v v := ⟨⟨by rw [hh1, H.n_put]; exact Nat.le_refl _, fun c hc hs => by rw [hh1, get_put_ne fun e => hs (.inl e)]⟩, .inl rfl⟩
  have ml : IntKind.u64.wrap ((low : Int) + at_) = (low : Int) + at_ := wrap64 (by omega) (by omega)
  have ma : IntKind.u64.wrap (at_ : Int) = at_ := wrap64 (by omega) (by omega)
  obtain ⟨e', h', v', k1, k2, k3, k4, k5⟩ := loop12 p t (.int .u32 rng) 3 h1 v out (low + at_) wd ⟨[.ptr p 0, .int .u32 lo, .int .u32 hi, .int .i64 0, .int .u32 at_, .int .u32 wd], 0, .ptr p 0⟩ a1 (by omega) (by omega) (by omega) (by omega) (by simp) (by simp)
  have hput : put out low rng lo hi = renorm 3 out (low + at_) wd := by rw [put, ← hat, ← hwd]
  rw [hput]
  have hpl' := H.get_lt k4.cell
  obtain ⟨r, hr⟩ : ∃ r, r = renorm 3 out (low + at_) wd := ⟨_, rfl⟩
  rw [← hr] at k3 k4 ⊢
  have hw3 := fun v => wr1_of k4.cell (o := 2) (by simp) v
  refine ⟨h'.put p (.cells [v', .int .u64 r.2.1, .int .u32 r.2.2] t false), v', ?_, ⟨get_put_same hpl', ?_, k4.byte, k4.low64⟩, o1.trans (k5.trans ⟨⟨by rw [H.n_put]; exact Nat.le_refl _, fun c hc hs => by rw [get_put_ne fun e => hs (.inl e)]⟩, .inl rfl⟩)⟩
  · rw [w82, f82, s82]
    simp only [u32] at hna
    have hz : ¬ (rng = 0) := by omega
    have hz' : ¬ (hi ≤ lo) := by omega
    have hz'' : ¬ (32768 < hi) := by omega
    have hz1 : ¬ ((hi : Int) ≤ lo) := by omega
    have hz2 : ¬ ((32768 : Int) < hi) := by omega
    simp [rd1_of a.cell, hz, hz1, hz2, hz', hz'', hna, hw1, ma, ml, ← hh1, k1, k2, k3, hw3]
  · rcases k4.grow with g | ⟨b, g1, g2, g3⟩
    · exact .inl g
    · exact .inr ⟨b, g1, g2, by rw [get_put_ne (fun e => sl_ne k4.cell g3 (by simp [g1]) e.symm), g3]⟩

theorem part30_ok {rng lo hi : Nat} (h0 : 16777216 ≤ rng) (h1 : rng < 4294967296) (h2 : lo < hi) (h3 : hi ≤ 32768) (h : H) :
    KW 90 [.int .u64 rng, .int .u32 lo, .int .u32 hi] h = some (.ret (.tup [.int .u64 (part rng lo hi).1, .int .u64 (part rng lo hi).2]), h) := by
  obtain ⟨m1, m2⟩ := part_bounds h0 h1 h2 h3
  unfold part at *
  have hq : rng / 32768 < 131072 := by omega
  have e0 : (rng : Int).tdiv 32768 = ((rng / 32768 : Nat) : Int) := by rw [Int.tdiv_eq_ediv_of_nonneg (by omega)]; rfl
  obtain ⟨q, hqq⟩ : ∃ q, q = rng / 32768 := ⟨_, rfl⟩
  rw [← hqq] at m1 m2 e0 hq ⊢
  have n1 : q * lo ≤ q * 32768 := Nat.mul_le_mul_left _ (by omega)
  have n2 : q * (hi - lo) ≤ q * 32768 := Nat.mul_le_mul_left _ (by omega)
  have w0 : IntKind.u64.wrap (q : Int) = q := wrap64 (by omega) (by omega)
  have c1 : (q : Int) * lo = ((q * lo : Nat) : Int) := (Int.natCast_mul q lo).symm
  have w1 : IntKind.u64.wrap ((q : Int) * lo) = (q : Int) * lo := by rw [c1]; exact wrap64 (by omega) (by omega)
  have w2 : IntKind.u64.wrap (lo : Int) = lo := wrap64 (by omega) (by omega)
  rw [w90, f90, s90]
  by_cases hc : hi = 32768
  · subst hc
    simp only [if_true] at m1 m2 ⊢
    have w3 : IntKind.u64.wrap ((rng : Int) - (q : Int) * lo) = (rng : Int) - (q : Int) * lo := by rw [c1]; exact wrap64 (by omega) (by omega)
    have w4 : ((rng - q * lo : Nat) : Int) = (rng : Int) - (q : Int) * lo := by rw [c1]; omega
    simp [e0, w0, w1, w2, w3, w4]
  · have hc' : ¬ (hi : Int) = 32768 := by omega
    have w3 : IntKind.u32.wrap ((hi : Int) - lo) = ((hi - lo : Nat) : Int) := by rw [wrap32 (by omega) (by omega)]; omega
    have w5 : IntKind.u64.wrap ((hi - lo : Nat) : Int) = ((hi - lo : Nat) : Int) := wrap64 (by omega) (by omega)
    have w4 : IntKind.u64.wrap ((q : Int) * ((hi - lo : Nat) : Int)) = (q : Int) * ((hi - lo : Nat) : Int) := by
      rw [← Int.natCast_mul]; exact wrap64 (by omega) (by omega)
    obtain ⟨d, hd⟩ : ∃ d, d = hi - lo := ⟨_, rfl⟩
    rw [← hd] at w3 w4 w5 ⊢
    simp [e0, w0, w1, w2, w3, w4, w5, hc, hc']

/-- The reference's encoder. -/
theorem put13_ok {h : H} {p : Nat} {t : TypeId} {v : V} {out : List Nat} {low rng lo hi : Nat} (a : EncAt h p t v out low (.int .u64 rng)) (inv : EInv low rng) (hlen : out.length < 1099511627000) (h2 : lo < hi) (h3 : hi ≤ 32768) :
    ∃ h' v', KW 70 [.ptr p 0, .int .u32 lo, .int .u32 hi] h = some (.ret (.int .i64 0), h') ∧
      EncAt h' p t v' (put out low rng lo hi).1 (put out low rng lo hi).2.1 (.int .u64 (put out low rng lo hi).2.2) ∧ Own h h' p v v' := by
  obtain ⟨i1, i2, i3⟩ := inv
  obtain ⟨m1, m2⟩ := part_bounds i1 i2 h2 h3
  have hpl := H.get_lt a.cell
  have hna := part30_ok i1 i2 h2 h3 h
  obtain ⟨at_, hat⟩ : ∃ x, x = (part rng lo hi).1 := ⟨_, rfl⟩
  obtain ⟨wd, hwd⟩ : ∃ x, x = (part rng lo hi).2 := ⟨_, rfl⟩
  rw [← hat, ← hwd] at m1 hna
  rw [← hwd] at m2
  have hw1 := fun v => wr1_of a.cell (o := 1) (by simp) v
  obtain ⟨h0, hh0⟩ : ∃ h0, h0 = h.put p (.cells [v, .int .u64 ((low : Int) + at_), .int .u64 rng] t false) := ⟨_, rfl⟩
  have hc0 : h0.get p = some (.cells [v, .int .u64 ((low : Int) + at_), .int .u64 rng] t false) := by rw [hh0, get_put_same hpl]
  have hw2 := fun v => wr1_of hc0 (o := 2) (by simp) v
  obtain ⟨h1, hh1⟩ : ∃ h1, h1 = h0.put p (.cells [v, .int .u64 ((low : Int) + at_), .int .u64 wd] t false) := ⟨_, rfl⟩
  have a1 : EncAt h1 p t v out (low + at_) (.int .u64 wd) := by
    refine ⟨by rw [hh1, get_put_same (H.get_lt hc0)]; simp, ?_, a.byte, by omega⟩
    rcases a.grow with g | ⟨b, g1, g2, g3⟩
    · exact .inl g
    · have := fun e => sl_ne a.cell g3 (by simp [g1]) (Eq.symm e)
      exact .inr ⟨b, g1, g2, by rw [hh1, get_put_ne this, hh0, get_put_ne this, g3]⟩
  have o1 : Own h h1 p v v := ⟨⟨by rw [hh1, H.n_put, hh0, H.n_put]; exact Nat.le_refl _, fun c hc hs => by rw [hh1, get_put_ne fun e => hs (.inl e), hh0, get_put_ne fun e => hs (.inl e)]⟩, .inl rfl⟩
  have ml : IntKind.u64.wrap ((low : Int) + at_) = (low : Int) + at_ := wrap64 (by omega) (by omega)
  obtain ⟨e', h', v', k1, k2, k4, k5⟩ := loop13 p t 3 h1 v out (low + at_) wd ⟨[.ptr p 0, .int .u32 lo, .int .u32 hi, .int .i64 0, .int .u64 at_, .int .u64 wd], 0, .ptr p 0⟩ a1 (by omega) (by omega) (by omega) (by omega) (by simp)
  have hput : put out low rng lo hi = renorm 3 out (low + at_) wd := by rw [put, ← hat, ← hwd]
  rw [hput]
  refine ⟨h', v', ?_, k4, o1.trans k5⟩
  rw [w70, f70, s70]
  have hz1 : ¬ ((hi : Int) ≤ lo) := by omega
  have hz2 : ¬ ((32768 : Int) < hi) := by omega
  have hz' : ¬ (hi ≤ lo) := by omega
  have hz'' : ¬ (32768 < hi) := by omega
  simp [rd1_of a.cell, hz1, hz2, hz', hz'', hna, hw1, ml, ← hh0, hw2, ← hh1, k1, k2]
end Go.Proofs.Ytfjghgjkpenanaa
/- New, Clone, Bytes, of both encoders. -/
set_option linter.unusedVariables false
set_option linter.unusedSimpArgs false
namespace Go.Proofs.Ytfjghgjkpenanaa
open Go Go.Zf

theorem new10_ok (h : H) : ∃ h', KW 42 [] h = some (.ret (.ptr h.n 0), h') ∧ EncAt h' h.n 119 .nils [] 0 (.int .u32 (4294967295 : Nat)) ∧ h'.n = h.n + 1 ∧ ∀ c, c < h.n → h'.get c = h.get c := by
  refine ⟨h.new (.cells [.nils, .int .u64 0, .int .u32 4294967295] 119 false), ?_, ⟨get_new_same, .inl ⟨rfl, rfl⟩, by simp, by omega⟩, rfl, fun c hc => get_new_lt hc⟩
  rw [w42, f42, s42]
  simp [bl, fillW, bx, V.cells, splice]

theorem new11_ok (h : H) : ∃ h', KW 43 [] h = some (.ret (.ptr h.n 0), h') ∧ EncAt h' h.n 121 .nils [] 0 (.int .u64 (4294967295 : Nat)) ∧ h'.n = h.n + 1 ∧ ∀ c, c < h.n → h'.get c = h.get c := by
  refine ⟨h.new (.cells [.nils, .int .u64 0, .int .u64 4294967295] 121 false), ?_, ⟨get_new_same, .inl ⟨rfl, rfl⟩, by simp, by omega⟩, rfl, fun c hc => get_new_lt hc⟩
  rw [w43, f43, s43]
  simp [bl, fillW, bx, V.cells, splice]

/-- Clone, of bytes that grow. -/
theorem clone_ok {h : H} {v : V} {out : List Nat} (g : Grow h v out) (hlen : out.length < 1099511627776) :
    ∃ h' v', KW 75 [v] h = some (.ret v', h') ∧ Grow h' v' out ∧ h.n ≤ h'.n ∧ (∀ c, c < h.n → h'.get c = h.get c) ∧ ∀ c o n k, v' = .sl c o n k → h.n ≤ c := by
  rcases g with ⟨rfl, rfl⟩ | ⟨b, rfl, hne, hb⟩
  · refine ⟨h, .nils, ?_, .inl ⟨rfl, rfl⟩, Nat.le_refl _, fun _ _ => rfl, fun c o n k e => by cases e⟩
    rw [w75, f75, s75]
    simp
  · have hbl := H.get_lt hb
    have hll : out.length ≠ 0 := by simpa using hne
    obtain ⟨h1, hh1⟩ : ∃ h1, h1 = h.new (.cells [] 5 false) := ⟨_, rfl⟩
    have hb1 : h1.get b = some (.cells (bytesV out) 5 false) := by rw [hh1, get_new_lt hbl, hb]
    have hk : List.take out.length (bytesV out) = bytesV out := List.take_of_length_le (by simp)
    refine ⟨h1.new (.cells (bytesV out) 5 false), .sl h1.n 0 out.length (.op 1), ?_, .inr ⟨h1.n, rfl, hne, get_new_same⟩, by rw [H.n_new, hh1, H.n_new]; omega, fun c hc => ?_, fun c o n k e => ?_⟩
    · have hr0 : h1.get h.n = some (.cells [] 5 false) := by rw [hh1]; exact get_new_same
      rw [w75, f75, s75]
      simp [bs, fillW, ← hh1, apZ, lenOf, firstV, H.rdN, hb1, apN, hr0, hk, hll, show out.length ≤ 140737488355328 by omega]
    · rw [get_new_lt (by rw [hh1, H.n_new]; omega), hh1, get_new_lt hc]
    · cases e; rw [hh1, H.n_new]; omega

def emits : Nat → List Nat → Nat → List Nat × Nat
  | 0, out, low => (out, low)
  | n + 1, out, low => emits n (emit out low).1 (emit out low).2

theorem loop14 (p : Nat) (t : TypeId) (rng : V) : ∀ (n : Nat) (h : H) (v : V) (out : List Nat) (low : Nat) (e : E), EncAt h p t v out low rng → low < 8589934592 → n ≤ 4 → out.length + n < 1099511627775 →
    e.s [0, 2, 3, 4, 24] 3 = .ptr p 0 → e.s [0, 2, 3, 4, 24] 24 = .int .i64 (4 - (n : Int)) →
    ∃ e' h' v', loopZ (l46_0 KW loopZ) e h = some ⟨.ex 0, e', h'⟩ ∧ e'.s [0, 2, 3, 4, 24] 3 = .ptr p 0 ∧
      EncAt h' p t v' (emits n out low).1 (emits n out low).2 rng ∧ Own h h' p v v'
  | 0, h, v, out, low, e, a, hlow, hn, hlen, he0, he1 => by
    rw [loopZ_eq]
    simp [l46_0, he0, he1]
    exact ⟨_, _, ⟨rfl, rfl⟩, by simp, v, a, Own.refl _ _ _⟩
  | n + 1, h, v, out, low, e, a, hlow, hn, hlen, he0, he1 => by
    obtain ⟨h1, v1, k1, k2, k3, k4⟩ := shift_ok a (by omega) hlow
    rw [loopZ_eq]
    simp [l46_0, he0, he1, show (4 : Int) - (n + 1) < 4 by omega, k1]
    have hw : IntKind.i64.wrap ((4 : Int) - (n + 1) + 1) = 4 - (n : Int) := by rw [wi64 (by omega) (by omega)]; omega
    rw [hw]
    obtain ⟨e', h', v', i1, i2, i4, i5⟩ := loop14 p t rng n h1 v1 _ _ ⟨[e.s [0, 2, 3, 4, 24] 0, e.s [0, 2, 3, 4, 24] 2, .ptr p 0, e.s [0, 2, 3, 4, 24] 4, .int .i64 (4 - (n : Int))], 24, .int .i64 (4 - (n : Int))⟩ k2
      (by have := emit_lt out low; omega) (by omega) (by rw [emit_length]; omega) (by simp) (by simp)
    exact ⟨e', h', i1, i2, v', i4, Own.trans ⟨k3, .inr k4⟩ i5⟩

theorem loop16 (p : Nat) (t : TypeId) (rng : V) : ∀ (n : Nat) (h : H) (v : V) (out : List Nat) (low : Nat) (e : E), EncAt h p t v out low rng → low < 8589934592 → n ≤ 4 → out.length + n < 1099511627775 →
    e.s [0, 2, 3, 4, 5] 3 = .ptr p 0 → e.s [0, 2, 3, 4, 5] 4 = .int .i64 (4 - (n : Int)) →
    ∃ e' h' v', loopZ (l47_0 KW loopZ) e h = some ⟨.ex 0, e', h'⟩ ∧ e'.s [0, 2, 3, 4, 5] 3 = .ptr p 0 ∧
      EncAt h' p t v' (emits n out low).1 (emits n out low).2 rng ∧ Own h h' p v v'
  | 0, h, v, out, low, e, a, hlow, hn, hlen, he0, he1 => by
    rw [loopZ_eq]
    simp [l47_0, he0, he1]
    exact ⟨_, _, ⟨rfl, rfl⟩, by simp, v, a, Own.refl _ _ _⟩
  | n + 1, h, v, out, low, e, a, hlow, hn, hlen, he0, he1 => by
    obtain ⟨h1, v1, k1, k2, k3, k4⟩ := goes_ok a (by omega) hlow
    rw [loopZ_eq]
    simp [l47_0, he0, he1, show (4 : Int) - (n + 1) < 4 by omega, k1]
    have hw : IntKind.i64.wrap ((4 : Int) - (n + 1) + 1) = 4 - (n : Int) := by rw [wi64 (by omega) (by omega)]; omega
    rw [hw]
    obtain ⟨e', h', v', i1, i2, i4, i5⟩ := loop16 p t rng n h1 v1 _ _ ⟨[e.s [0, 2, 3, 4, 5] 0, e.s [0, 2, 3, 4, 5] 2, .ptr p 0, .int .i64 (4 - (n : Int)), e.s [0, 2, 3, 4, 5] 5], 4, .int .i64 (4 - (n : Int))⟩ k2
      (by have := emit_lt out low; omega) (by omega) (by rw [emit_length]; omega) (by simp) (by simp)
    exact ⟨e', h', i1, i2, v', i4, Own.trans ⟨k3, .inr k4⟩ i5⟩

def trimN (out : List Nat) : Nat → Nat
  | 0 => 0
  | k + 1 => if out[k]? = some 0 then trimN out k else k + 1
theorem trimN_le (out : List Nat) : ∀ k, trimN out k ≤ k
  | 0 => Nat.le_refl _
  | k + 1 => by unfold trimN; split; exact Nat.le_succ_of_le (trimN_le out k); exact Nat.le_refl _

theorem trim14 (p b : Nat) (t : TypeId) (c1 c2 : V) (out : List Nat) (h : H) (hc : h.get p = some (.cells [.sl b 0 out.length (.op 1), c1, c2] t false)) (hb : h.get b = some (.cells (bytesV out) 5 false)) (hlen : out.length < 1099511627776) : ∀ (k : Nat) (e : E), k ≤ out.length →
    e.s [0, 2, 3, 4, 24] 3 = .ptr p 0 → e.s [0, 2, 3, 4, 24] 4 = .int .i64 k →
    ∃ e', loopZ (l46_1 KW loopZ) e h = some ⟨.ex 2, e', h⟩ ∧ e'.s [0, 2, 3, 4, 24] 3 = .ptr p 0 ∧ e'.s [0, 2, 3, 4, 24] 4 = .int .i64 (trimN out k)
  | 0, e, hk, he0, he1 => by
    rw [loopZ_eq]
    simp [l46_1, he0, he1, trimN]
  | k + 1, e, hk, he0, he1 => by
    obtain ⟨x, hx⟩ : ∃ x, out[k]? = some x := ⟨out[k], by simp⟩
    have hbx : (bytesV out)[k]? = some (.int .u8 x) := by simp [bytesV, hx]
    have hw : IntKind.i64.wrap (((k + 1 : Nat) : Int) - 1) = k := by rw [wi64 (by omega) (by omega)]; omega
    have hw' : IntKind.i64.wrap ((k : Int)) = k := wi64 (by omega) (by omega)
    have hkl : k < out.length := by omega
    obtain ⟨c, hcc⟩ : ∃ c, c = bytesV out := ⟨_, rfl⟩
    have hb0 := hb
    rw [← hcc] at hb hbx
    rw [loopZ_eq]
    by_cases h0 : x = 0
    · subst h0
      simp [l46_1, he0, he1, rd1_of hc, rd1_of hb, hbx, hw, hw', show (0 : Int) < (k : Int) + 1 by omega, hkl]
      obtain ⟨e', i1, i2, i3⟩ := trim14 p b t c1 c2 out h hc hb0 hlen k ⟨[e.s [0, 2, 3, 4, 24] 0, e.s [0, 2, 3, 4, 24] 2, .ptr p 0, .int .i64 k, e.s [0, 2, 3, 4, 24] 24], 4, .int .i64 k⟩ (by omega) (by simp) (by simp)
      refine ⟨e', i1, i2, ?_⟩
      rw [i3, trimN, hx]; simp
    · have ht : trimN out (k + 1) = k + 1 := by rw [trimN, hx]; simp [h0]
      simp [l46_1, he0, he1, rd1_of hc, rd1_of hb, hbx, hw, hw', show (0 : Int) < (k : Int) + 1 by omega, hkl, h0, ht]

theorem trim16 (p b : Nat) (t : TypeId) (c1 c2 : V) (out : List Nat) (h : H) (hc : h.get p = some (.cells [.sl b 0 out.length (.op 1), c1, c2] t false)) (hb : h.get b = some (.cells (bytesV out) 5 false)) (hlen : out.length < 1099511627776) : ∀ (k : Nat) (e : E), k ≤ out.length →
    e.s [0, 2, 3, 4, 5] 3 = .ptr p 0 → e.s [0, 2, 3, 4, 5] 5 = .int .i64 k →
    ∃ e', loopZ (l47_1 KW loopZ) e h = some ⟨.ex 2, e', h⟩ ∧ e'.s [0, 2, 3, 4, 5] 3 = .ptr p 0 ∧ e'.s [0, 2, 3, 4, 5] 5 = .int .i64 (trimN out k)
  | 0, e, hk, he0, he1 => by
    rw [loopZ_eq]
    simp [l47_1, he0, he1, trimN]
  | k + 1, e, hk, he0, he1 => by
    obtain ⟨x, hx⟩ : ∃ x, out[k]? = some x := ⟨out[k], by simp⟩
    have hbx : (bytesV out)[k]? = some (.int .u8 x) := by simp [bytesV, hx]
    have hw : IntKind.i64.wrap (((k + 1 : Nat) : Int) - 1) = k := by rw [wi64 (by omega) (by omega)]; omega
    have hw' : IntKind.i64.wrap ((k : Int)) = k := wi64 (by omega) (by omega)
    have hkl : k < out.length := by omega
    obtain ⟨c, hcc⟩ : ∃ c, c = bytesV out := ⟨_, rfl⟩
    have hb0 := hb
    rw [← hcc] at hb hbx
    rw [loopZ_eq]
    by_cases h0 : x = 0
    · subst h0
      simp [l47_1, he0, he1, rd1_of hc, rd1_of hb, hbx, hw, hw', show (0 : Int) < (k : Int) + 1 by omega, hkl]
      obtain ⟨e', i1, i2, i3⟩ := trim16 p b t c1 c2 out h hc hb0 hlen k ⟨[e.s [0, 2, 3, 4, 5] 0, e.s [0, 2, 3, 4, 5] 2, .ptr p 0, e.s [0, 2, 3, 4, 5] 4, .int .i64 k], 5, .int .i64 k⟩ (by omega) (by simp) (by simp)
      refine ⟨e', i1, i2, ?_⟩
      rw [i3, trimN, hx]; simp
    · have ht : trimN out (k + 1) = k + 1 := by rw [trimN, hx]; simp [h0]
      simp [l47_1, he0, he1, rd1_of hc, rd1_of hb, hbx, hw, hw', show (0 : Int) < (k : Int) + 1 by omega, hkl, h0, ht]
end Go.Proofs.Ytfjghgjkpenanaa
/- Bytes, of both encoders. -/
set_option linter.unusedVariables false
set_option linter.unusedSimpArgs false
namespace Go.Proofs.Ytfjghgjkpenanaa
open Go Go.Zf

theorem emits_length : ∀ (n : Nat) (out : List Nat) (low : Nat), (emits n out low).1.length = out.length + n
  | 0, _, _ => rfl
  | n + 1, out, low => by rw [emits, emits_length n, emit_length]; omega
/-- What an encoder answers. -/
def bytes (out : List Nat) (low : Nat) : List Nat := (emits 4 out low).1.take (trimN (emits 4 out low).1 (out.length + 4))

theorem grow_ck {h : H} {v : V} {out : List Nat} (g : Grow h v out) {β : Type} (y : Option β) : ck (some v) v y = y := by
  rcases g with ⟨e1, e2⟩ | ⟨b, e1, e2, e3⟩ <;> rw [e1] <;> simp
theorem grow_cells {h : H} {v : V} {out : List Nat} (g : Grow h v out) : v.cells = some [v] := by
  rcases g with ⟨e1, e2⟩ | ⟨b, e1, e2, e3⟩ <;> rw [e1] <;> simp [V.cells, V.isCell]

theorem cells_int (k : IntKind) (n : Int) : (V.int k n).cells = some [.int k n] := rfl

theorem bytes14_ok {h : H} {p : Nat} {t : TypeId} {v : V} {out : List Nat} {low rng : Nat} (a : EncAt h p t v out low (.int .u32 rng)) (inv : EInv low rng) (hlen : out.length < 1099511627000) :
    ∃ h' b, KW 46 [.ptr p 0] h = some (.ret (.sl b 0 (trimN (emits 4 out low).1 (out.length + 4)) (.ex (trimN (emits 4 out low).1 (out.length + 4)))), h') ∧
      h'.get b = some (.cells (bytesV (emits 4 out low).1) 5 false) ∧ (∀ x ∈ (emits 4 out low).1, x < 256) ∧ h.n ≤ b ∧ h.n ≤ h'.n ∧ ∀ c, c < h.n → h'.get c = h.get c := by
  obtain ⟨i1, i2, i3⟩ := inv
  have hpl := H.get_lt a.cell
  obtain ⟨h1, v1, k1, k2, k3, k4, k5⟩ := clone_ok a.grow (by omega)
  have hp1 : h1.get p = some (.cells [v, .int .u64 low, .int .u32 rng] t false) := by rw [k4 p hpl, a.cell]
  have hz : ¬ (rng = 0) := by omega
  have hbl : bl [.nils, .int .u64 0, .int .u32 0] [(some (0, 1), v1), (some (1, 1), .int .u64 low)] = some (.agg [v1, .int .u64 low, .int .u32 0]) := by
    simp [bl, fillW, grow_cells k2, cells_int, splice]
  obtain ⟨h2, hh2⟩ : ∃ h2, h2 = h1.new (.cells [.nils, .int .u64 0, .int .u32 0] 119 false) := ⟨_, rfl⟩
  have hq2 : h2.get h1.n = some (.cells [.nils, .int .u64 0, .int .u32 0] 119 false) := by rw [hh2]; exact get_new_same
  obtain ⟨h3, hh3⟩ : ∃ h3, h3 = h2.put h1.n (.cells [v1, .int .u64 low, .int .u32 0] 119 false) := ⟨_, rfl⟩
  have hst : stZ 3 h2 (.ptr h1.n 0) (.agg [v1, .int .u64 low, .int .u32 0]) = some (.tup [], h3) := by
    rw [hh3]; simp [stZ, H.wrN, hq2, splice]
  have a3 : EncAt h3 h1.n 119 v1 out low (.int .u32 0) := by
    refine ⟨by rw [hh3, get_put_same (H.get_lt hq2)], ?_, a.byte, a.low64⟩
    rcases k2 with g | ⟨b, g1, g2, g3⟩
    · exact .inl g
    · have := H.get_lt g3
      exact .inr ⟨b, g1, g2, by rw [hh3, get_put_ne (by omega), hh2, get_new_lt this, g3]⟩
  obtain ⟨e', h4, v4, j1, j2, j3, j4⟩ := loop14 h1.n 119 (.int .u32 0) 4 h3 v1 out low ⟨[.ptr p 0, .nils, .ptr h1.n 0, .tup [], .int .i64 0], 24, .int .i64 0⟩ a3 (by omega) (by omega) (by omega) (by simp) (by simp)
  have hn2 : h2.n = h1.n + 1 := by rw [hh2, H.n_new]
  have hn3 : h3.n = h1.n + 1 := by rw [hh3, H.n_put, hn2]
  have hel := emits_length 4 out low
  rcases j3.grow with ⟨g1, g2⟩ | ⟨b, rfl, g2, g3⟩
  · rw [g2] at hel; simp at hel
  · obtain ⟨e2, m1, m2, m3⟩ := trim14 h1.n b 119 (.int .u64 (emits 4 out low).2) (.int .u32 0) _ h4 j3.cell g3 (by omega) _ ⟨[e'.s [0, 2, 3, 4, 24] 0, e'.s [0, 2, 3, 4, 24] 2, .ptr h1.n 0, .int .i64 (emits 4 out low).1.length, e'.s [0, 2, 3, 4, 24] 24], 4, .int .i64 (emits 4 out low).1.length⟩ (Nat.le_refl _) (by simp) (by simp)
    have hle := trimN_le (emits 4 out low).1 (emits 4 out low).1.length
    rw [← hel]
    obtain ⟨n, hn⟩ : ∃ n, n = trimN (emits 4 out low).1 (emits 4 out low).1.length := ⟨_, rfl⟩
    rw [← hn] at m3 hle ⊢
    have hsl : slS 1 (.sl b 0 (emits 4 out low).1.length (.op 1)) none (some (.int .i64 n)) (some (.int .i64 n)) = some (.sl b 0 n (.ex n)) := by
      have hle' : n ≤ (emits 4 out low).1.length := hle
      simp [slS, sbV, optB, hle']
    refine ⟨h4, b, ?_, g3, j3.byte, ?_, by have := j4.fr.1; omega, fun c hc => ?_⟩
    · rw [w46, f46, s46]
      simp [rd1_of a.cell, hz, k1, rd1_of hp1, hbl, nw, ← hh2, hst, grow_ck a.grow, j1, j2, rd1_of j3.cell, m1, m2, m3, hsl]
    · rcases j4.nw with e | e
      · have := k5 b; rw [← e] at this; have := this _ _ _ rfl; omega
      · have := e b _ _ _ rfl; omega
    · rw [j4.fr.2 c (by omega) ?_, hh3, get_put_ne (by omega), hh2, get_new_lt (by omega), k4 c hc]
      rintro (e | ⟨o, n, k, e⟩)
      · omega
      · have := k5 _ _ _ _ e; omega

theorem bytes16_ok {h : H} {p : Nat} {t : TypeId} {v : V} {out : List Nat} {low rng : Nat} (a : EncAt h p t v out low (.int .u64 rng)) (inv : EInv low rng) (hlen : out.length < 1099511627000) :
    ∃ h' b, KW 47 [.ptr p 0] h = some (.ret (.sl b 0 (trimN (emits 4 out low).1 (out.length + 4)) (.op 1)), h') ∧
      h'.get b = some (.cells (bytesV (emits 4 out low).1) 5 false) ∧ (∀ x ∈ (emits 4 out low).1, x < 256) ∧ h.n ≤ b ∧ h.n ≤ h'.n ∧ ∀ c, c < h.n → h'.get c = h.get c := by
  obtain ⟨i1, i2, i3⟩ := inv
  have hpl := H.get_lt a.cell
  have hbl : bl [.nils, .int .u64 0, .int .u64 0] [(some (1, 1), .int .u64 low)] = some (.agg [.nils, .int .u64 low, .int .u64 0]) := by
    simp [bl, fillW, cells_int, splice]
  obtain ⟨h1, hh1⟩ : ∃ h1, h1 = h.new (.cells [.nils, .int .u64 low, .int .u64 0] 121 false) := ⟨_, rfl⟩
  have hbx : bx h 121 (.agg [.nils, .int .u64 low, .int .u64 0]) = some (.ptr h.n 0, h1) := by rw [hh1]; simp [bx, V.cells]
  have hq1 : h1.get h.n = some (.cells [.nils, .int .u64 low, .int .u64 0] 121 false) := by rw [hh1]; exact get_new_same
  have hp1 : h1.get p = some (.cells [v, .int .u64 low, .int .u64 rng] t false) := by rw [hh1, get_new_lt hpl, a.cell]
  have hn1 : h1.n = h.n + 1 := by rw [hh1, H.n_new]
  -- the copy of the bytes
  obtain ⟨h2, v1, hap, g2, hn2, hf2, hv2⟩ : ∃ h2 v1, apZ 5 1 1 h1 .nils v = some (v1, h2) ∧ Grow h2 v1 out ∧ h1.n ≤ h2.n ∧ (∀ c, c < h1.n → h2.get c = h1.get c) ∧ ∀ c o n k, v1 = .sl c o n k → h1.n ≤ c := by
    rcases a.grow with ⟨rfl, rfl⟩ | ⟨b, rfl, hne, hb⟩
    · exact ⟨h1, .nils, by simp [apZ, lenOf, firstV, apN], .inl ⟨rfl, rfl⟩, Nat.le_refl _, fun _ _ => rfl, fun c o n k e => by cases e⟩
    · have hb1 : h1.get b = some (.cells (bytesV out) 5 false) := by rw [hh1, get_new_lt (H.get_lt hb), hb]
      have hr : h1.rdN b 0 out.length = some (bytesV out) := by
        simp [H.rdN, hb1, List.take_of_length_le]
      obtain ⟨h2, q1, q2, q3, q4⟩ := append_ok (h := h1) (v := .nils) (out := []) (cp := .op 1) (.inl ⟨rfl, rfl⟩) hr rfl (by simpa using hne) (by simp; omega)
      refine ⟨h2, _, q1, .inr ⟨h1.n, by simp, hne, by simpa using q3⟩, by omega, fun c hc => q4 c hc (by simp), fun c o n k e => by cases e; omega⟩
  have hq2 : h2.get h.n = some (.cells [.nils, .int .u64 low, .int .u64 0] 121 false) := by rw [hf2 _ (by omega), hq1]
  have hw2 := fun x => wr1_of hq2 (o := 0) (by simp) x
  obtain ⟨h3, hh3⟩ : ∃ h3, h3 = h2.put h.n (.cells [v1, .int .u64 low, .int .u64 0] 121 false) := ⟨_, rfl⟩
  have hst : stZ 1 h2 (.ptr h.n 0) v1 = some (.tup [], h3) := by
    rw [hh3]
    rcases g2 with ⟨e1, e2⟩ | ⟨b, e1, e2, e3⟩ <;> rw [e1] <;> simp [hw2]
  have a3 : EncAt h3 h.n 121 v1 out low (.int .u64 0) := by
    refine ⟨by rw [hh3, get_put_same (H.get_lt hq2)], ?_, a.byte, a.low64⟩
    rcases g2 with g | ⟨b, g1, g2, g3⟩
    · exact .inl g
    · have := hv2 _ _ _ _ g1
      exact .inr ⟨b, g1, g2, by rw [hh3, get_put_ne (by omega), g3]⟩
  obtain ⟨e', h4, v4, j1, j2, j3, j4⟩ := loop16 h.n 121 (.int .u64 0) 4 h3 v1 out low ⟨[.ptr p 0, .nils, .ptr h.n 0, .int .i64 0, .tup []], 4, .int .i64 0⟩ a3 (by omega) (by omega) (by omega) (by simp) (by simp)
  have hn3 : h3.n = h2.n := by rw [hh3, H.n_put]
  have hel := emits_length 4 out low
  rcases j3.grow with ⟨g1, g2⟩ | ⟨b, rfl, g2', g3⟩
  · rw [g2] at hel; simp at hel
  · obtain ⟨e2, m1, m2, m3⟩ := trim16 h.n b 121 (.int .u64 (emits 4 out low).2) (.int .u64 0) _ h4 j3.cell g3 (by omega) _ ⟨[e'.s [0, 2, 3, 4, 5] 0, e'.s [0, 2, 3, 4, 5] 2, .ptr h.n 0, e'.s [0, 2, 3, 4, 5] 4, .int .i64 (emits 4 out low).1.length], 5, .int .i64 (emits 4 out low).1.length⟩ (Nat.le_refl _) (by simp) (by simp)
    have hle := trimN_le (emits 4 out low).1 (emits 4 out low).1.length
    rw [← hel]
    obtain ⟨n, hn⟩ : ∃ n, n = trimN (emits 4 out low).1 (emits 4 out low).1.length := ⟨_, rfl⟩
    rw [← hn] at m3 hle ⊢
    have hsl : slS 1 (.sl b 0 (emits 4 out low).1.length (.op 1)) none (some (.int .i64 n)) none = some (.sl b 0 n (.op 1)) := by
      have hle' : n ≤ (emits 4 out low).1.length := hle
      simp [slS, sbV, optB, hle']
    refine ⟨h4, b, ?_, g3, j3.byte, ?_, by have := j4.fr.1; omega, fun c hc => ?_⟩
    · rw [w47, f47, s47]
      simp [rd1_of a.cell, hbl, hbx, rd1_of hq1, rd1_of hp1, hap, hst, grow_ck a.grow, j1, j2, rd1_of j3.cell, m1, m2, m3, hsl]
    · rcases j4.nw with e | e
      · have := hv2 b; rw [← e] at this; have := this _ _ _ rfl; omega
      · have := e b _ _ _ rfl; omega
    · rw [j4.fr.2 c (by omega) ?_, hh3, get_put_ne (by omega), hf2 c (by omega), hh1, get_new_lt hc]
      rintro (e | ⟨o, n, k, e⟩)
      · omega
      · have := hv2 _ _ _ _ e; omega
end Go.Proofs.Ytfjghgjkpenanaa
/- EqBytes. -/
set_option linter.unusedVariables false
set_option linter.unusedSimpArgs false
namespace Go.Proofs.Ytfjghgjkpenanaa
open Go Go.Zf

/-- A slice's elements: its cells hold these bytes. -/
def SlAt (h : H) (v : V) (l : List Nat) : Prop :=
  (v = .nils ∧ l = []) ∨ ∃ b o k c e ro, v = .sl b o l.length k ∧ h.get b = some (.cells c e ro) ∧ ∀ i, i < l.length → c[o + i]? = (bytesV l)[i]?

theorem loop15 {h : H} {v w : V} {l : List Nat} (hv : SlAt h v l) (hw : SlAt h w l) (hlen : l.length < 9223372036854775807) : ∀ (k i : Nat) (e : E), k + i = l.length →
    e.s [0, 1, 4, 5] 0 = v → e.s [0, 1, 4, 5] 1 = w → e.s [0, 1, 4, 5] 5 = .int .i64 i →
    ∃ e', loopZ (l21_0 KW loopZ) e h = some ⟨.ex 0, e', h⟩
  | 0, i, e, hk, h0, h1, h5 => by
    have hlv : lnS v = some (.int .i64 l.length) := by
      rcases hv with ⟨rfl, rfl⟩ | ⟨b, o, k, c, e, ro, rfl, _, _⟩ <;> simp
    rw [loopZ_eq]
    simp [l21_0, h0, h1, h5, hlv, show ¬ (i : Int) < l.length by omega, show ¬ i < l.length by omega]
  | k + 1, i, e, hk, h0, h1, h5 => by
    have hil : i < l.length := by omega
    obtain ⟨x, hx⟩ : ∃ x, l[i]? = some x := ⟨l[i], by simp [hil]⟩
    have hbx : (bytesV l)[i]? = some (.int .u8 x) := by simp [bytesV, hx]
    have one : ∀ {v : V}, SlAt h v l → ∃ b o, iaS 1 v (.int .i64 i) = some (.ptr b o) ∧ h.rd1 b o = some (.int .u8 x) := by
      intro v hv
      rcases hv with ⟨rfl, rfl⟩ | ⟨b, o, k, c, e, ro, rfl, hb, hc⟩
      · simp at hil
      · exact ⟨b, o + i, by simp [hil], by rw [rd1_of hb, hc i hil, hbx]⟩
    obtain ⟨b1, o1, a1, a2⟩ := one hv
    obtain ⟨b2, o2, a3, a4⟩ := one hw
    have hlv : lnS v = some (.int .i64 l.length) := by
      rcases hv with ⟨rfl, rfl⟩ | ⟨b, o, k, c, e, ro, rfl, _, _⟩ <;> simp
    have hwr : IntKind.i64.wrap ((i : Int) + 1) = ((i + 1 : Nat) : Int) := by rw [wi64 (by omega) (by omega)]; simp
    rw [loopZ_eq]
    simp [l21_0, h0, h1, h5, hlv, show (i : Int) < l.length by omega, hil, a1, a2, a3, a4]
    rw [hwr]
    exact loop15 hv hw hlen k (i + 1) ⟨[v, w, e.s [0, 1, 4, 5] 4, .int .i64 ((i + 1 : Nat) : Int)], 5, .int .i64 ((i + 1 : Nat) : Int)⟩ (by omega) (by simp) (by simp) (by simp)
theorem eq15_ok {h : H} {v w : V} {l : List Nat} (hv : SlAt h v l) (hw : SlAt h w l) (hlen : l.length < 9223372036854775807) :
    KW 21 [v, w] h = some (.ret (.bool true), h) := by
  have hl : ∀ {v : V}, SlAt h v l → lnS v = some (.int .i64 l.length) := by
    intro v hv
    rcases hv with ⟨rfl, rfl⟩ | ⟨b, o, k, c, e, ro, rfl, _, _⟩ <;> simp
  obtain ⟨e', he⟩ := loop15 hv hw hlen l.length 0 ⟨[v, w, .bool false, .int .i64 0], 5, .int .i64 0⟩ (by omega) (by simp) (by simp) (by simp)
  rw [w21, f21, s21]
  simp [hl hv, hl hw, he]
end Go.Proofs.Ytfjghgjkpenanaa
/- The decoders: shift and next, Value, Take. -/
set_option linter.unusedVariables false
set_option linter.unusedSimpArgs false
namespace Go.Proofs.Ytfjghgjkpenanaa
open Go Go.Zf

/-- Nothing but one block changes. -/
def Only (h h' : H) (p : Nat) : Prop := h'.n = h.n ∧ ∀ c, c ≠ p → h'.get c = h.get c
theorem Only.refl (h : H) (p : Nat) : Only h h p := ⟨rfl, fun _ _ => rfl⟩
theorem Only.trans {h h1 h2 : H} {p : Nat} (a : Only h h1 p) (b : Only h1 h2 p) : Only h h2 p :=
  ⟨b.1.trans a.1, fun c hc => by rw [b.2 c hc, a.2 c hc]⟩
theorem Only.put (h : H) (p : Nat) (x : Blk) : Only h (h.put p x) p := ⟨H.n_put _ _ _, fun c hc => get_put_ne hc⟩

/-- A slice with bytes, that a decoder reads, in a block that is none of X (X: what is written). -/
def OSl (h : H) (X : Nat → Prop) (v : V) (l : List Nat) : Prop :=
  (v = .nils ∧ l = []) ∨ (∃ b o k, v = .sl b o 0 k ∧ l = []) ∨
  ∃ b o c e ro, v = .sl b o l.length (.op 1) ∧ ¬ X b ∧ h.get b = some (.cells c e ro) ∧ ∀ i, i < l.length → c[o + i]? = (bytesV l)[i]?
theorem OSl.only {h h' : H} {X : Nat → Prop} {p : Nat} {v : V} {l : List Nat} (a : OSl h X v l) (o : Only h h' p) (hX : X p) : OSl h' X v l := by
  rcases a with a | a | ⟨b, o', c, e, ro, h1, h2, h3, h4⟩
  · exact .inl a
  · exact .inr (.inl a)
  · exact .inr (.inr ⟨b, o', c, e, ro, h1, h2, by rw [o.2 b (fun e => h2 (e ▸ hX)), h3], h4⟩)

/-- The program's decoder: bytes that are not read yet, code, range. -/
structure DecAt (h : H) (X : Nat → Prop) (p : Nat) (v : V) (rest : List Nat) (code rng : Nat) : Prop where
  cell : h.get p = some (.cells [v, .int .u32 code, .int .u32 rng] 123 false)
  own : X p
  sl : OSl h X v rest
  byte : ∀ x ∈ rest, x < 256
/-- What code and range of a decoder are at any time. -/
def DInv (code rng : Nat) : Prop := 16777216 ≤ rng ∧ rng < 4294967296 ∧ code < rng
def value (code rng : Nat) : Nat := min (code / (rng / 32768)) 32767

theorem value35_ok {h : H} {X : Nat → Prop} {p : Nat} {v : V} {rest : List Nat} {code rng : Nat} (a : DecAt h X p v rest code rng) (inv : DInv code rng) :
    KW 93 [.ptr p 0] h = some (.ret (.int .u32 (value code rng)), h) := by
  obtain ⟨i1, i2, i3⟩ := inv
  have e1 : (rng : Int).fdiv (2 ^ (min 15 IntKind.u32.bits)) = ((rng / 32768 : Nat) : Int) := by
    rw [Int.fdiv_eq_ediv_of_nonneg _ (by decide)]; rfl
  obtain ⟨q, hq⟩ : ∃ q, q = rng / 32768 := ⟨_, rfl⟩
  have hq0 : ¬ (q = 0) := by omega
  have e2 : (code : Int).tdiv (q : Int) = ((code / q : Nat) : Int) := by rw [Int.tdiv_eq_ediv_of_nonneg (by omega)]; rfl
  have hle : code / q ≤ code := Nat.div_le_self _ _
  rw [← hq] at e1
  rw [value, ← hq]
  obtain ⟨x, hx⟩ : ∃ x, x = code / q := ⟨_, rfl⟩
  rw [← hx] at e2 hle ⊢
  have e3 : IntKind.u32.wrap (x : Int) = x := wrap32 (by omega) (by omega)
  have e4 : minV [.int .u32 (x : Int), .int .u32 32767] = some (.int .u32 ((min x 32767 : Nat) : Int)) := by
    simp [minV, foldV, min2V]
    split <;> omega
  rw [w93, f93, s93]
  simp [rd1_of a.cell, e1, hq0, e2, e3, e4]

theorem shift33_ok {h : H} {X : Nat → Prop} {p : Nat} {v : V} {rest : List Nat} {code rng : Nat} (a : DecAt h X p v rest code rng) (hc : code < 16777216) :
    ∃ h' v', KW 78 [.ptr p 0] h = some (.ret (.tup []), h') ∧ DecAt h' X p v' rest.tail (code * 256 + rest.headD 0) rng ∧ Only h h' p := by
  have hpl := H.get_lt a.cell
  obtain ⟨d, hd⟩ : ∃ d, d = code * 256 := ⟨_, rfl⟩
  have m1 : IntKind.u32.wrap ((code : Int) * 2 ^ (min 8 IntKind.u32.bits)) = (d : Int) := by
    rw [show IntKind.u32.bits = 32 from rfl, wrap32 (by simp; omega) (by simp; omega), hd]; simp
  have hw1 := fun x => wr1_of a.cell (o := 1) (by simp) x
  obtain ⟨h1, hh1⟩ : ∃ h1, h1 = h.put p (.cells [v, .int .u32 (d : Int), .int .u32 rng] 123 false) := ⟨_, rfl⟩
  have hp1 : h1.get p = some (.cells [v, .int .u32 (d : Int), .int .u32 rng] 123 false) := by rw [hh1]; exact get_put_same hpl
  have o1 : Only h h1 p := by rw [hh1]; exact Only.put _ _ _
  rw [← hd]
  rcases a.sl with ⟨rfl, rfl⟩ | ⟨b, o, k, rfl, rfl⟩ | ⟨b, o, c, e, ro, rfl, hbX, hb, hcs⟩
  · refine ⟨h1, .nils, ?_, ⟨by simpa using hp1, a.own, .inl ⟨rfl, rfl⟩, by simp⟩, o1⟩
    rw [w78, f78, s78]
    simp [rd1_of a.cell, hw1, m1, ← hh1, rd1_of hp1]
  · refine ⟨h1, .sl b o 0 k, ?_, ⟨by simpa using hp1, a.own, .inr (.inl ⟨b, o, k, rfl, rfl⟩), by simp⟩, o1⟩
    rw [w78, f78, s78]
    simp [rd1_of a.cell, hw1, m1, ← hh1, rd1_of hp1]
  · cases rest with
    | nil =>
      simp only [List.length_nil] at hh1 hp1
      refine ⟨h1, .sl b o 0 (.op 1), ?_, ⟨by simpa using hp1, a.own, .inr (.inl ⟨b, o, _, rfl, rfl⟩), by simp⟩, o1⟩
      rw [w78, f78, s78]
      simp [rd1_of a.cell, hw1, m1, ← hh1, rd1_of hp1]
    | cons x r =>
      have hbp : b ≠ p := fun e => hbX (e ▸ a.own)
      have hx : x < 256 := a.byte x (by simp)
      have hcx : c[o]? = some (.int .u8 x) := by have := hcs 0 (by simp); simpa [bytesV] using this
      have hb1 : h1.get b = some (.cells c e ro) := by rw [o1.2 b hbp, hb]
      have ho : IntKind.u32.wrap ((d % 2 ^ IntKind.u32.bits ||| x % 2 ^ IntKind.u32.bits : Nat) : Int) = ((d + x : Nat) : Int) := by
        rw [show IntKind.u32.bits = 32 from rfl, Nat.mod_eq_of_lt (show d < 2 ^ 32 by omega), Nat.mod_eq_of_lt (show x < 2 ^ 32 by omega)]
        have e1 : d ||| x = d + x := by
          rw [hd, Nat.mul_comm, show (256 : Nat) = 2 ^ 8 from rfl, Nat.two_pow_add_eq_or_of_lt (by omega)]
        rw [e1, wrap32 (by omega) (by omega)]
      have mx : IntKind.u32.wrap (x : Int) = x := wrap32 (by omega) (by omega)
      have hw2 := fun x => wr1_of hp1 (o := 1) (by simp) x
      obtain ⟨w, hw⟩ : ∃ w, w = d + x := ⟨_, rfl⟩
      rw [← hw] at ho
      obtain ⟨h2, hh2⟩ : ∃ h2, h2 = h1.put p (.cells [.sl b o (x :: r).length (.op 1), .int .u32 (w : Int), .int .u32 rng] 123 false) := ⟨_, rfl⟩
      have hp2 : h2.get p = some (.cells [.sl b o (x :: r).length (.op 1), .int .u32 (w : Int), .int .u32 rng] 123 false) := by rw [hh2]; exact get_put_same (H.get_lt hp1)
      have o2 : Only h1 h2 p := by rw [hh2]; exact Only.put _ _ _
      have hw3 := fun x => wr1_of hp2 (o := 0) (by simp) x
      have hsl : slS 1 (.sl b o (r.length + 1) (.op 1)) (some (.int .i64 1)) none none = some (.sl b (o + 1) r.length (.op 1)) := by
        simp [slS, sbV, optB, show (1 : Int) ≤ (r.length : Int) + 1 by omega]
      obtain ⟨h3, hh3⟩ : ∃ h3, h3 = h2.put p (.cells [.sl b (o + 1) r.length (.op 1), .int .u32 (w : Int), .int .u32 rng] 123 false) := ⟨_, rfl⟩
      have o3 : Only h2 h3 p := by rw [hh3]; exact Only.put _ _ _
      have hp3 : h3.get p = some (.cells [.sl b (o + 1) r.length (.op 1), .int .u32 (w : Int), .int .u32 rng] 123 false) := by rw [hh3]; exact get_put_same (H.get_lt hp2)
      simp only [List.length_cons] at hh1 hp1 hh2 hp2
      refine ⟨h3, .sl b (o + 1) r.length (.op 1), ?_, ⟨by simpa [← hw] using hp3, a.own, .inr (.inr ⟨b, o + 1, c, e, ro, rfl, hbX, by rw [o3.2 b hbp, o2.2 b hbp, hb1], fun i hi => ?_⟩), fun y hy => a.byte y (by simp at hy; simp [hy])⟩, o1.trans (o2.trans o3)⟩
      · rw [w78, f78, s78]
        simp [rd1_of a.cell, hw1, m1, ← hh1, rd1_of hp1, rd1_of hb1, hcx, mx, ho, hw2, ← hh2, rd1_of hp2, hw3, hsl, ← hh3]
      · have := hcs (i + 1) (by simp at hi ⊢; omega)
        simp [bytesV] at this ⊢
        rw [show o + 1 + i = o + (i + 1) by omega, this]

/-- The reference's decoder. -/
structure RefAt (h : H) (X : Nat → Prop) (p : Nat) (at_ : Nat) (rest : List Nat) (code rng : Nat) : Prop where
  ex : ∃ v B, h.get p = some (.cells [v, .int .i64 at_, .int .u64 code, .int .u64 rng] 125 false) ∧ OSl h X v B ∧ rest = B.drop at_ ∧ ∀ x ∈ B, x < 256
  own : X p
  far : at_ < 4611686018427387904

theorem next34_ok {h : H} {X : Nat → Prop} {p at_ : Nat} {v : V} {B : List Nat} {code rng : V} (hp : h.get p = some (.cells [v, .int .i64 at_, code, rng] 125 false)) (hs : OSl h X v B) (hX : X p) (hB : ∀ x ∈ B, x < 256) (far : at_ < 4611686018427387904) :
    KW 79 [.ptr p 0] h = some (.ret (.int .u64 ((B.drop at_).headD 0)), h.put p (.cells [v, .int .i64 (at_ + 1 : Nat), code, rng] 125 false)) := by
  have hpl := H.get_lt hp
  have hw1 := fun x => wr1_of hp (o := 1) (by simp) x
  have m1 : IntKind.i64.wrap ((at_ : Int) + 1) = ((at_ + 1 : Nat) : Int) := by rw [wi64 (by omega) (by omega)]; simp
  obtain ⟨a1, ha1⟩ : ∃ a1, a1 = at_ + 1 := ⟨_, rfl⟩
  rw [← ha1] at m1 ⊢
  obtain ⟨h1, hh1⟩ : ∃ h1, h1 = h.put p (.cells [v, .int .i64 (a1 : Int), code, rng] 125 false) := ⟨_, rfl⟩
  have hp1 : h1.get p = some (.cells [v, .int .i64 (a1 : Int), code, rng] 125 false) := by rw [hh1]; exact get_put_same hpl
  have o1 : Only h h1 p := by rw [hh1]; exact Only.put _ _ _
  have hs1 := hs.only o1 hX
  rcases hs1 with ⟨rfl, rfl⟩ | ⟨b, o, k, rfl, rfl⟩ | ⟨b, o, c, e, ro, rfl, hbp, hb, hcs⟩
  · rw [w79, f79, s79]
    simp [rd1_of hp, hw1, m1, ← hh1, rd1_of hp1]
    rw [if_neg (by omega)]; simp
  · rw [w79, f79, s79]
    simp [rd1_of hp, hw1, m1, ← hh1, rd1_of hp1]
    rw [if_neg (by omega)]; simp
  · rw [w79, f79, s79]
    by_cases hi : at_ < B.length
    · have hcx := hcs at_ hi
      have hx : B[at_] < 256 := hB _ (by simp)
      have e1 : (B.drop at_).headD 0 = B[at_] := by rw [List.drop_eq_getElem_cons hi]; rfl
      obtain ⟨x, hxx⟩ : ∃ x, x = B[at_] := ⟨_, rfl⟩
      rw [e1]
      have e2 : (bytesV B)[at_]? = some (.int .u8 x) := by simp [bytesV, hi, hxx]
      rw [← hxx] at hx ⊢
      rw [e2] at hcx
      have m2 : IntKind.u64.wrap (x : Int) = x := wrap64 (by omega) (by omega)
      simp [rd1_of hp, hw1, m1, ← hh1, rd1_of hp1, hi, rd1_of hb, hcx, m2]
    · have e1 : (B.drop at_).headD 0 = 0 := by rw [List.drop_of_length_le (by omega)]; rfl
      rw [e1]
      simp [rd1_of hp, hw1, m1, ← hh1, rd1_of hp1, hi]

def drenorm : Nat → List Nat → Nat → Nat → List Nat × Nat × Nat
  | 0, rest, code, wide => (rest, code, wide)
  | n + 1, rest, code, wide => if wide < 16777216 then drenorm n rest.tail (code * 256 + rest.headD 0) (wide * 256) else (rest, code, wide)
theorem headD_lt {l : List Nat} (h : ∀ x ∈ l, x < 256) : l.headD 0 < 256 := by
  cases l with
  | nil => simp
  | cons a l => exact h a (by simp)

theorem loop24 (X : Nat → Prop) (p : Nat) (rng : Nat) : ∀ (n : Nat) (h : H) (v : V) (rest : List Nat) (code wide : Nat) (e : E), DecAt h X p v rest code rng → code < wide → 16777216 ≤ wide * 256 ^ n → wide < 4294967296 →
    e.s [0, 1, 2, 6, 7, 8, 9] 0 = .ptr p 0 → e.s [0, 1, 2, 6, 7, 8, 9] 9 = .int .u32 wide →
    ∃ e' h' v', loopZ (l83_0 KW loopZ) e h = some ⟨.ex 0, e', h'⟩ ∧ e'.s [0, 1, 2, 6, 7, 8, 9] 0 = .ptr p 0 ∧ e'.s [0, 1, 2, 6, 7, 8, 9] 9 = .int .u32 (drenorm n rest code wide).2.2 ∧
      DecAt h' X p v' (drenorm n rest code wide).1 (drenorm n rest code wide).2.1 rng ∧ Only h h' p
  | n, h, v, rest, code, wide, e, a, hcw, hw, hw32, he0, he9 => by
    by_cases hc : wide < 16777216
    · cases n with
      | zero => simp at hw; omega
      | succ n =>
        obtain ⟨h1, v1, k1, k2, k3⟩ := shift33_ok a (by omega)
        have hm : IntKind.u32.wrap ((wide : Int) * 2 ^ (min 8 IntKind.u32.bits)) = ((wide * 256 : Nat) : Int) := by
          rw [show IntKind.u32.bits = 32 from rfl, wrap32 (by simp; omega) (by simp; omega)]; simp
        have hb := headD_lt a.byte
        rw [loopZ_eq]
        simp [l83_0, he0, he9, show (wide : Int) ≤ 16777215 by omega, k1]
        rw [hm]
        obtain ⟨e', h', v', i1, i2, i3, i4, i5⟩ := loop24 X p rng n h1 v1 _ _ (wide * 256) ⟨[.ptr p 0, e.s [0, 1, 2, 6, 7, 8, 9] 1, e.s [0, 1, 2, 6, 7, 8, 9] 2, e.s [0, 1, 2, 6, 7, 8, 9] 6, e.s [0, 1, 2, 6, 7, 8, 9] 7, e.s [0, 1, 2, 6, 7, 8, 9] 8, .int .u32 ((wide * 256 : Nat) : Int)], 9, .int .u32 ((wide * 256 : Nat) : Int)⟩ k2
          (by omega) (by rw [Nat.mul_assoc, ← Nat.pow_succ']; exact hw) (by omega) (by simp) (by simp)
        simp only [drenorm, if_pos hc]
        exact ⟨e', h', i1, i2, i3, ⟨v', i4⟩, k3.trans i5⟩
    · rw [loopZ_eq]
      simp [l83_0, he0, he9, show ¬ (wide : Int) ≤ 16777215 by omega]
      have hr : drenorm n rest code wide = (rest, code, wide) := by cases n <;> simp [drenorm, hc]
      rw [hr]
      exact ⟨_, _, ⟨rfl, rfl⟩, by simp, by simp, ⟨v, a⟩, Only.refl _ _⟩

theorem loop25 (X : Nat → Prop) (p : Nat) : ∀ (n : Nat) (h : H) (at_ : Nat) (rest : List Nat) (code wide : Nat) (e : E), RefAt h X p at_ rest code wide → code < wide → 16777216 ≤ wide * 256 ^ n → wide < 4294967296 → at_ + n < 4611686018427387904 →
    e.s [0, 1, 2, 6, 7, 9, 10] 0 = .ptr p 0 →
    ∃ e' h' at', loopZ (l73_0 KW loopZ) e h = some ⟨.ex 0, e', h'⟩ ∧ e'.s [0, 1, 2, 6, 7, 9, 10] 0 = .ptr p 0 ∧ at' ≤ at_ + n ∧
      RefAt h' X p at' (drenorm n rest code wide).1 (drenorm n rest code wide).2.1 (drenorm n rest code wide).2.2 ∧ Only h h' p
  | n, h, at_, rest, code, wide, e, a, hcw, hw, hw32, hat, he0 => by
    obtain ⟨⟨v, B, hp, hs, hr, hB⟩, hX, far⟩ := a
    by_cases hc : wide < 16777216
    · cases n with
      | zero => simp at hw; omega
      | succ n =>
        have k1 := next34_ok hp hs hX hB far
        rw [← hr] at k1
        have hb : rest.headD 0 < 256 := by
          rw [hr]; exact headD_lt fun x hx => hB x (List.mem_of_mem_drop hx)
        obtain ⟨x, hx⟩ : ∃ x, x = rest.headD 0 := ⟨_, rfl⟩
        obtain ⟨a1, ha1⟩ : ∃ a1 : Nat, a1 = at_ + 1 := ⟨_, rfl⟩
        rw [← hx, ← ha1] at k1
        rw [← hx] at hb
        obtain ⟨h1, hh1⟩ : ∃ h1, h1 = h.put p (.cells [v, .int .i64 a1, .int .u64 code, .int .u64 wide] 125 false) := ⟨_, rfl⟩
        have o1 : Only h h1 p := by rw [hh1]; exact Only.put _ _ _
        have hp1 : h1.get p = some (.cells [v, .int .i64 a1, .int .u64 code, .int .u64 wide] 125 false) := by rw [hh1]; exact get_put_same (H.get_lt hp)
        rw [← hh1] at k1
        have m1 : IntKind.u64.wrap ((code : Int) * 256) = (code : Int) * 256 := wrap64 (by omega) (by omega)
        have m2 : IntKind.u64.wrap ((code : Int) * 256 + x) = ((code * 256 + x : Nat) : Int) := by rw [wrap64 (by omega) (by omega)]; simp
        have m3 : IntKind.u64.wrap ((wide : Int) * 256) = ((wide * 256 : Nat) : Int) := by rw [wrap64 (by omega) (by omega)]; simp
        obtain ⟨cd, hcd⟩ : ∃ cd, cd = code * 256 + x := ⟨_, rfl⟩
        obtain ⟨wd, hwd⟩ : ∃ wd, wd = wide * 256 := ⟨_, rfl⟩
        rw [← hcd] at m2
        rw [← hwd] at m3
        have hw2 := fun x => wr1_of hp1 (o := 2) (by simp) x
        obtain ⟨h2, hh2⟩ : ∃ h2, h2 = h1.put p (.cells [v, .int .i64 a1, .int .u64 cd, .int .u64 wide] 125 false) := ⟨_, rfl⟩
        have o2 : Only h1 h2 p := by rw [hh2]; exact Only.put _ _ _
        have hp2 : h2.get p = some (.cells [v, .int .i64 a1, .int .u64 cd, .int .u64 wide] 125 false) := by rw [hh2]; exact get_put_same (H.get_lt hp1)
        have hw3 := fun x => wr1_of hp2 (o := 3) (by simp) x
        obtain ⟨h3, hh3⟩ : ∃ h3, h3 = h2.put p (.cells [v, .int .i64 a1, .int .u64 cd, .int .u64 wd] 125 false) := ⟨_, rfl⟩
        have o3 : Only h2 h3 p := by rw [hh3]; exact Only.put _ _ _
        have hp3 : h3.get p = some (.cells [v, .int .i64 a1, .int .u64 cd, .int .u64 wd] 125 false) := by rw [hh3]; exact get_put_same (H.get_lt hp2)
        have oo := o1.trans (o2.trans o3)
        have a3 : RefAt h3 X p a1 rest.tail cd wd := ⟨⟨v, B, hp3, hs.only oo hX, by rw [hr, List.tail_drop, ha1], hB⟩, hX, by omega⟩
        rw [loopZ_eq]
        simp [l73_0, he0, rd1_of hp, show (wide : Int) < 16777216 by omega, k1, rd1_of hp1, m1, m2, hw2, ← hh2, rd1_of hp2, m3, hw3, ← hh3]
        obtain ⟨e', h', at', i1, i2, i3, i4, i5⟩ := loop25 X p n h3 a1 rest.tail cd wd ⟨[.ptr p 0, e.s [0, 1, 2, 6, 7, 9, 10] 1, e.s [0, 1, 2, 6, 7, 9, 10] 2, e.s [0, 1, 2, 6, 7, 9, 10] 6, e.s [0, 1, 2, 6, 7, 9, 10] 7, e.s [0, 1, 2, 6, 7, 9, 10] 9, e.s [0, 1, 2, 6, 7, 9, 10] 10], 0, .ptr p 0⟩ a3
          (by omega) (by rw [hwd, Nat.mul_assoc, ← Nat.pow_succ']; exact hw) (by omega) (by omega) (by simp)
        simp only [drenorm, if_pos hc]
        rw [← hx, ← hcd, ← hwd]
        exact ⟨e', h', i1, i2, at', by omega, i4, oo.trans i5⟩
    · rw [loopZ_eq]
      simp [l73_0, he0, rd1_of hp, show ¬ (wide : Int) < 16777216 by omega]
      have hr' : drenorm n rest code wide = (rest, code, wide) := by cases n <;> simp [drenorm, hc]
      rw [hr']
      exact ⟨_, _, ⟨rfl, rfl⟩, by simp, at_, by omega, ⟨⟨v, B, hp, hs, hr, hB⟩, hX, far⟩, Only.refl _ _⟩
end Go.Proofs.Ytfjghgjkpenanaa
/- The decoders: Value, Take. -/
set_option linter.unusedVariables false
set_option linter.unusedSimpArgs false
namespace Go.Proofs.Ytfjghgjkpenanaa
open Go Go.Zf

theorem value21_ok {h : H} {X : Nat → Prop} {p : Nat} {v : V} {rest : List Nat} {code rng : Nat} (a : DecAt h X p v rest code rng) (inv : DInv code rng) :
    KW 81 [.ptr p 0] h = some (.ret (.tup [.int .u32 (value code rng), .int .i64 0]), h) := by
  have h1 := value35_ok a inv
  have hz : ¬ (rng = 0) := by have := inv.1; omega
  rw [w81, f81, s81]
  simp [rd1_of a.cell, hz, h1]

theorem value22_ok {h : H} {X : Nat → Prop} {p at_ : Nat} {rest : List Nat} {code rng : Nat} (a : RefAt h X p at_ rest code rng) (inv : DInv code rng) :
    KW 71 [.ptr p 0] h = some (.ret (.tup [.int .u32 (value code rng), .int .i64 0]), h) := by
  obtain ⟨⟨v, B, hp, hs, hr, hB⟩, hX, far⟩ := a
  obtain ⟨i1, i2, i3⟩ := inv
  have e1 : (rng : Int).tdiv 32768 = ((rng / 32768 : Nat) : Int) := by rw [Int.tdiv_eq_ediv_of_nonneg (by omega)]; rfl
  obtain ⟨q, hq⟩ : ∃ q, q = rng / 32768 := ⟨_, rfl⟩
  have hq0 : ¬ (q = 0) := by omega
  have e2 : (code : Int).tdiv (q : Int) = ((code / q : Nat) : Int) := by rw [Int.tdiv_eq_ediv_of_nonneg (by omega)]; rfl
  have hle : code / q ≤ code := Nat.div_le_self _ _
  rw [← hq] at e1
  rw [value, ← hq]
  obtain ⟨x, hx⟩ : ∃ x, x = code / q := ⟨_, rfl⟩
  rw [← hx] at e2 hle ⊢
  have e3 : IntKind.u64.wrap (x : Int) = x := wrap64 (by omega) (by omega)
  have e5 : IntKind.u64.wrap (q : Int) = q := wrap64 (by omega) (by omega)
  have e4 : minV [.int .u64 (x : Int), .int .u64 32767] = some (.int .u64 ((min x 32767 : Nat) : Int)) := by
    simp [minV, foldV, min2V]
    split <;> omega
  obtain ⟨y, hy⟩ : ∃ y, y = min x 32767 := ⟨_, rfl⟩
  have hyl : y ≤ 32767 := by omega
  rw [← hy] at e4 ⊢
  have e6 : IntKind.u32.wrap (y : Int) = y := wrap32 (by omega) (by omega)
  rw [w71, f71, s71]
  simp [rd1_of hp, e1, hq0, e2, e3, e4, e5, e6]

def take (rest : List Nat) (code rng lo hi : Nat) : List Nat × Nat × Nat := drenorm 3 rest (code - (part rng lo hi).1) (part rng lo hi).2

theorem take_part {code rng lo hi : Nat} (inv : DInv code rng) (h1 : lo ≤ value code rng) (h2 : value code rng < hi) (h3 : hi ≤ 32768) :
    (part rng lo hi).1 ≤ code ∧ code - (part rng lo hi).1 < (part rng lo hi).2 := by
  obtain ⟨i1, i2, i3⟩ := inv
  unfold value at h1 h2
  unfold part
  have hq : 512 ≤ rng / 32768 := by omega
  have hq2 : rng / 32768 * 32768 ≤ rng := by omega
  generalize rng / 32768 = q at *
  have d1 : q * (code / q) ≤ code := Nat.mul_div_le _ _
  have d2 : q * lo ≤ q * (code / q) := Nat.mul_le_mul_left _ (by omega)
  refine ⟨by simp only; omega, ?_⟩
  simp only
  split
  · omega
  · have h4 : code / q < hi := by omega
    have d3 : code < q * hi := by rw [Nat.mul_comm]; exact (Nat.div_lt_iff_lt_mul (by omega)).mp h4
    rw [Nat.mul_sub]
    omega

theorem drenorm_inv : ∀ {n : Nat} {rest : List Nat} {code wide : Nat}, 16777216 ≤ wide * 256 ^ n → wide < 4294967296 → code < wide → (∀ x ∈ rest, x < 256) →
    DInv (drenorm n rest code wide).2.1 (drenorm n rest code wide).2.2 ∧ ∀ x ∈ (drenorm n rest code wide).1, x < 256
  | 0, rest, code, wide, h1, h2, h3, h4 => ⟨⟨by simpa [drenorm] using h1, h2, h3⟩, h4⟩
  | n + 1, rest, code, wide, h1, h2, h3, h4 => by
    unfold drenorm
    split
    · have := headD_lt h4
      exact drenorm_inv (by rw [Nat.mul_assoc, ← Nat.pow_succ']; exact h1) (by omega) (by omega) fun x hx => h4 x (List.mem_of_mem_tail hx)
    · exact ⟨⟨by simp only; omega, h2, h3⟩, h4⟩
theorem take_inv {rest : List Nat} {code rng lo hi : Nat} (inv : DInv code rng) (h1 : lo ≤ value code rng) (h2 : value code rng < hi) (h3 : hi ≤ 32768) (hb : ∀ x ∈ rest, x < 256) :
    DInv (take rest code rng lo hi).2.1 (take rest code rng lo hi).2.2 ∧ ∀ x ∈ (take rest code rng lo hi).1, x < 256 := by
  obtain ⟨m1, m2⟩ := part_bounds inv.1 inv.2.1 (by omega : lo < hi) h3
  have := inv.2.1
  exact drenorm_inv (by omega) (by omega) (take_part inv h1 h2 h3).2 hb

theorem take24_ok {h : H} {X : Nat → Prop} {p : Nat} {v : V} {rest : List Nat} {code rng lo hi : Nat} (a : DecAt h X p v rest code rng) (inv : DInv code rng) (h1 : lo ≤ value code rng) (h2 : value code rng < hi) (h3 : hi ≤ 32768) :
    ∃ h' v', KW 83 [.ptr p 0, .int .u32 lo, .int .u32 hi] h = some (.ret (.int .i64 0), h') ∧
      DecAt h' X p v' (take rest code rng lo hi).1 (take rest code rng lo hi).2.1 (take rest code rng lo hi).2.2 ∧ Only h h' p := by
  have hv := value35_ok a inv
  obtain ⟨t1, t2⟩ := take_part inv h1 h2 h3
  obtain ⟨i1, i2, i3⟩ := inv
  obtain ⟨m1, m2⟩ := part_bounds i1 i2 (by omega : lo < hi) h3
  have hna := narrow_ok rng lo hi (by omega) (by omega) (by omega) (by omega) (by omega) h
  obtain ⟨vl, hvl⟩ : ∃ x, x = value code rng := ⟨_, rfl⟩
  rw [← hvl] at hv h1 h2
  obtain ⟨at_, hat⟩ : ∃ x, x = (part rng lo hi).1 := ⟨_, rfl⟩
  obtain ⟨wd, hwd⟩ : ∃ x, x = (part rng lo hi).2 := ⟨_, rfl⟩
  have e1 : (rng : Int) / 32768 * lo = (at_ : Int) := by rw [hat, part]; simp
  have e2 : (if (hi : Int) = 32768 then (rng : Int) - rng / 32768 * lo else rng / 32768 * (hi - lo)) = (wd : Int) := by
    rw [hwd, part]
    have := m1; rw [part] at this
    by_cases hc : hi = 32768
    · have hc' : (hi : Int) = 32768 := by omega
      simp only [if_pos hc, if_pos hc'] at *
      rw [Int.natCast_sub (by omega)]; simp
    · have hc' : ¬ (hi : Int) = 32768 := by omega
      simp only [if_neg hc, if_neg hc']
      rw [Int.natCast_mul, Int.natCast_sub (by omega)]; simp
  rw [← hat, ← hwd] at m1 t2
  rw [← hwd] at m2
  rw [← hat] at t1
  rw [e2, e1] at hna
  have htk : take rest code rng lo hi = drenorm 3 rest (code - at_) wd := by rw [take, ← hat, ← hwd]
  obtain ⟨cd, hcd⟩ : ∃ x, x = code - at_ := ⟨_, rfl⟩
  rw [← hcd] at t2 htk
  have mc : IntKind.u32.wrap ((code : Int) - at_) = (cd : Int) := by rw [wrap32 (by omega) (by omega)]; omega
  have hw1 := fun v => wr1_of a.cell (o := 1) (by simp) v
  obtain ⟨h1', hh1⟩ : ∃ h1, h1 = h.put p (.cells [v, .int .u32 (cd : Int), .int .u32 rng] 123 false) := ⟨_, rfl⟩
  have o1 : Only h h1' p := by rw [hh1]; exact Only.put _ _ _
  have a1 : DecAt h1' X p v rest cd rng := ⟨by rw [hh1]; exact get_put_same (H.get_lt a.cell), a.own, a.sl.only o1 a.own, a.byte⟩
  obtain ⟨e', h', v', k1, k2, k3, k4, k5⟩ := loop24 X p rng 3 h1' v rest cd wd ⟨[.ptr p 0, .int .u32 lo, .int .u32 hi, .int .i64 0, .int .u32 vl, .int .u32 at_, .int .u32 wd], 0, .ptr p 0⟩ a1 (by omega) (by omega) (by omega) (by simp) (by simp)
  rw [htk]
  obtain ⟨r, hr⟩ : ∃ r, r = drenorm 3 rest cd wd := ⟨_, rfl⟩
  rw [← hr] at k3 k4 ⊢
  have hw3 := fun v => wr1_of k4.cell (o := 2) (by simp) v
  have o3 := Only.put h' p (.cells [v', .int .u32 r.2.1, .int .u32 r.2.2] 123 false)
  refine ⟨h'.put p (.cells [v', .int .u32 r.2.1, .int .u32 r.2.2] 123 false), v', ?_, ⟨get_put_same (H.get_lt k4.cell), k4.own, k4.sl.only o3 k4.own, k4.byte⟩, o1.trans (k5.trans o3)⟩
  rw [w83, f83, s83]
  simp only [u32] at hna
  have hz : ¬ (rng = 0) := by omega
  have z1 : ¬ ((vl : Int) < lo) := by omega
  have z1' : ¬ (vl < lo) := by omega
  have z2 : ¬ ((hi : Int) ≤ vl) := by omega
  have z2' : ¬ (hi ≤ vl) := by omega
  have z3 : ¬ ((32768 : Int) < hi) := by omega
  have z3' : ¬ (32768 < hi) := by omega
  simp [rd1_of a.cell, hz, hv, z1, z1', z2, z2', z3, z3', hna, hw1, mc, ← hh1, k1, k2, k3, hw3]

theorem take24_no {h : H} {X : Nat → Prop} {p : Nat} {v : V} {rest : List Nat} {code rng lo hi : Nat} (a : DecAt h X p v rest code rng) (inv : DInv code rng) (no : ¬ (lo ≤ value code rng ∧ value code rng < hi ∧ hi ≤ 32768)) :
    KW 83 [.ptr p 0, .int .u32 lo, .int .u32 hi] h = some (.ret (.int .i64 2), h) := by
  have hv := value35_ok a inv
  obtain ⟨i1, i2, i3⟩ := inv
  obtain ⟨vl, hvl⟩ : ∃ x, x = value code rng := ⟨_, rfl⟩
  rw [← hvl] at hv no
  have hz : ¬ (rng = 0) := by omega
  rw [w83, f83, s83]
  by_cases c1 : vl < lo
  · have c1' : (vl : Int) < lo := by omega
    simp [rd1_of a.cell, hz, hv, c1, c1']
  · have c1' : ¬ ((vl : Int) < lo) := by omega
    by_cases c2 : hi ≤ vl
    · have c2' : (hi : Int) ≤ vl := by omega
      simp [rd1_of a.cell, hz, hv, c1, c1', c2, c2']
    · have c2' : ¬ ((hi : Int) ≤ vl) := by omega
      have c3 : 32768 < hi := by omega
      have c3' : (32768 : Int) < hi := by omega
      simp [rd1_of a.cell, hz, hv, c1, c1', c2, c2', c3, c3']

theorem take25_ok {h : H} {X : Nat → Prop} {p at_ : Nat} {rest : List Nat} {code rng lo hi : Nat} (a : RefAt h X p at_ rest code rng) (far : at_ + 3 < 4611686018427387904) (inv : DInv code rng) (h1 : lo ≤ value code rng) (h2 : value code rng < hi) (h3 : hi ≤ 32768) :
    ∃ h' at', KW 73 [.ptr p 0, .int .u32 lo, .int .u32 hi] h = some (.ret (.int .i64 0), h') ∧ at' ≤ at_ + 3 ∧
      RefAt h' X p at' (take rest code rng lo hi).1 (take rest code rng lo hi).2.1 (take rest code rng lo hi).2.2 ∧ Only h h' p := by
  have hv := value22_ok a inv
  obtain ⟨⟨v, B, hp, hs, hr, hB⟩, hX, far0⟩ := a
  obtain ⟨t1, t2⟩ := take_part inv h1 h2 h3
  obtain ⟨i1, i2, i3⟩ := inv
  obtain ⟨m1, m2⟩ := part_bounds i1 i2 (by omega : lo < hi) h3
  have hna := part30_ok i1 i2 (by omega : lo < hi) h3 h
  obtain ⟨vl, hvl⟩ : ∃ x, x = value code rng := ⟨_, rfl⟩
  rw [← hvl] at hv h1 h2
  have htk : take rest code rng lo hi = drenorm 3 rest (code - (part rng lo hi).1) (part rng lo hi).2 := rfl
  obtain ⟨ax, hat⟩ : ∃ x, x = (part rng lo hi).1 := ⟨_, rfl⟩
  obtain ⟨wd, hwd⟩ : ∃ x, x = (part rng lo hi).2 := ⟨_, rfl⟩
  rw [← hat, ← hwd] at m1 t2 hna htk
  rw [← hwd] at m2
  rw [← hat] at t1
  obtain ⟨cd, hcd⟩ : ∃ x, x = code - ax := ⟨_, rfl⟩
  rw [← hcd] at t2 htk
  have mc : IntKind.u64.wrap ((code : Int) - ax) = (cd : Int) := by rw [wrap64 (by omega) (by omega)]; omega
  have hw1 := fun v => wr1_of hp (o := 2) (by simp) v
  obtain ⟨h0, hh0⟩ : ∃ h1, h1 = h.put p (.cells [v, .int .i64 at_, .int .u64 (cd : Int), .int .u64 rng] 125 false) := ⟨_, rfl⟩
  have o0 : Only h h0 p := by rw [hh0]; exact Only.put _ _ _
  have hp0 : h0.get p = some (.cells [v, .int .i64 at_, .int .u64 (cd : Int), .int .u64 rng] 125 false) := by rw [hh0]; exact get_put_same (H.get_lt hp)
  have hw2 := fun v => wr1_of hp0 (o := 3) (by simp) v
  obtain ⟨h1', hh1⟩ : ∃ h1, h1 = h0.put p (.cells [v, .int .i64 at_, .int .u64 (cd : Int), .int .u64 wd] 125 false) := ⟨_, rfl⟩
  have o1 : Only h0 h1' p := by rw [hh1]; exact Only.put _ _ _
  have hp1 : h1'.get p = some (.cells [v, .int .i64 at_, .int .u64 (cd : Int), .int .u64 wd] 125 false) := by rw [hh1]; exact get_put_same (H.get_lt hp0)
  have a1 : RefAt h1' X p at_ rest cd wd := ⟨⟨v, B, hp1, hs.only (o0.trans o1) hX, hr, hB⟩, hX, far0⟩
  obtain ⟨e', h', at', k1, k2, k3, k4, k5⟩ := loop25 X p 3 h1' at_ rest cd wd ⟨[.ptr p 0, .int .u32 lo, .int .u32 hi, .int .i64 0, .int .u32 vl, .int .u64 ax, .int .u64 wd], 0, .ptr p 0⟩ a1 (by omega) (by omega) (by omega) far (by simp)
  rw [htk]
  refine ⟨h', at', ?_, k3, k4, o0.trans (o1.trans k5)⟩
  rw [w73, f73, s73]
  have z1 : ¬ ((vl : Int) < lo) := by omega
  have z1' : ¬ (vl < lo) := by omega
  have z2 : ¬ ((hi : Int) ≤ vl) := by omega
  have z2' : ¬ (hi ≤ vl) := by omega
  have z3 : ¬ ((32768 : Int) < hi) := by omega
  have z3' : ¬ (32768 < hi) := by omega
  simp [rd1_of hp, hv, z1, z1', z2, z2', z3, z3', hna, hw1, mc, ← hh0, hw2, ← hh1, k1, k2]

theorem take25_no {h : H} {X : Nat → Prop} {p at_ : Nat} {rest : List Nat} {code rng lo hi : Nat} (a : RefAt h X p at_ rest code rng) (inv : DInv code rng) (no : ¬ (lo ≤ value code rng ∧ value code rng < hi ∧ hi ≤ 32768)) :
    KW 73 [.ptr p 0, .int .u32 lo, .int .u32 hi] h = some (.ret (.int .i64 2), h) := by
  have hv := value22_ok a inv
  obtain ⟨vl, hvl⟩ : ∃ x, x = value code rng := ⟨_, rfl⟩
  rw [← hvl] at hv no
  rw [w73, f73, s73]
  by_cases c1 : vl < lo
  · have c1' : (vl : Int) < lo := by omega
    simp [hv, c1, c1']
  · have c1' : ¬ ((vl : Int) < lo) := by omega
    by_cases c2 : hi ≤ vl
    · have c2' : (hi : Int) ≤ vl := by omega
      simp [hv, c1, c1', c2, c2']
    · have c2' : ¬ ((hi : Int) ≤ vl) := by omega
      have c3 : 32768 < hi := by omega
      have c3' : (32768 : Int) < hi := by omega
      simp [hv, c1, c1', c2, c2', c3, c3']

/-! Parts that an encoder refuses. -/
theorem put12_no {h : H} {p : Nat} {t : TypeId} {v : V} {out : List Nat} {low rng lo hi : Nat} (a : EncAt h p t v out low (.int .u32 rng)) (inv : EInv low rng) (no : ¬ (lo < hi ∧ hi ≤ 32768)) :
    KW 82 [.ptr p 0, .int .u32 lo, .int .u32 hi] h = some (.ret (.int .i64 2), h) := by
  have hz : ¬ (rng = 0) := by have := inv.1; omega
  rw [w82, f82, s82]
  by_cases c1 : hi ≤ lo
  · have c1' : (hi : Int) ≤ lo := by omega
    simp [rd1_of a.cell, hz, c1, c1']
  · have c1' : ¬ ((hi : Int) ≤ lo) := by omega
    have c3 : 32768 < hi := by omega
    have c3' : (32768 : Int) < hi := by omega
    simp [rd1_of a.cell, hz, c1, c1', c3, c3']
theorem put13_no {h : H} {x : V} {lo hi : Nat} (no : ¬ (lo < hi ∧ hi ≤ 32768)) :
    KW 70 [x, .int .u32 lo, .int .u32 hi] h = some (.ret (.int .i64 2), h) := by
  rw [w70, f70, s70]
  by_cases c1 : hi ≤ lo
  · have c1' : (hi : Int) ≤ lo := by omega
    simp [c1, c1']
  · have c1' : ¬ ((hi : Int) ≤ lo) := by omega
    have c3 : 32768 < hi := by omega
    have c3' : (32768 : Int) < hi := by omega
    simp [c1, c1', c3, c3']
end Go.Proofs.Ytfjghgjkpenanaa
/- The decoders: Read; copies of bytes. -/
set_option linter.unusedVariables false
set_option linter.unusedSimpArgs false
namespace Go.Proofs.Ytfjghgjkpenanaa
open Go Go.Zf

/-- A slice with these bytes, in any block. -/
def SlB (h : H) (v : V) (l : List Nat) : Prop :=
  (v = .nils ∧ l = []) ∨ ∃ b o k c e ro, v = .sl b o l.length k ∧ h.get b = some (.cells c e ro) ∧ o + l.length ≤ c.length ∧ (c.drop o).take l.length = bytesV l
/-- A slice in a block of its own. -/
def Frs (h : H) (n : Nat) (v : V) (l : List Nat) : Prop :=
  (v = .nils ∧ l = []) ∨ (∃ b k, v = .sl b 0 0 k ∧ l = [] ∧ n ≤ b ∧ ∃ c e ro, h.get b = some (.cells c e ro)) ∨ ∃ b, v = .sl b 0 l.length (.op 1) ∧ n ≤ b ∧ l ≠ [] ∧ h.get b = some (.cells (bytesV l) 5 false)
theorem OSl.mono {h : H} {X Y : Nat → Prop} {v : V} {l : List Nat} (a : OSl h X v l) (hXY : ∀ b, b < h.n → ¬ X b → ¬ Y b) : OSl h Y v l := by
  rcases a with a | a | ⟨b, o, c, e, ro, a1, a2, a3, a4⟩
  · exact .inl a
  · exact .inr (.inl a)
  · exact .inr (.inr ⟨b, o, c, e, ro, a1, hXY b (H.get_lt a3) a2, a3, a4⟩)
theorem OSl.keep {h h' : H} {X : Nat → Prop} {v : V} {l : List Nat} (a : OSl h X v l) (hk : ∀ b, b < h.n → ¬ X b → h'.get b = h.get b) : OSl h' X v l := by
  rcases a with a | a | ⟨b, o, c, e, ro, a1, a2, a3, a4⟩
  · exact .inl a
  · exact .inr (.inl a)
  · exact .inr (.inr ⟨b, o, c, e, ro, a1, a2, by rw [hk b (H.get_lt a3) a2, a3], a4⟩)
theorem Frs.osl {h : H} {n : Nat} {X : Nat → Prop} {v : V} {l : List Nat} (a : Frs h n v l) (hp : ∀ c, n ≤ c → c < h.n → ¬ X c) : OSl h X v l := by
  rcases a with a | ⟨b, k, a1, a2, a3, a4⟩ | ⟨b, a1, a2, a3, a4⟩
  · exact .inl a
  · exact .inr (.inl ⟨b, 0, k, a1, a2⟩)
  · exact .inr (.inr ⟨b, 0, _, _, _, a1, hp b a2 (H.get_lt a4), a4, fun i hi => by simp⟩)
theorem Frs.slb {h : H} {n : Nat} {v : V} {l : List Nat} (a : Frs h n v l) : SlB h v l := by
  rcases a with a | ⟨b, k, a1, a2, a3, c, e, ro, a4⟩ | ⟨b, a1, a2, a3, a4⟩
  · exact .inl a
  · exact .inr ⟨b, 0, k, c, e, ro, by rw [a2]; exact a1, a4, by rw [a2]; simp, by rw [a2]; simp [bytesV]⟩
  · exact .inr ⟨b, 0, _, _, _, _, a1, a4, by simp, by simp [List.take_of_length_le]⟩
theorem SlB.at {h : H} {v : V} {l : List Nat} (a : SlB h v l) : SlAt h v l := by
  rcases a with a | ⟨b, o, k, c, e, ro, a1, a2, a3, a4⟩
  · exact .inl a
  · refine .inr ⟨b, o, k, c, e, ro, a1, a2, fun i hi => ?_⟩
    rw [← a4, List.getElem?_take, if_pos hi, List.getElem?_drop]

theorem SlB.len {h : H} {v : V} {l : List Nat} (a : SlB h v l) : lenOf v = some l.length := by
  rcases a with ⟨rfl, rfl⟩ | ⟨b, o, k, c, e, ro, rfl, a2, a3, a4⟩ <;> simp [lenOf]
theorem SlB.first {h : H} {v : V} {l : List Nat} (a : SlB h v l) : firstV h 1 l.length v = some (bytesV l) := by
  rcases a with ⟨rfl, rfl⟩ | ⟨b, o, k, c, e, ro, rfl, a2, a3, a4⟩
  · simp [firstV, bytesV]
  · simp [firstV, H.rdN, a2, a3, a4]
theorem SlB.keep {h h' : H} {v : V} {l : List Nat} (a : SlB h v l) (hk : ∀ c, c < h.n → h'.get c = h.get c) : SlB h' v l := by
  rcases a with a | ⟨b, o, k, c, e, ro, a1, a2, a3, a4⟩
  · exact .inl a
  · exact .inr ⟨b, o, k, c, e, ro, a1, by rw [hk b (H.get_lt a2), a2], a3, a4⟩

theorem clone_slb {h : H} {v : V} {l : List Nat} (g : SlB h v l) (hlen : l.length < 140737488355329) :
    ∃ h' v', KW 75 [v] h = some (.ret v', h') ∧ Frs h' h.n v' l ∧ h.n ≤ h'.n ∧ ∀ c, c < h.n → h'.get c = h.get c := by
  rcases g with ⟨rfl, rfl⟩ | ⟨b, o, k, c, e, ro, rfl, hb, hol, hcs⟩
  · refine ⟨h, .nils, ?_, .inl ⟨rfl, rfl⟩, Nat.le_refl _, fun _ _ => rfl⟩
    rw [w75, f75, s75]
    simp
  · have hbl := H.get_lt hb
    obtain ⟨h1, hh1⟩ : ∃ h1, h1 = h.new (.cells [] 5 false) := ⟨_, rfl⟩
    have hb1 : h1.get b = some (.cells c e ro) := by rw [hh1, get_new_lt hbl, hb]
    have hr0 : h1.get h.n = some (.cells [] 5 false) := by rw [hh1]; exact get_new_same
    by_cases hl : l = []
    · subst hl
      simp only [List.length_nil] at hol
      have hf : (c.drop o).take 0 = [] := rfl
      have hw0 := wrN_of hr0 (o := 0) (vs := []) (by simp)
      refine ⟨h1.put h.n (.cells (splice [] 0 []) 5 false), .sl h.n 0 0 (.ex 0), ?_, .inr (.inl ⟨_, _, rfl, rfl, Nat.le_refl _, _, _, _, get_put_same (H.get_lt hr0)⟩), by rw [H.n_put, hh1, H.n_new]; omega, fun c hc => by rw [get_put_ne (by omega), hh1, get_new_lt hc]⟩
      rw [w75, f75, s75]
      simp at hol
      simp [bs, fillW, ← hh1, apZ, lenOf, firstV, H.rdN, hb1, apN, hol, hw0]
    · have hll : l.length ≠ 0 := by simpa using hl
      refine ⟨h1.new (.cells (bytesV l) 5 false), .sl h1.n 0 l.length (.op 1), ?_, .inr (.inr ⟨h1.n, rfl, by rw [hh1, H.n_new]; omega, hl, get_new_same⟩), by rw [H.n_new, hh1, H.n_new]; omega, fun c hc => ?_⟩
      · rw [w75, f75, s75]
        simp [bs, fillW, ← hh1, apZ, lenOf, firstV, H.rdN, hb1, apN, hr0, hcs, hll, hol, show l.length ≤ 140737488355328 by omega]
      · rw [get_new_lt (by rw [hh1, H.n_new]; omega), hh1, get_new_lt hc]

/-- append to nil. -/
theorem apZ_nil {h : H} {v : V} {l : List Nat} (g : SlB h v l) (hlen : l.length < 140737488355329) :
    ∃ h' v', apZ 5 1 1 h .nils v = some (v', h') ∧ Frs h' h.n v' l ∧ h.n ≤ h'.n ∧ ∀ c, c < h.n → h'.get c = h.get c := by
  by_cases hl : l = []
  · subst hl
    refine ⟨h, .nils, ?_, .inl ⟨rfl, rfl⟩, Nat.le_refl _, fun _ _ => rfl⟩
    have h1 := g.len; have h2 := g.first
    simp at h1 h2
    simp [apZ, h1, h2, apN]
  · have hll : l.length ≠ 0 := by simpa using hl
    refine ⟨h.new (.cells (bytesV l) 5 false), .sl h.n 0 l.length (.op 1), ?_, .inr (.inr ⟨h.n, rfl, Nat.le_refl _, hl, get_new_same⟩), by rw [H.n_new]; omega, fun c hc => get_new_lt hc⟩
    simp [apZ, g.len, g.first, apN, hll, show l.length ≤ 140737488355328 by omega]

theorem copy18_ok {h : H} {v : V} {l : List Nat} (g : SlB h v l) (hlen : l.length < 140737488355329) :
    ∃ h' v', KW 23 [v] h = some (.ret v', h') ∧ Frs h' h.n v' l ∧ h.n ≤ h'.n ∧ ∀ c, c < h.n → h'.get c = h.get c := by
  obtain ⟨h', v', k1, k2, k3, k4⟩ := apZ_nil g hlen
  refine ⟨h', v', ?_, k2, k3, k4⟩
  rw [w23, f23, s23]
  simp [k1]

def dsh : Nat → List Nat → Nat → List Nat × Nat
  | 0, r, c => (r, c)
  | n + 1, r, c => dsh n r.tail (c * 256 + r.headD 0)
def dread (l : List Nat) : List Nat × Nat := ((dsh 4 l 0).1, min (dsh 4 l 0).2 4294967294)

theorem loop19 (X : Nat → Prop) (p rng : Nat) : ∀ (n : Nat) (h : H) (v : V) (rest : List Nat) (code : Nat) (e : E), DecAt h X p v rest code rng → code < 256 ^ (4 - n) → n ≤ 4 →
    e.s [0, 2, 3, 8] 3 = .ptr p 0 → e.s [0, 2, 3, 8] 8 = .int .i64 (4 - n : Nat) →
    ∃ e' h' v', loopZ (l51_0 KW loopZ) e h = some ⟨.ex 0, e', h'⟩ ∧ e'.s [0, 2, 3, 8] 3 = .ptr p 0 ∧ DecAt h' X p v' (dsh n rest code).1 (dsh n rest code).2 rng ∧ (dsh n rest code).2 < 4294967296 ∧ Only h h' p
  | 0, h, v, rest, code, e, a, hc, hn, he3, he8 => by
    rw [loopZ_eq]
    simp [l51_0, he3, he8]
    exact ⟨_, _, ⟨rfl, rfl⟩, by simp [he3], ⟨v, a⟩, by simpa [dsh] using hc, Only.refl _ _⟩
  | n + 1, h, v, rest, code, e, a, hc, hn, he3, he8 => by
    have hc3 : 256 ^ (4 - (n + 1)) ≤ 256 ^ 3 := Nat.pow_le_pow_right (by decide) (by omega)
    obtain ⟨h1, v1, k1, k2, k3⟩ := shift33_ok a (by omega)
    have hb := headD_lt a.byte
    have hlt : ((4 - (n + 1) : Nat) : Int) < 4 := by omega
    have hm : IntKind.i64.wrap (((4 - (n + 1) : Nat) : Int) + 1) = ((4 - n : Nat) : Int) := by rw [wi64 (by omega) (by omega)]; omega
    have hc' : code * 256 + rest.headD 0 < 256 ^ (4 - n) := by
      rw [show 4 - n = (4 - (n + 1)) + 1 by omega, Nat.pow_succ]; omega
    obtain ⟨j, hj⟩ : ∃ j, j = 4 - (n + 1) := ⟨_, rfl⟩
    obtain ⟨j1, hj1⟩ : ∃ j, j = 4 - n := ⟨_, rfl⟩
    rw [← hj] at hlt he8
    rw [← hj, ← hj1] at hm
    have hlt' : j < 4 := by omega
    rw [loopZ_eq]
    simp [l51_0, he3, he8, hlt, hlt', k1]
    rw [hm]
    obtain ⟨e', h', v', i1, i2, i3, i4, i5⟩ := loop19 X p rng n h1 v1 rest.tail _ ⟨[e.s [0, 2, 3, 8] 0, e.s [0, 2, 3, 8] 2, .ptr p 0, .int .i64 (j1 : Int)], 8, .int .i64 (j1 : Int)⟩ k2 hc' (by omega) (by simp) (by simp [hj1])
    exact ⟨e', h', i1, i2, ⟨v', i3⟩, i4, k3.trans i5⟩

theorem read19_ok {h : H} {v : V} {l : List Nat} (g : SlB h v l) (hlen : l.length < 140737488355329) (hb : ∀ x ∈ l, x < 256) :
    ∃ h' p v', KW 51 [v] h = some (.ret (.ptr p 0), h') ∧ (∀ X : Nat → Prop, X p → (∀ c, h.n ≤ c → c < h'.n → c ≠ p → ¬ X c) → DecAt h' X p v' (dread l).1 (dread l).2 4294967295) ∧ h.n ≤ p ∧ p < h'.n ∧ (∀ c, c < h.n → h'.get c = h.get c) := by
  obtain ⟨h1, v1, k1, k2, k3, k4⟩ := clone_slb g hlen
  obtain ⟨h2, hh2⟩ : ∃ h2, h2 = h1.new (.cells [v1, .int .u32 (0 : Nat), .int .u32 (4294967295 : Nat)] 123 false) := ⟨_, rfl⟩
  have hp2 : h2.get h1.n = some (.cells [v1, .int .u32 (0 : Nat), .int .u32 (4294967295 : Nat)] 123 false) := by rw [hh2]; exact get_new_same
  have hos : OSl h2 (fun c => ¬ (h.n ≤ c ∧ c < h1.n)) v1 l := by
    rcases k2 with a | ⟨b, k, a1, a2, a3, a4⟩ | ⟨b, a1, a2, a3, a4⟩
    · exact .inl a
    · exact .inr (.inl ⟨b, 0, k, a1, a2⟩)
    · have := H.get_lt a4
      exact .inr (.inr ⟨b, 0, _, _, _, a1, by omega, by rw [hh2, get_new_lt this, a4], fun i hi => by simp⟩)
  obtain ⟨e', h', v', i1, i2, i3, i4, i5⟩ := loop19 (fun c => ¬ (h.n ≤ c ∧ c < h1.n)) h1.n 4294967295 4 h2 v1 l 0 ⟨[v, .nilp, .ptr h1.n 0, .int .i64 0], 8, .int .i64 0⟩ ⟨hp2, by omega, hos, hb⟩ (by decide) (by omega) (by simp) (by simp)
  have hw1 := fun v => wr1_of i3.cell (o := 1) (by simp) v
  obtain ⟨r, hr⟩ : ∃ r, r = dsh 4 l 0 := ⟨_, rfl⟩
  have hdr : dread l = (r.1, min r.2 4294967294) := by rw [dread, hr]
  rw [← hr] at i3 i4 hw1
  have e4 : minV [.int .u32 (r.2 : Int), .int .u32 4294967294] = some (.int .u32 ((min r.2 4294967294 : Nat) : Int)) := by
    simp [minV, foldV, min2V]
    split <;> omega
  obtain ⟨y, hy⟩ : ∃ y, y = min r.2 4294967294 := ⟨_, rfl⟩
  rw [← hy] at e4 hdr
  rw [hdr]
  have o3 := Only.put h' h1.n (.cells [v', .int .u32 y, .int .u32 (4294967295 : Nat)] 123 false)
  have hv1 : bl [.nils, .int .u32 0, .int .u32 0] [(some (0, 1), v1), (some (2, 1), .int .u32 4294967295)] = some (.agg [v1, .int .u32 0, .int .u32 4294967295]) := by
    rcases k2 with ⟨rfl, _⟩ | ⟨b, k, rfl, _⟩ | ⟨b, rfl, _⟩ <;> simp [bl, fillW, V.cells, splice]
  refine ⟨h'.put h1.n (.cells [v', .int .u32 y, .int .u32 (4294967295 : Nat)] 123 false), h1.n, v', ?_, fun X hX hf => ⟨get_put_same (H.get_lt i3.cell), hX, (i3.sl.only o3 i3.own).mono fun b hb hb' => hf b (by omega) hb (by omega), i3.byte⟩, k3, by rw [H.n_put, i5.1, hh2, H.n_new]; omega, fun c hc => ?_⟩
  · rw [w51, f51, s51]
    simp at hh2
    simp at hw1 i3
    simp [k1, hv1, bx, V.cells, ← hh2, i1, i2, rd1_of i3.cell, e4, hw1]
  · rw [o3.2 c (by omega), i5.2 c (by omega), hh2, get_new_lt (by omega), k4 c hc]
end Go.Proofs.Ytfjghgjkpenanaa
/- The reference's Read. -/
set_option linter.unusedVariables false
set_option linter.unusedSimpArgs false
namespace Go.Proofs.Ytfjghgjkpenanaa
open Go Go.Zf

theorem dsh_lt : ∀ (n : Nat) {m : Nat} {rest : List Nat} {code : Nat}, (∀ x ∈ rest, x < 256) → code < 256 ^ m → (dsh n rest code).2 < 256 ^ (m + n) ∧ ∀ x ∈ (dsh n rest code).1, x < 256
  | 0, m, rest, code, hb, hc => ⟨by simpa [dsh] using hc, hb⟩
  | n + 1, m, rest, code, hb, hc => by
    have h1 := headD_lt hb
    have := dsh_lt n (m := m + 1) (rest := rest.tail) (code := code * 256 + rest.headD 0) (fun x hx => hb x (List.mem_of_mem_tail hx)) (by rw [Nat.pow_succ]; omega)
    rw [show m + (n + 1) = m + 1 + n by omega]
    exact this
theorem dread_inv {l : List Nat} (hb : ∀ x ∈ l, x < 256) : DInv (dread l).2 4294967295 ∧ ∀ x ∈ (dread l).1, x < 256 :=
  ⟨⟨by decide, by decide, by simp only [dread]; omega⟩, (dsh_lt 4 (m := 0) (code := 0) hb (by decide)).2⟩

theorem loop20 (X : Nat → Prop) (p rng : Nat) : ∀ (n : Nat) (h : H) (at_ : Nat) (rest : List Nat) (code : Nat) (e : E), RefAt h X p at_ rest code rng → code < 256 ^ (4 - n) → n ≤ 4 → at_ + n < 4611686018427387904 →
    e.s [0, 2, 3, 4] 3 = .ptr p 0 → e.s [0, 2, 3, 4] 4 = .int .i64 (4 - n : Nat) →
    ∃ e' h' at', loopZ (l52_0 KW loopZ) e h = some ⟨.ex 0, e', h'⟩ ∧ e'.s [0, 2, 3, 4] 3 = .ptr p 0 ∧ at' ≤ at_ + n ∧ RefAt h' X p at' (dsh n rest code).1 (dsh n rest code).2 rng ∧ Only h h' p
  | 0, h, at_, rest, code, e, a, hc, hn, hat, he3, he8 => by
    rw [loopZ_eq]
    simp [l52_0, he3, he8]
    exact ⟨_, _, ⟨rfl, rfl⟩, by simp [he3], at_, by omega, a, Only.refl _ _⟩
  | n + 1, h, at_, rest, code, e, a, hc, hn, hat, he3, he8 => by
    obtain ⟨⟨v, B, hp, hs, hr, hB⟩, hX, far⟩ := a
    have hc3 : 256 ^ (4 - (n + 1)) ≤ 256 ^ 3 := Nat.pow_le_pow_right (by decide) (by omega)
    have k1 := next34_ok hp hs hX hB far
    rw [← hr] at k1
    have hb : rest.headD 0 < 256 := by
      rw [hr]; exact headD_lt fun x hx => hB x (List.mem_of_mem_drop hx)
    obtain ⟨x, hx⟩ : ∃ x, x = rest.headD 0 := ⟨_, rfl⟩
    obtain ⟨a1, ha1⟩ : ∃ a1 : Nat, a1 = at_ + 1 := ⟨_, rfl⟩
    rw [← hx, ← ha1] at k1
    rw [← hx] at hb
    obtain ⟨h1, hh1⟩ : ∃ h1, h1 = h.put p (.cells [v, .int .i64 a1, .int .u64 code, .int .u64 rng] 125 false) := ⟨_, rfl⟩
    have o1 : Only h h1 p := by rw [hh1]; exact Only.put _ _ _
    have hp1 : h1.get p = some (.cells [v, .int .i64 a1, .int .u64 code, .int .u64 rng] 125 false) := by rw [hh1]; exact get_put_same (H.get_lt hp)
    rw [← hh1] at k1
    have m1 : IntKind.u64.wrap ((code : Int) * 256) = (code : Int) * 256 := wrap64 (by omega) (by omega)
    have m2 : IntKind.u64.wrap ((code : Int) * 256 + x) = ((code * 256 + x : Nat) : Int) := by rw [wrap64 (by omega) (by omega)]; simp
    have hc' : code * 256 + x < 256 ^ (4 - n) := by
      rw [show 4 - n = (4 - (n + 1)) + 1 by omega, Nat.pow_succ]; omega
    obtain ⟨cd, hcd⟩ : ∃ cd, cd = code * 256 + x := ⟨_, rfl⟩
    rw [← hcd] at m2 hc'
    have hw2 := fun x => wr1_of hp1 (o := 2) (by simp) x
    obtain ⟨h2, hh2⟩ : ∃ h2, h2 = h1.put p (.cells [v, .int .i64 a1, .int .u64 cd, .int .u64 rng] 125 false) := ⟨_, rfl⟩
    have o2 : Only h1 h2 p := by rw [hh2]; exact Only.put _ _ _
    have hp2 : h2.get p = some (.cells [v, .int .i64 a1, .int .u64 cd, .int .u64 rng] 125 false) := by rw [hh2]; exact get_put_same (H.get_lt hp1)
    have oo := o1.trans o2
    have a3 : RefAt h2 X p a1 rest.tail cd rng := ⟨⟨v, B, hp2, hs.only oo hX, by rw [hr, List.tail_drop, ha1], hB⟩, hX, by omega⟩
    have hlt : ((4 - (n + 1) : Nat) : Int) < 4 := by omega
    have hm : IntKind.i64.wrap (((4 - (n + 1) : Nat) : Int) + 1) = ((4 - n : Nat) : Int) := by rw [wi64 (by omega) (by omega)]; omega
    obtain ⟨j, hj⟩ : ∃ j, j = 4 - (n + 1) := ⟨_, rfl⟩
    obtain ⟨j1, hj1⟩ : ∃ j, j = 4 - n := ⟨_, rfl⟩
    rw [← hj] at hlt he8
    rw [← hj, ← hj1] at hm
    have hlt' : j < 4 := by omega
    rw [loopZ_eq]
    simp [l52_0, he3, he8, hlt, hlt', rd1_of hp, k1, rd1_of hp1, m1, m2, hw2, ← hh2, hm]
    obtain ⟨e', h', at', i1, i2, i3, i4, i5⟩ := loop20 X p rng n h2 a1 rest.tail cd ⟨[e.s [0, 2, 3, 4] 0, e.s [0, 2, 3, 4] 2, .ptr p 0, .int .i64 (j1 : Int)], 4, .int .i64 (j1 : Int)⟩ a3 hc' (by omega) (by omega) (by simp) (by simp [hj1])
    simp only [dsh]
    rw [← hx, ← hcd]
    exact ⟨e', h', i1, i2, at', by omega, i4, oo.trans i5⟩

theorem read20_ok {h : H} {v : V} {l : List Nat} (g : SlB h v l) (hlen : l.length < 140737488355329) (hb : ∀ x ∈ l, x < 256) :
    ∃ h' p at', KW 52 [v] h = some (.ret (.ptr p 0), h') ∧ (∀ X : Nat → Prop, X p → (∀ c, h.n ≤ c → c < h'.n → c ≠ p → ¬ X c) → RefAt h' X p at' (dread l).1 (dread l).2 4294967295) ∧ at' ≤ 4 ∧ h.n ≤ p ∧ p < h'.n ∧ (∀ c, c < h.n → h'.get c = h.get c) := by
  obtain ⟨h0, hh0⟩ : ∃ h0, h0 = h.new (.cells [.nils, .int .i64 (0 : Nat), .int .u64 (0 : Nat), .int .u64 (4294967295 : Nat)] 125 false) := ⟨_, rfl⟩
  have hp0 : h0.get h.n = some (.cells [.nils, .int .i64 (0 : Nat), .int .u64 (0 : Nat), .int .u64 (4294967295 : Nat)] 125 false) := by rw [hh0]; exact get_new_same
  have hk0 : ∀ c, c < h.n → h0.get c = h.get c := fun c hc => by rw [hh0, get_new_lt hc]
  have hn0 : h0.n = h.n + 1 := by rw [hh0, H.n_new]
  obtain ⟨h1, v1, k1, k2, k3, k4⟩ := apZ_nil (g.keep hk0) hlen
  have hp1 : h1.get h.n = some (.cells [.nils, .int .i64 (0 : Nat), .int .u64 (0 : Nat), .int .u64 (4294967295 : Nat)] 125 false) := by rw [k4 _ (by omega), hp0]
  obtain ⟨h2, hh2⟩ : ∃ h2, h2 = h1.put h.n (.cells [v1, .int .i64 (0 : Nat), .int .u64 (0 : Nat), .int .u64 (4294967295 : Nat)] 125 false) := ⟨_, rfl⟩
  have o2 : Only h1 h2 h.n := by rw [hh2]; exact Only.put _ _ _
  have hp2 : h2.get h.n = some (.cells [v1, .int .i64 (0 : Nat), .int .u64 (0 : Nat), .int .u64 (4294967295 : Nat)] 125 false) := by rw [hh2]; exact get_put_same (H.get_lt hp1)
  have hos : OSl h2 (fun c => ¬ (h.n < c ∧ c < h1.n)) v1 l := ((k2.osl (X := fun c => ¬ (h.n < c ∧ c < h1.n)) (by intro c h1 h2 h3; exact h3 ⟨by omega, h2⟩))).only o2 (by simp)
  obtain ⟨e', h', at', i1, i2, i3, i4, i5⟩ := loop20 (fun c => ¬ (h.n < c ∧ c < h1.n)) h.n 4294967295 4 h2 0 l 0 ⟨[v, .nilp, .ptr h.n 0, .int .i64 0], 4, .int .i64 0⟩ ⟨⟨v1, l, hp2, hos, rfl, hb⟩, by simp, by decide⟩ (by decide) (by omega) (by omega) (by simp) (by simp)
  obtain ⟨⟨v2, B, hp3, hs3, hr3, hB3⟩, hX3, far⟩ := i4
  have hw1 := fun v => wr1_of hp3 (o := 2) (by simp) v
  obtain ⟨r, hr⟩ : ∃ r, r = dsh 4 l 0 := ⟨_, rfl⟩
  have hdr : dread l = (r.1, min r.2 4294967294) := by rw [dread, hr]
  have hlt : r.2 < 4294967296 := by
    have := (dsh_lt 4 (m := 0) (code := 0) hb (by decide)).1
    rw [← hr] at this; simpa using this
  rw [← hr] at hp3 hw1 hr3
  have e4 : minV [.int .u64 (r.2 : Int), .int .u64 4294967294] = some (.int .u64 ((min r.2 4294967294 : Nat) : Int)) := by
    simp [minV, foldV, min2V]
    split <;> omega
  obtain ⟨y, hy⟩ : ∃ y, y = min r.2 4294967294 := ⟨_, rfl⟩
  rw [← hy] at e4 hdr
  rw [hdr]
  have o3 := Only.put h' h.n (.cells [v2, .int .i64 at', .int .u64 y, .int .u64 (4294967295 : Nat)] 125 false)
  have hv1 : stZ 1 h1 (.ptr h.n 0) v1 = some (.und, h2) := by
    have := wr1_of hp1 (o := 0) (by simp) v1
    rw [hh2]
    rcases k2 with ⟨rfl, _⟩ | ⟨b, k, rfl, _⟩ | ⟨b, rfl, _⟩ <;> simp [this]
  refine ⟨h'.put h.n (.cells [v2, .int .i64 at', .int .u64 y, .int .u64 (4294967295 : Nat)] 125 false), h.n, at', ?_, fun X hX hf => ⟨⟨v2, B, get_put_same (H.get_lt hp3), (hs3.only o3 hX3).mono fun b hb hb' => hf b (by omega) hb (by omega), hr3, hB3⟩, hX, far⟩, by omega, Nat.le_refl _, by rw [H.n_put, i5.1, o2.1]; omega, fun c hc => ?_⟩
  · rw [w52, f52, s52]
    simp at hw1 hp3 hh0 hp0
    simp [bl, fillW, bx, V.cells, splice, ← hh0, rd1_of hp0, k1, hv1, i1, i2, rd1_of hp3, e4, hw1]
  · rw [o3.2 c (by omega), i5.2 c (by omega), o2.2 c (by omega), k4 c (by omega), hk0 c hc]
end Go.Proofs.Ytfjghgjkpenanaa
/- works: a part is put, and found. -/
set_option linter.unusedVariables false
set_option linter.unusedSimpArgs false
namespace Go.Proofs.Ytfjghgjkpenanaa
open Go Go.Zf

/-- A slice of bytes in a block of its own, that may be written. -/
def Wr (h : H) (n : Nat) (v : V) (l : List Nat) : Prop :=
  ∃ b k L, v = .sl b 0 l.length k ∧ n ≤ b ∧ h.get b = some (.cells (bytesV L) 5 false) ∧ l.length ≤ L.length ∧ L.take l.length = l ∧ ∀ x ∈ L, x < 256
theorem Wr.slb {h : H} {n : Nat} {v : V} {l : List Nat} (a : Wr h n v l) : SlB h v l := by
  obtain ⟨b, k, L, h1, h2, h3, h4, h5, h6⟩ := a
  exact .inr ⟨b, 0, k, _, _, _, h1, h3, by simpa using h4, by rw [List.drop_zero]; unfold bytesV; rw [← List.map_take, h5]⟩
theorem Wr.byte {h : H} {n : Nat} {v : V} {l : List Nat} (a : Wr h n v l) : ∀ x ∈ l, x < 256 := by
  obtain ⟨b, k, L, h1, h2, h3, h4, h5, h6⟩ := a
  intro x hx; rw [← h5] at hx; exact h6 x (List.mem_of_mem_take hx)
theorem bytes_len (out : List Nat) (low : Nat) : (bytes out low).length = trimN (emits 4 out low).1 (out.length + 4) := by
  unfold bytes
  rw [List.length_take, emits_length]
  exact Nat.min_eq_left (trimN_le _ _)
theorem bytes14_wr {h : H} {p : Nat} {t : TypeId} {v : V} {out : List Nat} {low rng : Nat} (a : EncAt h p t v out low (.int .u32 rng)) (inv : EInv low rng) (hlen : out.length < 1099511627000) :
    ∃ h' v', KW 46 [.ptr p 0] h = some (.ret v', h') ∧ Wr h' h.n v' (bytes out low) ∧ h.n ≤ h'.n ∧ ∀ c, c < h.n → h'.get c = h.get c := by
  obtain ⟨h', b, k1, k2, k3, k4, k5, k6⟩ := bytes14_ok a inv hlen
  refine ⟨h', _, k1, ⟨b, _, (emits 4 out low).1, by rw [bytes_len], k4, k2, ?_, ?_, k3⟩, k5, k6⟩
  · rw [bytes_len, emits_length]; exact trimN_le _ _
  · rw [bytes_len]; rfl
theorem bytes16_wr {h : H} {p : Nat} {t : TypeId} {v : V} {out : List Nat} {low rng : Nat} (a : EncAt h p t v out low (.int .u64 rng)) (inv : EInv low rng) (hlen : out.length < 1099511627000) :
    ∃ h' v', KW 47 [.ptr p 0] h = some (.ret v', h') ∧ Wr h' h.n v' (bytes out low) ∧ h.n ≤ h'.n ∧ ∀ c, c < h.n → h'.get c = h.get c := by
  obtain ⟨h', b, k1, k2, k3, k4, k5, k6⟩ := bytes16_ok a inv hlen
  refine ⟨h', _, k1, ⟨b, _, (emits 4 out low).1, by rw [bytes_len], k4, k2, ?_, ?_, k3⟩, k5, k6⟩
  · rw [bytes_len, emits_length]; exact trimN_le _ _
  · rw [bytes_len]; rfl

theorem Own.keep {h h' : H} {p n : Nat} {v v' : V} (a : Own h h' p v v') (hp : n ≤ p) (hv : ∀ c o m k, v = .sl c o m k → n ≤ c) (hn : n ≤ h.n) : n ≤ h'.n ∧ (∀ c, c < n → h'.get c = h.get c) ∧ ∀ c o m k, v' = .sl c o m k → n ≤ c := by
  refine ⟨by have := a.fr.1; omega, fun c hc => a.fr.2 c (by omega) ?_, ?_⟩
  · rintro (e | ⟨o, m, k, e⟩)
    · omega
    · have := hv _ _ _ _ e; omega
  · rcases a.nw with e | e
    · rw [e]; exact hv
    · intro c o m k e1; have := e c o m k e1; omega


end Go.Proofs.Ytfjghgjkpenanaa
