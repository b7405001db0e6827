/- The encoders: what their functions do to the abstract heap. -/
import Derived.Test.YtpikblkbeoophaaRa
set_option linter.unusedVariables false
set_option linter.unusedSimpArgs false
namespace Go.Proofs.Ytpikblkbeoophaa
open Go Go.Zf

def bytesV (l : List Nat) : List V := l.map fun (n : Nat) => V.int .u8 n
@[simp] theorem bytesV_length (l : List Nat) : (bytesV l).length = l.length := by simp [bytesV]
theorem bytesV_append (a b : List Nat) : bytesV (a ++ b) = bytesV a ++ bytesV b := by simp [bytesV]

/-- One block changed, and nothing else. -/
def Upd (h : H) (b : Nat) (x : Blk) (h' : H) : Prop := h'.n = h.n ∧ ∀ c, h'.get c = if c = b then some x else h.get c
theorem upd_put {h : H} {b : Nat} (hb : b < h.n) (x : Blk) : Upd h b x (h.put b x) :=
  ⟨rfl, fun c => by simp [H.get_put, hb]⟩
theorem Upd.trans {h h1 h2 : H} {b : Nat} {x y : Blk} (a : Upd h b x h1) (c : Upd h1 b y h2) : Upd h b y h2 :=
  ⟨c.1.trans a.1, fun d => by rw [c.2, a.2]; split <;> rfl⟩
theorem Upd.refl {h : H} {b : Nat} {x : Blk} (a : h.get b = some x) : Upd h b x h := ⟨rfl, fun d => by split <;> simp_all⟩

/-- 1 into bytes, the last one first. -/
def incR : List Nat → List Nat
  | [] => []
  | b :: r => if b = 255 then 0 :: incR r else (b + 1) :: r
def inc (l : List Nat) : List Nat := (incR l.reverse).reverse
theorem inc_nil : inc [] = [] := rfl
theorem inc_snoc (l : List Nat) (b : Nat) : inc (l ++ [b]) = if b = 255 then inc l ++ [0] else l ++ [b + 1] := by
  simp only [inc, List.reverse_append, List.reverse_cons, List.reverse_nil, List.nil_append, List.singleton_append, incR]
  split <;> simp
theorem inc_length (l : List Nat) : (inc l).length = l.length := by
  unfold inc
  rw [List.length_reverse]
  have e : l.length = l.reverse.length := by simp
  rw [e]
  generalize l.reverse = r
  induction r with
  | nil => rfl
  | cons b r ih => simp only [incR]; split <;> simp [ih]

theorem incR_byte : ∀ {l : List Nat}, (∀ x ∈ l, x < 256) → ∀ x ∈ incR l, x < 256
  | [], _, x, hx => by simp [incR] at hx
  | b :: r, h, x, hx => by
    have hb := h b (by simp)
    have hr : ∀ x ∈ r, x < 256 := fun x hx => h x (by simp [hx])
    simp only [incR] at hx
    split at hx
    · rcases List.mem_cons.mp hx with rfl | hx
      · omega
      · exact incR_byte hr x hx
    · rcases List.mem_cons.mp hx with rfl | hx
      · omega
      · exact hr x hx
theorem inc_byte {l : List Nat} (h : ∀ x ∈ l, x < 256) : ∀ x ∈ inc l, x < 256 := by
  intro x hx
  exact incR_byte (l := l.reverse) (fun x hx => h x (by simpa using hx)) x (by simpa [inc] using hx)

theorem w8 {n : Int} : IntKind.u8.wrap n = n % 256 := by
  unfold IntKind.wrap; simp [IntKind.bits, IntKind.signed]

theorem loop36 (p b : Nat) (t tb : TypeId) (c1 c2 : V) (len : Nat) : ∀ (k : Nat) (pre suf : List Nat) (h : H) (e : E), pre.length = k → (∀ x ∈ pre, x < 256) → (pre ++ suf).length = len → len < 1099511627776 →
    h.get p = some (.cells [.sl b 0 len (.op 1), c1, c2] t false) → h.get b = some (.cells (bytesV (pre ++ suf)) tb false) → p ≠ b →
    e.s [0, 2, 28] 0 = .ptr p 0 → e.s [0, 2, 28] 2 = .int .i64 ((k : Int) - 1) →
    ∃ e' h', loopZ (l36_0 KK loopZ) e h = some ⟨.ex 0, e', h'⟩ ∧ e'.s [0, 2, 28] 0 = .ptr p 0 ∧ Upd h b (.cells (bytesV (inc pre ++ suf)) tb false) h'
  | 0, pre, suf, h, e, hk, hp, hl, hs, hgp, hgb, hn, he0, he2 => by
    have : pre = [] := List.length_eq_zero_iff.mp hk
    subst this
    rw [loopZ_eq]
    simp [l36_0, he0, he2]
    exact ⟨_, _, ⟨rfl, rfl⟩, by simp, Upd.refl hgb⟩
  | k + 1, pre, suf, h, e, hk, hp, hl, hs, hgp, hgb, hn, he0, he2 => by
    obtain ⟨pr, x, rfl⟩ : ∃ pr x, pre = pr ++ [x] := by
      rcases List.eq_nil_or_concat pre with h0 | ⟨a, b, h0⟩
      · subst h0; simp at hk
      · exact ⟨a, b, by simpa using h0⟩
    have hk' : pr.length = k := by simpa using hk
    have hx : x < 256 := hp x (by simp)
    have hlk : k < len := by simp at hl; omega
    have hix : (bytesV (pr ++ [x] ++ suf))[k]? = some (.int .u8 x) := by
      simp [bytesV, ← hk']
    have hset : ∀ y : Nat, (bytesV (pr ++ [x] ++ suf)).set k (.int .u8 y) = bytesV (pr ++ [y] ++ suf) := by
      intro y; simp [bytesV, ← hk']
    have hbl := H.get_lt hgb
    have hpl := H.get_lt hgp
    have hgb0 := hgb
    obtain ⟨c, hc⟩ : ∃ c, c = bytesV (pr ++ [x] ++ suf) := ⟨_, rfl⟩
    have hcl : c.length = len := by rw [hc]; simpa using hl
    rw [← hc] at hgb hix hset
    have hw := fun v => wr1_of hgb (o := k) (by omega) v
    have hpb : ∀ v, (h.put b v).get p = h.get p := fun v => get_put_ne hn
    by_cases hx5 : x = 255
    · subst hx5
      have hz : c.set k (.int .u8 0) = bytesV (pr ++ [0] ++ suf) := hset 0
      have hg2 : (h.put b (.cells (bytesV (pr ++ [0] ++ suf)) tb false)).get b = some (.cells (bytesV (pr ++ [0] ++ suf)) tb false) := get_put_same hbl
      have hz2 : (bytesV (pr ++ [0] ++ suf))[k]? = some (.int .u8 0) := by simp [bytesV, ← hk']
      obtain ⟨c', hc'⟩ : ∃ c', c' = bytesV (pr ++ [0] ++ suf) := ⟨_, rfl⟩
      obtain ⟨h1, hh1⟩ : ∃ h1, h1 = h.put b (.cells c' tb false) := ⟨_, rfl⟩
      have hgp1 : h1.get p = some (.cells [.sl b 0 len (.op 1), c1, c2] t false) := by rw [hh1, hpb, hgp]
      rw [← hc'] at hz hg2 hz2
      rw [← hh1] at hg2
      rw [loopZ_eq]
      simp [l36_0, he0, he2, rd1_of hgp, rd1_of hgb, hix, hlk, hw, hz, w8, ← hh1, rd1_of hgp1, rd1_of hg2, hz2]
      rw [wi64 (by omega) (by omega)]
      obtain ⟨e', h', i1, i2, i3⟩ := loop36 p b t tb c1 c2 len k pr (0 :: suf) h1 ⟨[V.ptr p 0, V.int IntKind.i64 ((k : Int) - 1), V.int IntKind.u8 0], 2, V.int IntKind.i64 ((k : Int) - 1)⟩ hk' (fun x hx => hp x (by simp [hx]))
        (by simpa using hl) hs hgp1 (by rw [hg2, hc']; simp) hn (by simp) (by simp)
      refine ⟨e', h', i1, i2, ?_⟩
      have hu : Upd h b (.cells c' tb false) h1 := by rw [hh1]; exact upd_put hbl _
      rw [inc_snoc]
      simpa using hu.trans i3
    · rw [loopZ_eq]
      have hz : c.set k (.int .u8 ((x : Int) + 1)) = bytesV (pr ++ [x + 1] ++ suf) := hset (x + 1)
      have hg2 : (h.put b (.cells (bytesV (pr ++ [x + 1] ++ suf)) tb false)).get b = some (.cells (bytesV (pr ++ [x + 1] ++ suf)) tb false) := get_put_same hbl
      have hz2 : (bytesV (pr ++ [x + 1] ++ suf))[k]? = some (.int .u8 ((x : Int) + 1)) := by simp [bytesV, ← hk']
      obtain ⟨c', hc'⟩ : ∃ c', c' = bytesV (pr ++ [x + 1] ++ suf) := ⟨_, rfl⟩
      obtain ⟨h1, hh1⟩ : ∃ h1, h1 = h.put b (.cells c' tb false) := ⟨_, rfl⟩
      have hgp1 : h1.get p = some (.cells [.sl b 0 len (.op 1), c1, c2] t false) := by rw [hh1, hpb, hgp]
      rw [← hc'] at hz hg2 hz2
      rw [← hh1] at hg2
      have hm : ((x : Int) + 1) % 256 = (x : Int) + 1 := by omega
      have hne : ¬ ((x : Int) + 1 = 0) := by omega
      simp [l36_0, he0, he2, rd1_of hgp, rd1_of hgb, hix, hlk, hw, w8, hm, hz, ← hh1, rd1_of hgp1, rd1_of hg2, hz2, hne]
      have hu : Upd h b (.cells c' tb false) h1 := by rw [hh1]; exact upd_put hbl _
      refine ⟨_, _, ⟨rfl, rfl⟩, by simp, ?_⟩
      rw [inc_snoc, if_neg hx5, ← hc']
      exact hu
/-- A slice that grows. -/
def Grow (h : H) (v : V) (l : List Nat) : Prop :=
  (v = .nils ∧ l = []) ∨ ∃ b, v = .sl b 0 l.length (.op 1) ∧ l ≠ [] ∧ h.get b = some (.cells (bytesV l) 5 false)
/-- An encoder (the program's or the reference's): its bytes, low, range. -/
structure EncAt (h : H) (p : Nat) (t : TypeId) (v : V) (out : List Nat) (low : Nat) (rng : V) : Prop where
  cell : h.get p = some (.cells [v, .int .u64 low, rng] t false)
  grow : Grow h v out
  byte : ∀ x ∈ out, x < 256
  low64 : low < 18446744073709551616
def fp (p : Nat) (v : V) (c : Nat) : Prop := c = p ∨ ∃ o n k, v = .sl c o n k
def Fram (h h' : H) (S : Nat → Prop) : Prop := h.n ≤ h'.n ∧ ∀ c, c < h.n → ¬ S c → h'.get c = h.get c

theorem and32 {n : Nat} (hn : n < 18446744073709551616) : IntKind.u64.wrap ((n % 2 ^ IntKind.u64.bits &&& 4294967295 % 2 ^ IntKind.u64.bits : Nat) : Int) = (n : Int) % 4294967296 := by
  rw [show IntKind.u64.bits = 64 from rfl, Nat.mod_eq_of_lt (show n < 2 ^ 64 by omega), Nat.mod_eq_of_lt (show 4294967295 < 2 ^ 64 by omega)]
  rw [show (4294967295 : Nat) = 2 ^ 32 - 1 from rfl, Nat.and_two_pow_sub_one_eq_mod]
  rw [w64 (by omega) (by omega)]
  omega

theorem sl_ne {h : H} {p b : Nat} {t tb : TypeId} {v x y : V} {l : List Nat} (hp : h.get p = some (.cells [v, x, y] t false)) (hb : h.get b = some (.cells (bytesV l) tb false)) (hv : ∀ k n, v ≠ .int k n) : p ≠ b := by
  intro e; subst e; rw [hp] at hb; simp only [Option.some.injEq, Blk.cells.injEq] at hb
  obtain ⟨h1, _⟩ := hb
  cases l with
  | nil => simp [bytesV] at h1
  | cons a l => simp [bytesV] at h1; exact hv _ _ h1.1

theorem carry_ok {h : H} {p : Nat} {t : TypeId} {v rng : V} {out : List Nat} {low : Nat} (a : EncAt h p t v out low rng) (hlen : out.length < 1099511627776) :
    ∃ h', KK 36 [.ptr p 0] h = some (.ret (.tup []), h') ∧ EncAt h' p t v (inc out) (low % 4294967296) rng ∧ Fram h h' (fp p v) ∧ h'.n = h.n := by
  have hpl := H.get_lt a.cell
  have hl64 := a.low64
  rcases a.grow with ⟨rfl, rfl⟩ | ⟨b, rfl, hne, hb⟩
  · have hw := fun v => wr1_of a.cell (o := 1) (by simp) v
    have hlp : loopZ (l36_0 KK loopZ) ⟨[.ptr p 0, .int .i64 (-1), V.tup []], 2, .int .i64 (-1)⟩ h = some ⟨.ex 0, ⟨[.ptr p 0, .int .i64 (-1), V.tup []], 10, .bool false⟩, h⟩ := by
      rw [loopZ_eq]
      simp [l36_0]
    rw [KK, c36, f36, s36]
    simp [rd1_of a.cell]
    rw [wi64 (by omega) (by omega)]
    simp [hlp, hw, rd1_of a.cell, and32 a.low64]
    refine ⟨⟨get_put_same hpl, .inl ⟨rfl, rfl⟩, by simp [inc_nil], by omega⟩, ⟨Nat.le_refl _, fun c hc hs => get_put_ne fun e => hs (.inl e)⟩, rfl⟩
  · have hn := sl_ne a.cell hb (by simp)
    have hll : out.length ≠ 0 := by simpa using hne
    rw [KK, c36, f36, s36]
    simp [rd1_of a.cell]
    obtain ⟨e', h', i1, i2, i3⟩ := loop36 p b t 5 (.int .u64 low) rng out.length out.length out [] h ⟨[.ptr p 0, .int .i64 ((out.length : Int) - 1), V.und], 2, .int .i64 ((out.length : Int) - 1)⟩ rfl a.byte (by simp) hlen a.cell (by simpa using hb) hn (by simp) (by simp)
    have hc' : h'.get p = some (.cells [.sl b 0 out.length (.op 1), .int .u64 low, rng] t false) := by rw [i3.2, if_neg hn, a.cell]
    have hw := fun v => wr1_of hc' (o := 1) (by simp) v
    rw [wi64 (by omega) (by omega)]
    simp at i1
    simp [i1, i2, rd1_of hc', hw, and32 a.low64]
    have hpl' : p < h'.n := by rw [i3.1]; exact hpl
    refine ⟨⟨get_put_same hpl', .inr ⟨b, by rw [inc_length], ?_, ?_⟩, ?_, by omega⟩, ⟨by rw [H.n_put, i3.1]; exact Nat.le_refl _, fun c hc hs => ?_⟩, i3.1⟩
    · intro e; have := inc_length out; rw [e] at this; simp at this; exact hll this.symm
    · rw [get_put_ne (Ne.symm hn), i3.2, if_pos rfl]; simp
    · exact inc_byte a.byte
    · rw [get_put_ne fun e => hs (.inl e), i3.2, if_neg fun e => hs (.inr ⟨_, _, _, by rw [e]⟩)]
theorem append_ok {h : H} {v : V} {out l : List Nat} (g : Grow h v out) {q o n : Nat} {cp : Cap} (hr : h.rdN q o n = some (bytesV l)) (hl : l.length = n) (hn : n ≠ 0) (hlen : out.length + n < 1099511627777) :
    ∃ h2, apZ 5 1 1 h v (.sl q o n cp) = some (.sl h.n 0 (out.length + n) (.op 1), h2) ∧ h2.n = h.n + 1 ∧ h2.get h.n = some (.cells (bytesV (out ++ l)) 5 false) ∧
      ∀ c, c < h.n → (∀ o n k, v ≠ .sl c o n k) → h2.get c = h.get c := by
  rcases g with ⟨rfl, rfl⟩ | ⟨b, rfl, hne, hb⟩
  · refine ⟨h.new (.cells (bytesV l) 5 false), ?_, rfl, ?_, ?_⟩
    · simp [apZ, lenOf, firstV, hr, apN, hn]
      simp at hlen; omega
    · simp [get_new_same]
    · intro c hc hv; exact get_new_lt hc
  · have hbl := H.get_lt hb
    refine ⟨((h.put b .dead).new (.cells (bytesV out ++ bytesV l) 5 false)), ?_, rfl, ?_, ?_⟩
    · have : List.take out.length (bytesV out) = bytesV out := List.take_of_length_le (by simp)
      simp [apZ, lenOf, firstV, hr, apN, hn, hb, this, H.n_put]
      omega
    · rw [show h.n = (h.put b .dead).n from rfl, get_new_same, bytesV_append]
    · intro c hc hv
      rw [get_new_lt (by simpa [H.n_put] using hc), get_put_ne (fun e => hv _ _ _ (by rw [e]))]
def emit (out : List Nat) (low : Nat) : List Nat × Nat :=
  let q := if 4294967296 ≤ low then (inc out, low % 4294967296) else (out, low)
  (q.1 ++ [q.2 / 16777216], q.2 % 16777216 * 256)
theorem emit_length (out : List Nat) (low : Nat) : (emit out low).1.length = out.length + 1 := by
  unfold emit; split <;> simp [inc_length]
theorem emit_lt (out : List Nat) (low : Nat) : (emit out low).2 < 4294967296 := by
  unfold emit; split <;> simp <;> omega
theorem shift_ok {h : H} {p : Nat} {t : TypeId} {v rng : V} {out : List Nat} {low : Nat} (a : EncAt h p t v out low rng) (hlen : out.length < 1099511627775) (hlow : low < 8589934592) :
    ∃ h' v', KK 29 [.ptr p 0] h = some (.ret (.tup []), h') ∧ EncAt h' p t v' (emit out low).1 (emit out low).2 rng ∧ Fram h h' (fp p v) ∧ ∀ c o n k, v' = .sl c o n k → h.n ≤ c := by
  have hpl := H.get_lt a.cell
  -- behind the carry
  obtain ⟨h1, o1, l1, hif, a1, hl1, hol, hq, f1, hn1⟩ : ∃ h1 o1 l1, (4294967295 < low → KK 36 [.ptr p 0] h = some (.ret (.tup []), h1)) ∧ EncAt h1 p t v o1 l1 rng ∧ l1 < 4294967296 ∧ o1.length = out.length ∧
      emit out low = (o1 ++ [l1 / 16777216], l1 % 16777216 * 256) ∧ Fram h h1 (fp p v) ∧ h1.n = h.n ∧ (¬ 4294967295 < low → h1 = h) := by
    by_cases hc : 4294967295 < low
    · obtain ⟨h1, k1, k2, k3, k4⟩ := carry_ok a (by omega)
      exact ⟨h1, inc out, low % 4294967296, fun _ => k1, k2, by omega, inc_length out, by simp [emit, show 4294967296 ≤ low by omega], k3, k4, fun h => absurd hc h⟩
    · exact ⟨h, out, low, fun h => absurd h hc, a, by omega, rfl, by simp [emit, show ¬ 4294967296 ≤ low by omega], ⟨Nat.le_refl _, fun _ _ _ => rfl⟩, rfl, fun _ => rfl⟩
  have hpl1 : p < h1.n := by omega
  obtain ⟨x, hx⟩ : ∃ x, x = l1 / 16777216 := ⟨_, rfl⟩
  obtain ⟨hn, hhn⟩ : ∃ hn, hn = h1.new (.cells [.int .u8 (x : Int)] 5 false) := ⟨_, rfl⟩
  have hnn : hn.n = h1.n + 1 := by rw [hhn, H.n_new]
  have hnew : hn.rdN h1.n 0 1 = some (bytesV [x]) := by
    rw [hhn]; simp [H.rdN, get_new_same, bytesV]
  have hg1 : Grow hn v o1 := by
    rcases a1.grow with ⟨e1, e2⟩ | ⟨b, e1, e2, e3⟩
    · exact .inl ⟨e1, e2⟩
    · exact .inr ⟨b, e1, e2, by rw [hhn, get_new_lt (H.get_lt e3), e3]⟩
  obtain ⟨h2, ha, hn2, hs2, hf2⟩ := append_ok hg1 (cp := .ex 1) hnew rfl (by decide) (by omega)
  have hp2 : h2.get p = some (.cells [v, .int .u64 l1, rng] t false) := by
    rw [hf2 p (by omega), hhn, get_new_lt hpl1, a1.cell]
    intro o n k e
    rcases a1.grow with ⟨e1, e2⟩ | ⟨b, e1, e2, e3⟩
    · rw [e1] at e; cases e
    · rw [e1] at e; cases e; exact sl_ne a1.cell e3 (by simp [e1]) rfl
  have e1 : (l1 : Int).fdiv (2 ^ (min 24 IntKind.u64.bits)) = (x : Int) := by
    rw [Int.fdiv_eq_ediv_of_nonneg _ (by decide), hx]; rfl
  have e2 : IntKind.u8.wrap (x : Int) = (x : Int) := by rw [w8]; omega
  have hck : ∀ {β : Type} (y : Option β), ck (some v) v y = y := by
    intro β y
    rcases a1.grow with ⟨e1, e2⟩ | ⟨b, e1, e2, e3⟩ <;> rw [e1] <;> simp
  have w1 := fun x => wr1_of hp2 (o := 0) (by simp) x
  obtain ⟨h3, hh3⟩ : ∃ h3, h3 = h2.put p (.cells [.sl hn.n 0 (o1.length + 1) (.op 1), .int .u64 l1, rng] t false) := ⟨_, rfl⟩
  have hp3 : h3.get p = some (.cells [.sl hn.n 0 (o1.length + 1) (.op 1), .int .u64 l1, rng] t false) := by rw [hh3]; exact get_put_same (by omega)
  have w3 := fun x => wr1_of hp3 (o := 1) (by simp) x
  have fin : Fram h (h3.put p (.cells [.sl hn.n 0 (o1.length + 1) (.op 1), .int .u64 ((l1 % 16777216 * 256 : Nat) : Int), rng] t false)) (fp p v) := by
    refine ⟨by rw [H.n_put, hh3, H.n_put]; omega, fun c hc hs => ?_⟩
    have hcp : c ≠ p := fun e => hs (.inl e)
    rw [get_put_ne hcp, hh3, get_put_ne hcp, hf2 c (by omega) (fun o n k e => hs (.inr ⟨o, n, k, e⟩)), hhn, get_new_lt (by omega), f1.2 c hc hs]
  have enc : EncAt (h3.put p (.cells [.sl hn.n 0 (o1.length + 1) (.op 1), .int .u64 ((l1 % 16777216 * 256 : Nat) : Int), rng] t false)) p t (.sl hn.n 0 (o1.length + 1) (.op 1)) (emit out low).1 (emit out low).2 rng := by
    rw [hq]
    refine ⟨get_put_same (by rw [hh3, H.n_put]; omega), .inr ⟨hn.n, by simp, by simp, ?_⟩, ?_, by show _ < _; omega⟩
    · rw [get_put_ne (by omega), hh3, get_put_ne (by omega), hs2, hx]
    · intro y hy
      rcases List.mem_append.mp hy with hy | hy
      · exact a1.byte y hy
      · simp at hy; omega
  have m1 : IntKind.u64.wrap (IntKind.u64.wrap ((l1 % 2 ^ IntKind.u64.bits &&& 16777215 % 2 ^ IntKind.u64.bits : Nat) : Int) * 2 ^ (min 8 IntKind.u64.bits)) = (l1 : Int) % 16777216 * 256 := by
    rw [show IntKind.u64.bits = 64 from rfl, Nat.mod_eq_of_lt (show l1 < 2 ^ 64 by omega), Nat.mod_eq_of_lt (show 16777215 < 2 ^ 64 by omega)]
    rw [show (16777215 : Nat) = 2 ^ 24 - 1 from rfl, Nat.and_two_pow_sub_one_eq_mod]
    rw [w64 (n := ((l1 % 2 ^ 24 : Nat) : Int)) (by omega) (by omega), w64 (by simp; omega) (by simp; omega)]
    simp
  refine ⟨_, _, ?_, enc, fin, fun c o n k e => by cases e; omega⟩
  rw [KK, c29, f29, s29]
  by_cases hc : 4294967295 < low
  · simp [rd1_of a.cell, show (4294967295 : Int) < low by omega, hif hc, rd1_of a1.cell, bs, fillW, e1, e2, V.cells, splice, ← hhn, ha, w1, hck, ← hh3, rd1_of hp3, w3, m1]
  · have h1e := hn1.2 hc
    subst h1e
    have hll : low = l1 := by have e := a.cell.symm.trans a1.cell; simp at e; omega
    rw [hll] at a hc
    simp [rd1_of a.cell, show ¬ (4294967295 : Int) < l1 by omega, rd1_of a1.cell, bs, fillW, e1, e2, V.cells, splice, ← hhn, ha, w1, hck, ← hh3, rd1_of hp3, w3, m1]
end Go.Proofs.Ytpikblkbeoophaa
