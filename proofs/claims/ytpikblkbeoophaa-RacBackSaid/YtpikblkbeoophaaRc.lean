/- The reference's encoder: what its functions do to the abstract heap. -/
import Derived.Test.YtpikblkbeoophaaRb
set_option linter.unusedVariables false
set_option linter.unusedSimpArgs false
namespace Go.Proofs.Ytpikblkbeoophaa
open Go Go.Zf

theorem loop31 (p b : Nat) (t tb : TypeId) (c1 c2 : V) (len : Nat) : ∀ (k : Nat) (pre suf : List Nat) (h : H) (e : E), pre.length = k → (∀ x ∈ pre, x < 256) → (pre ++ suf).length = len → len < 1099511627776 →
    h.get p = some (.cells [.sl b 0 len (.op 1), c1, c2] t false) → h.get b = some (.cells (bytesV (pre ++ suf)) tb false) → p ≠ b →
    e.s [0, 2] 0 = .ptr p 0 → e.s [0, 2] 2 = .int .i64 ((k : Int) - 1) →
    ∃ e' h' cur, loopZ (l31_0 KK loopZ) e h = some ⟨.ex 0, e', h'⟩ ∧ e'.s [0, 2] 0 = .ptr p 0 ∧ Upd h b (.cells cur tb false) h' ∧ cur.length = len ∧
      ((e'.s [0, 2] 2 = .int .i64 (-1) ∧ cur = bytesV (inc pre ++ suf)) ∨
       ∃ m x : Nat, e'.s [0, 2] 2 = .int .i64 m ∧ m < len ∧ cur[m]? = some (.int .u8 x) ∧ x < 255 ∧ cur.set m (.int .u8 ((x + 1 : Nat) : Int)) = bytesV (inc pre ++ suf))
  | 0, pre, suf, h, e, hk, hp, hl, hs, hgp, hgb, hn, he0, he2 => by
    have : pre = [] := List.length_eq_zero_iff.mp hk
    subst this
    rw [loopZ_eq]
    simp [l31_0, he0, he2]
    exact ⟨_, _, ⟨rfl, rfl⟩, by simp, _, Upd.refl hgb, by simpa using hl, .inl ⟨by simp, rfl⟩⟩
  | k + 1, pre, suf, h, e, hk, hp, hl, hs, hgp, hgb, hn, he0, he2 => by
    obtain ⟨pr, x, rfl⟩ : ∃ pr x, pre = pr ++ [x] := by
      rcases List.eq_nil_or_concat pre with h0 | ⟨a, b, h0⟩
      · subst h0; simp at hk
      · exact ⟨a, b, by simpa using h0⟩
    have hk' : pr.length = k := by simpa using hk
    have hx : x < 256 := hp x (by simp)
    have hlk : k < len := by simp at hl; omega
    have hix : (bytesV (pr ++ [x] ++ suf))[k]? = some (.int .u8 x) := by
      simp [bytesV, ← hk']
    have hset : ∀ y : Nat, (bytesV (pr ++ [x] ++ suf)).set k (.int .u8 y) = bytesV (pr ++ [y] ++ suf) := by
      intro y; simp [bytesV, ← hk']
    have hbl := H.get_lt hgb
    have hpl := H.get_lt hgp
    have hgb0 := hgb
    obtain ⟨c, hc⟩ : ∃ c, c = bytesV (pr ++ [x] ++ suf) := ⟨_, rfl⟩
    have hcl : c.length = len := by rw [hc]; simpa using hl
    rw [← hc] at hgb hix hset
    have hw := fun v => wr1_of hgb (o := k) (by omega) v
    have hpb : ∀ v, (h.put b v).get p = h.get p := fun v => get_put_ne hn
    by_cases hx5 : x = 255
    · subst hx5
      have hz : c.set k (.int .u8 0) = bytesV (pr ++ [0] ++ suf) := hset 0
      have hg2 : (h.put b (.cells (bytesV (pr ++ [0] ++ suf)) tb false)).get b = some (.cells (bytesV (pr ++ [0] ++ suf)) tb false) := get_put_same hbl
      obtain ⟨c', hc'⟩ : ∃ c', c' = bytesV (pr ++ [0] ++ suf) := ⟨_, rfl⟩
      obtain ⟨h1, hh1⟩ : ∃ h1, h1 = h.put b (.cells c' tb false) := ⟨_, rfl⟩
      have hgp1 : h1.get p = some (.cells [.sl b 0 len (.op 1), c1, c2] t false) := by rw [hh1, hpb, hgp]
      rw [← hc'] at hz hg2
      rw [← hh1] at hg2
      rw [loopZ_eq]
      simp [l31_0, he0, he2, rd1_of hgp, rd1_of hgb, hix, hlk, hw, hz, w8, ← hh1]
      rw [wi64 (by omega) (by omega)]
      obtain ⟨e', h', cur, i1, i2, i3, i4, i5⟩ := loop31 p b t tb c1 c2 len k pr (0 :: suf) h1 ⟨[V.ptr p 0, V.int IntKind.i64 ((k : Int) - 1)], 2, V.int IntKind.i64 ((k : Int) - 1)⟩ hk' (fun x hx => hp x (by simp [hx]))
        (by simpa using hl) hs hgp1 (by rw [hg2, hc']; simp) hn (by simp) (by simp)
      have hu : Upd h b (.cells c' tb false) h1 := by rw [hh1]; exact upd_put hbl _
      refine ⟨e', h', i1, i2, cur, hu.trans i3, i4, ?_⟩
      rw [inc_snoc]
      simpa using i5
    · rw [loopZ_eq]
      have hne : ¬ ((x : Int) = 255) := by omega
      simp [l31_0, he0, he2, rd1_of hgp, rd1_of hgb, hix, hlk, hw, hne]
      refine ⟨_, _, ⟨rfl, rfl⟩, by simp, c, Upd.refl hgb, hcl, .inr ⟨k, by simp, hlk, x, hix, by omega, ?_⟩⟩
      rw [inc_snoc, if_neg hx5]
      simpa using hset (x + 1)

/-- goes, behind the carry. -/
noncomputable def t31 (K : Oracle) (L : Looper) (e : E) (h : H) : Out :=
 sq (bd (nilC (e.s k31 0)) fun t55 =>
 bd (fa 0 t55) fun t56 =>
 bd (ld h t56) fun t57 =>
 bd (nilC (e.s k31 0)) fun t59 =>
 bd (fa 1 t59) fun t60 =>
 bd (ld h t60) fun t61 =>
 bd (binK 0 .quo t61 (.int .u64 16777216)) fun t62 =>
 bd (cv .u8 t62) fun t63 =>
 bf (bs h 5 1 [(.int .u8 0)] [(some (0, 1), t63)]) fun t64 h1 =>
 bf (apZ 5 1 1 h1 t57 t64) fun t65 h2 =>
 bd (nilC (e.s k31 0)) fun t66 =>
 bd (fa 0 t66) fun t67 =>
 bf (stZ 1 h2 t67 t65) fun _ h3 =>
 ck (ld h t56) t57 (ck (ld h t60) t61 (some ⟨.nm, ⟨[(e.s k31 0), (e.s k31 2)], 0, (e.s k31 0)⟩, h3⟩))) fun e h =>
 bd (nilC (e.s k31 0)) fun t70 =>
 bd (fa 1 t70) fun t71 =>
 bd (ld h t71) fun t72 =>
 bd (binK 0 .rem t72 (.int .u64 16777216)) fun t73 =>
 bd (binK 0 .mul t73 (.int .u64 256)) fun t74 =>
 bd (nilC (e.s k31 0)) fun t75 =>
 bd (fa 1 t75) fun t76 =>
 bf (stZ 1 h t76 t74) fun _ h1 =>
 some ⟨.nm, ⟨[(e.s k31 0), (e.s k31 2)], 0, (e.s k31 0)⟩, h1⟩

theorem tail31 {h1 : H} {p : Nat} {t : TypeId} {v rng : V} {o1 : List Nat} {l1 : Nat} {e : E} (he : e.s [0, 2] 0 = .ptr p 0) (a1 : EncAt h1 p t v o1 l1 rng) (hlen : o1.length < 1099511627775) (hl1 : l1 < 4294967296) :
    ∃ h' v', fin Try.prog k31 [] (t31 KK loopZ e h1) = some (.ret (.tup []), h') ∧ EncAt h' p t v' (o1 ++ [l1 / 16777216]) (l1 % 16777216 * 256) rng ∧ Fram h1 h' (fp p v) ∧ ∀ c o n k, v' = .sl c o n k → h1.n ≤ c := by
  have hpl1 := H.get_lt a1.cell
  obtain ⟨x, hx⟩ : ∃ x, x = l1 / 16777216 := ⟨_, rfl⟩
  obtain ⟨hn, hhn⟩ : ∃ hn, hn = h1.new (.cells [.int .u8 (x : Int)] 5 false) := ⟨_, rfl⟩
  have hnn : hn.n = h1.n + 1 := by rw [hhn, H.n_new]
  have hnew : hn.rdN h1.n 0 1 = some (bytesV [x]) := by
    rw [hhn]; simp [H.rdN, get_new_same, bytesV]
  have hg1 : Grow hn v o1 := by
    rcases a1.grow with ⟨e1, e2⟩ | ⟨b, e1, e2, e3⟩
    · exact .inl ⟨e1, e2⟩
    · exact .inr ⟨b, e1, e2, by rw [hhn, get_new_lt (H.get_lt e3), e3]⟩
  obtain ⟨h2, ha, hn2, hs2, hf2⟩ := append_ok hg1 (cp := .ex 1) hnew rfl (by decide) (by omega)
  have hp2 : h2.get p = some (.cells [v, .int .u64 l1, rng] t false) := by
    rw [hf2 p (by omega), hhn, get_new_lt hpl1, a1.cell]
    intro o n k e
    rcases a1.grow with ⟨e1, e2⟩ | ⟨b, e1, e2, e3⟩
    · rw [e1] at e; cases e
    · rw [e1] at e; cases e; exact sl_ne a1.cell e3 (by simp [e1]) rfl
  have e1 : (l1 : Int).tdiv 16777216 = (x : Int) := by
    rw [Int.tdiv_eq_ediv_of_nonneg (by omega), hx]; rfl
  have e2 : IntKind.u8.wrap (x : Int) = (x : Int) := by rw [w8]; omega
  have hck : ∀ {β : Type} (y : Option β), ck (some v) v y = y := by
    intro β y
    rcases a1.grow with ⟨e1, e2⟩ | ⟨b, e1, e2, e3⟩ <;> rw [e1] <;> simp
  have w1 := fun x => wr1_of hp2 (o := 0) (by simp) x
  obtain ⟨h3, hh3⟩ : ∃ h3, h3 = h2.put p (.cells [.sl hn.n 0 (o1.length + 1) (.op 1), .int .u64 l1, rng] t false) := ⟨_, rfl⟩
  have hp3 : h3.get p = some (.cells [.sl hn.n 0 (o1.length + 1) (.op 1), .int .u64 l1, rng] t false) := by rw [hh3]; exact get_put_same (by omega)
  have w3 := fun x => wr1_of hp3 (o := 1) (by simp) x
  have fin : Fram h1 (h3.put p (.cells [.sl hn.n 0 (o1.length + 1) (.op 1), .int .u64 ((l1 % 16777216 * 256 : Nat) : Int), rng] t false)) (fp p v) := by
    refine ⟨by rw [H.n_put, hh3, H.n_put]; omega, fun c hc hs => ?_⟩
    have hcp : c ≠ p := fun e => hs (.inl e)
    rw [get_put_ne hcp, hh3, get_put_ne hcp, hf2 c (by omega) (fun o n k e => hs (.inr ⟨o, n, k, e⟩)), hhn, get_new_lt (by omega)]
  have enc : EncAt (h3.put p (.cells [.sl hn.n 0 (o1.length + 1) (.op 1), .int .u64 ((l1 % 16777216 * 256 : Nat) : Int), rng] t false)) p t (.sl hn.n 0 (o1.length + 1) (.op 1)) (o1 ++ [l1 / 16777216]) (l1 % 16777216 * 256) rng := by
    refine ⟨get_put_same (by rw [hh3, H.n_put]; omega), .inr ⟨hn.n, by simp, by simp, ?_⟩, ?_, by show _ < _; omega⟩
    · rw [get_put_ne (by omega), hh3, get_put_ne (by omega), hs2, hx]
    · intro y hy
      rcases List.mem_append.mp hy with hy | hy
      · exact a1.byte y hy
      · simp at hy; omega
  have m1 : (l1 : Int).tmod 16777216 = (l1 : Int) % 16777216 := Int.tmod_eq_emod_of_nonneg (by omega)
  have m2 : IntKind.u64.wrap ((l1 : Int) % 16777216 * 256) = (l1 : Int) % 16777216 * 256 := w64 (by omega) (by omega)
  have m3 : IntKind.u64.wrap (x : Int) = x := w64 (by omega) (by omega)
  refine ⟨_, _, ?_, enc, fin, fun c o n k e => by cases e; omega⟩
  rw [t31]
  simp [he, rd1_of a1.cell, bs, fillW, e1, e2, m3, V.cells, splice, ← hhn, ha, w1, hck, ← hh3, rd1_of hp3, w3, m1, m2]

/-- goes, up to the carry. -/
noncomputable def h31 (K : Oracle) (L : Looper) (e : E) (h : H) : Out :=
 (sq (bd (nilC (e.s k31 0)) fun t4 =>
 bd (fa 1 t4) fun t5 =>
 bd (ld h t5) fun t6 =>
 bd (binK 0 .geq t6 (.int .u64 4294967296)) fun t7 =>
 some ⟨.nm, ⟨[(e.s k31 0), (e.s k31 2)], 7, t7⟩, h⟩) fun e h =>
 br (e.s k31 7) (sq (bd (nilC (e.s k31 0)) fun t9 =>
 bd (fa 0 t9) fun t10 =>
 bd (ld h t10) fun t11 =>
 bd (lnS t11) fun t12 =>
 bd (binK 0 .sub t12 (.int .i64 1)) fun t13 =>
 some ⟨.nm, ⟨[(e.s k31 0), t13], 2, t13⟩, h⟩) fun e h =>
 sq (blk 0 (L (l31_0 K L) e h)) fun e h =>
 sq (sq (bd (binK 0 .geq (e.s k31 2) (.int .i64 0)) fun t35 =>
 some ⟨.nm, ⟨[(e.s k31 0), (e.s k31 2)], 35, t35⟩, h⟩) fun e h =>
 br (e.s k31 35) (bd (nilC (e.s k31 0)) fun t37 =>
 bd (fa 0 t37) fun t38 =>
 bd (ld h t38) fun t39 =>
 bd (iaS 1 t39 (e.s k31 2)) fun t41 =>
 bd (ld h t41) fun t42 =>
 bd (binK 0 .add t42 (.int .u8 1)) fun t43 =>
 bd (iaS 1 t39 (e.s k31 2)) fun t44 =>
 bf (stZ 1 h t44 t43) fun _ h1 =>
 some ⟨.nm, ⟨[(e.s k31 0), (e.s k31 2)], 0, (e.s k31 0)⟩, h1⟩)
 (some ⟨.nm, e, h⟩)) fun e h =>
 bd (nilC (e.s k31 0)) fun t47 =>
 bd (fa 1 t47) fun t48 =>
 bd (ld h t48) fun t49 =>
 bd (binK 0 .sub t49 (.int .u64 4294967296)) fun t50 =>
 bd (nilC (e.s k31 0)) fun t51 =>
 bd (fa 1 t51) fun t52 =>
 bf (stZ 1 h t52 t50) fun _ h1 =>
 some ⟨.nm, ⟨[(e.s k31 0), (e.s k31 2)], 0, (e.s k31 0)⟩, h1⟩)
 (some ⟨.nm, e, h⟩))
theorem s31_eq (K : Oracle) (L : Looper) (e : E) (h : H) : s31 K L e h = sq (h31 K L e h) (t31 K L) := rfl

theorem head31 {h : H} {p : Nat} {t : TypeId} {v rng : V} {out : List Nat} {low : Nat} (a : EncAt h p t v out low rng) (hlen : out.length < 1099511627775) (hlow : low < 8589934592) :
    ∃ e' h1 o1 l1, h31 KK loopZ ⟨[.ptr p 0, V.und], 0, .ptr p 0⟩ h = some ⟨.nm, e', h1⟩ ∧ e'.s [0, 2] 0 = .ptr p 0 ∧ EncAt h1 p t v o1 l1 rng ∧ l1 < 4294967296 ∧ o1.length = out.length ∧
      emit out low = (o1 ++ [l1 / 16777216], l1 % 16777216 * 256) ∧ Fram h h1 (fp p v) ∧ h1.n = h.n := by
  have hpl := H.get_lt a.cell
  by_cases hc : 4294967296 ≤ low
  · have hem : emit out low = (inc out ++ [low % 4294967296 / 16777216], low % 4294967296 % 16777216 * 256) := by simp [emit, hc]
    have ml : IntKind.u64.wrap ((low : Int) - 4294967296) = (low : Int) % 4294967296 := by rw [w64 (by omega) (by omega)]; omega
    rcases a.grow with ⟨rfl, rfl⟩ | ⟨b, rfl, hne, hb⟩
    · have hw := fun v => wr1_of a.cell (o := 1) (by simp) v
      have hlp : loopZ (l31_0 KK loopZ) ⟨[.ptr p 0, .int .i64 (-1)], 2, .int .i64 (-1)⟩ h = some ⟨.ex 0, ⟨[.ptr p 0, .int .i64 (-1)], 25, .bool false⟩, h⟩ := by
        rw [loopZ_eq]
        simp [l31_0]
      simp [h31, rd1_of a.cell, show (4294967296 : Int) ≤ low by omega]
      rw [wi64 (by omega) (by omega)]
      simp [hlp, rd1_of a.cell, hw, ml]
      refine ⟨_, _, ⟨rfl, rfl⟩, by simp, [], low % 4294967296, ⟨get_put_same hpl, .inl ⟨rfl, rfl⟩, by simp, by omega⟩, by omega, rfl, by rw [hem]; rfl, ⟨Nat.le_refl _, fun c hc hs => get_put_ne fun e => hs (.inl e)⟩, rfl⟩
    · have hn := sl_ne a.cell hb (by simp)
      have hll : out.length ≠ 0 := by simpa using hne
      obtain ⟨e', h', cur, i1, i2, i3, i4, i5⟩ := loop31 p b t 5 (.int .u64 low) rng out.length out.length out [] h ⟨[.ptr p 0, .int .i64 ((out.length : Int) - 1)], 2, .int .i64 ((out.length : Int) - 1)⟩ rfl a.byte (by simp) (by omega) a.cell (by simpa using hb) hn (by simp) (by simp)
      have hc' : h'.get p = some (.cells [.sl b 0 out.length (.op 1), .int .u64 low, rng] t false) := by rw [i3.2, if_neg hn, a.cell]
      have hb' : h'.get b = some (.cells cur 5 false) := by rw [i3.2, if_pos rfl]
      have hnn : h'.n = h.n := i3.1
      simp only [List.append_nil] at i5
      have hine : inc out ≠ [] := by intro e; have := inc_length out; rw [e] at this; simp at this; exact hll this.symm
      simp [h31, rd1_of a.cell, show (4294967296 : Int) ≤ low by omega]
      rw [wi64 (by omega) (by omega)]
      rcases i5 with ⟨j1, j2⟩ | ⟨m, x, j1, j2, j3, j4, j5⟩
      · have hw := fun v => wr1_of hc' (o := 1) (by simp) v
        simp [i1, i2, j1, rd1_of hc', hw, ml]
        refine ⟨_, _, ⟨rfl, rfl⟩, by simp, inc out, low % 4294967296, ⟨get_put_same (by omega), .inr ⟨b, by rw [inc_length], hine, ?_⟩, inc_byte a.byte, by omega⟩, by omega, inc_length out, hem, ⟨by rw [H.n_put]; omega, fun c hc hs => ?_⟩, hnn⟩
        · rw [get_put_ne (Ne.symm hn), hb', j2]
        · rw [get_put_ne fun e => hs (.inl e), i3.2, if_neg fun e => hs (.inr ⟨_, _, _, by rw [e]⟩)]
      · have hw1 := fun v => wr1_of hb' (o := m) (by omega) v
        have hx8 : IntKind.u8.wrap ((x : Int) + 1) = ((x + 1 : Nat) : Int) := by rw [w8]; omega
        obtain ⟨h2, hh2⟩ : ∃ h2, h2 = h'.put b (.cells (bytesV (inc out)) 5 false) := ⟨_, rfl⟩
        have hc2 : h2.get p = some (.cells [.sl b 0 out.length (.op 1), .int .u64 low, rng] t false) := by rw [hh2, get_put_ne hn, hc']
        have hb2 : h2.get b = some (.cells (bytesV (inc out)) 5 false) := by rw [hh2, get_put_same (H.get_lt hb')]
        have hnn2 : h2.n = h.n := by rw [hh2, H.n_put, hnn]
        have hw2 := fun v => wr1_of hc2 (o := 1) (by simp) v
        simp only [Int.natCast_add, Int.cast_ofNat_Int] at j5 hx8
        simp [i1, i2, j1, rd1_of hc', rd1_of hb', j2, j3, hx8, hw1, j5, ← hh2, rd1_of hc2, hw2, ml]
        refine ⟨_, _, ⟨rfl, rfl⟩, by simp, inc out, low % 4294967296, ⟨get_put_same (by omega), .inr ⟨b, by rw [inc_length], hine, ?_⟩, inc_byte a.byte, by omega⟩, by omega, inc_length out, hem, ⟨by rw [H.n_put]; omega, fun c hc hs => ?_⟩, hnn2⟩
        · rw [get_put_ne (Ne.symm hn), hb2]
        · rw [get_put_ne fun e => hs (.inl e), hh2, get_put_ne (fun e => hs (.inr ⟨_, _, _, by rw [e]⟩)), i3.2, if_neg fun e => hs (.inr ⟨_, _, _, by rw [e]⟩)]
  · have hem : emit out low = (out ++ [low / 16777216], low % 16777216 * 256) := by simp [emit, hc]
    simp [h31, rd1_of a.cell, show ¬ (4294967296 : Int) ≤ low by omega]
    exact ⟨_, _, ⟨rfl, rfl⟩, by simp, out, low, a, by omega, rfl, hem, ⟨Nat.le_refl _, fun _ _ _ => rfl⟩, rfl⟩

theorem goes_ok {h : H} {p : Nat} {t : TypeId} {v rng : V} {out : List Nat} {low : Nat} (a : EncAt h p t v out low rng) (hlen : out.length < 1099511627775) (hlow : low < 8589934592) :
    ∃ h' v', KK 31 [.ptr p 0] h = some (.ret (.tup []), h') ∧ EncAt h' p t v' (emit out low).1 (emit out low).2 rng ∧ Fram h h' (fp p v) ∧ ∀ c o n k, v' = .sl c o n k → h.n ≤ c := by
  obtain ⟨e', h1, o1, l1, k1, k2, k3, k4, k5, k6, k7, k8⟩ := head31 a hlen hlow
  obtain ⟨h', v', m1, m2, m3, m4⟩ := tail31 k2 k3 (by omega) k4
  refine ⟨h', v', ?_, by rw [k6]; exact m2, ⟨by have := m3.1; omega, fun c hc hs => ?_⟩, fun c o n k e => by have := m4 c o n k e; omega⟩
  · rw [KK, c31, f31, s31_eq, k1]; exact m1
  · rw [m3.2 c (by omega) hs, k7.2 c hc hs]

end Go.Proofs.Ytpikblkbeoophaa
