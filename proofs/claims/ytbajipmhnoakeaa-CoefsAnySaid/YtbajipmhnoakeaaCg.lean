/- A block being coded: symbol, number, length. -/
import Derived.Test.YtbajipmhnoakeaaCf
set_option linter.unusedVariables false
set_option linter.unusedSimpArgs false
set_option maxRecDepth 20000
namespace Go.Proofs.Ytbajipmhnoakeaa
open Go Go.Zf
open Go.Zf (wi64)

theorem bc_pan (keep ds : List Nat) (e : E) (v : V) (h : H) (k : V → H → Out) : bc keep ds e (some (.pan v, h)) k = some ⟨.pn v, fgE keep ds e, h⟩ := id rfl
theorem sq_pn (v : V) (e : E) (h : H) (k : E → H → Out) : sq (some ⟨.pn v, e, h⟩) k = some ⟨.pn v, e, h⟩ := id rfl
theorem blk_pn (n : Nat) (v : V) (e : E) (h : H) : blk n (some ⟨.pn v, e, h⟩) = some ⟨.pn v, e, h⟩ := id rfl
theorem fin_pn (P : Program) (keep : List Nat) (rs : List ResultVar) (v : V) (e : E) (h : H) : fin P keep rs (some ⟨.pn v, e, h⟩) = some (.pan v, h) := id rfl
theorem panV_i (t : TypeId) (v : V) (h : H) : panV (.iface t v) h = some (.pan (.iface t v), h) := id rfl
/-- What a call answers, or how it stops. -/
def RP (ok : V → H → Prop) (bad : H → Prop) : Option (Rv × H) → Prop
  | some (.ret v, h) => ok v h
  | some (.pan v, h) => v = .iface 88 (.agg [.int .i64 4]) ∧ bad h
  | none => False
theorem RP_cg {ok : V → H → Prop} {bad : H → Prop} {x y : Option (Rv × H)} (h : x = y) : RP ok bad x = RP ok bad y := by rw [h]
attribute [congr] RP_cg
theorem RP.elim {ok : V → H → Prop} {bad : H → Prop} {x : Option (Rv × H)} (a : RP ok bad x) : (∃ v h', x = some (.ret v, h') ∧ ok v h') ∨ (∃ h', x = some (.pan (.iface 88 (.agg [.int .i64 4])), h') ∧ bad h') := by
  unfold RP at a
  split at a
  · exact .inl ⟨_, _, rfl, a⟩
  · obtain ⟨rfl, a⟩ := a; exact .inr ⟨_, rfl, a⟩
  · exact a.elim

/-- Whole numbers that lie where nothing of X is. -/
structure IntsX (X : Nat → Prop) (h : H) (v : V) (l : List Int) : Prop where
  len : lnS v = some (.int .i64 l.length)
  at_ : ∀ (i : Nat) x, l[i]? = some x → ∃ b o, iaS 1 v (.int .i64 (i : Nat)) = some (.ptr b o) ∧ h.rd1 b o = some (.int .i64 x) ∧ ¬ X b ∧ b < h.n
  cell : v.isCell = true
  same : V.same v v = true
  cells : V.cells v = some [v]

structure Base (D0 : Nat → Prop) (h0 : H) (q c ob : Nat) (vs : V) (L : Nat) (B : BD) : Prop where
  hq : h0.get q = some (.cells [.ptr c 0, .int .i64 B.size, .int .i64 B.colour, .int .i64 B.sign, .sl ob 0 (B.n * B.n) (.ex (B.n * B.n)), vs, .sl L 0 (B.n * B.n) (.ex (B.n * B.n))] 72 false)
  ho : h0.get ob = some (.cells (intsV (B.ord.map fun (x : Nat) => (x : Int))) 3 false)
  hs : IntsX (fun b => D0 b ∨ b = L) h0 vs B.src
  nq : ¬ D0 q ∧ q ≠ L
  no : ¬ D0 ob ∧ ob ≠ L
  nl : ¬ D0 L ∧ L < h0.n
  size : sizeOk B.size
  n : B.n = sideP B.size
  colour : B.colour ≤ 1
  sign : B.sign ≤ 2
  ord : B.ord = ordN B.n
  ordl : B.ord.length = B.n * B.n
  ordb : ∀ x ∈ B.ord, x < B.n * B.n
  srcl : B.src.length = B.n * B.n
  srcb : ∀ x ∈ B.src, -1048576 ≤ x ∧ x ≤ 1048576
  dn : ∀ b, D0 b → b < h0.n

structure Cd (D0 : Nat → Prop) (h0 : H) (c L : Nat) (B : BD) (h : H) (m : Nat) (st : St) (lv : List Int) : Prop where
  C : CoderAt (grow D0 h0 h) h c m st
  x : Mod (fun b => D0 b ∨ b = L) h0 h
  l : LvAt h L lv
  ll : lv.length = B.n * B.n
  wr : st.sd.writes = B.wr

section cd
variable {D0 : Nat → Prop} {h0 h h' : H} {q c ob L m : Nat} {vs : V} {B : BD} {st : St} {lv : List Int}

theorem Base.nn (S : Base D0 h0 q c ob vs L B) : 4 ≤ B.n ∧ B.n ≤ 32 ∧ 16 ≤ B.n * B.n ∧ B.n * B.n ≤ 1024 := by
  have h1 := sideP_b S.size
  rw [← S.n] at h1
  have : B.n * B.n ≤ 32 * 32 := Nat.mul_le_mul h1.2 h1.2
  have : 4 * 4 ≤ B.n * B.n := Nat.mul_le_mul h1.1 h1.1
  omega
theorem Base.src (S : Base D0 h0 q c ob vs L B) (i : Nat) : -1048576 ≤ B.src.getD i 0 ∧ B.src.getD i 0 ≤ 1048576 := by
  by_cases hi : i < B.src.length
  · have : B.src.getD i 0 = B.src[i] := by simp [List.getD, hi]
    rw [this]; exact S.srcb _ (List.getElem_mem hi)
  · have : B.src.getD i 0 = 0 := by simp [List.getD, List.getElem?_eq_none (by omega : B.src.length ≤ i)]
    rw [this]; omega
theorem Cd.gq (S : Base D0 h0 q c ob vs L B) (a : Cd D0 h0 c L B h m st lv) : h.get q = some (.cells [.ptr c 0, .int .i64 B.size, .int .i64 B.colour, .int .i64 B.sign, .sl ob 0 (B.n * B.n) (.ex (B.n * B.n)), vs, .sl L 0 (B.n * B.n) (.ex (B.n * B.n))] 72 false) := by
  rw [a.x.get _ (H.get_lt S.hq) (by rintro (e | e); exact S.nq.1 e; exact S.nq.2 e), S.hq]
theorem Cd.o (S : Base D0 h0 q c ob vs L B) (a : Cd D0 h0 c L B h m st lv) {i : Nat} (hi : i < B.n * B.n) : h.rd1 ob i = some (.int .i64 (B.ord.getD i 0 : Nat)) ∧ B.ord.getD i 0 < B.n * B.n := by
  have h1 : h.get ob = _ := (a.x.get _ (H.get_lt S.ho) (by rintro (e | e); exact S.no.1 e; exact S.no.2 e)).trans S.ho
  have hi2 : i < B.ord.length := by rw [S.ordl]; exact hi
  refine ⟨?_, ?_⟩
  · rw [rd1_of h1]; simp [intsV, hi2]
  · have : B.ord.getD i 0 = B.ord[i] := by simp [List.getD, hi2]
    rw [this]; exact S.ordb _ (List.getElem_mem hi2)
theorem Cd.s (S : Base D0 h0 q c ob vs L B) (a : Cd D0 h0 c L B h m st lv) {i : Nat} (hi : i < B.n * B.n) : ∃ b o, iaS 1 vs (.int .i64 (i : Nat)) = some (.ptr b o) ∧ h.rd1 b o = some (.int .i64 (B.src.getD i 0)) := by
  have hi2 : i < B.src.length := by rw [S.srcl]; exact hi
  obtain ⟨b, o, h1, h2, h3, h4⟩ := S.hs.at_ i _ (List.getElem?_eq_getElem hi2)
  refine ⟨b, o, h1, ?_⟩
  have : B.src.getD i 0 = B.src[i] := by simp [List.getD, hi2]
  rw [this, ← h2]
  have hg := a.x.get b h4 h3
  unfold H.rd1; rw [hg]
theorem Cd.step (S : Base D0 h0 q c ob vs L B) (a : Cd D0 h0 c L B h m st lv) {m' : Nat} {st' : St} (C' : CoderAt (grow (grow D0 h0 h) h h') h' c m' st') (M : Mod (grow D0 h0 h) h h') (w : st'.sd.writes = st.sd.writes) : Cd D0 h0 c L B h' m' st' lv := by
  have hn := a.x.n
  have nL : ¬ grow D0 h0 h L := by rintro (e | e); exact S.nl.1 e; have := S.nl.2; omega
  refine ⟨C'.mono fun b hb hd => ?_, ⟨by have := M.n; omega, fun b hb hd => ?_⟩, ⟨?_, a.l.b⟩, a.ll, by rw [w, a.wr]⟩
  · rcases hd with (e | e) | e
    · exact .inl e
    · exact .inr ⟨e.1, hb⟩
    · exact .inr ⟨by omega, hb⟩
  · rw [M.get b (by omega) (by rintro (e | e); exact hd (.inl e); omega), a.x.get b hb hd]
  · rw [M.get L (H.get_lt a.l.get) nL, a.l.get]
theorem Cd.ext (S : Base D0 h0 q c ob vs L B) (a : Cd D0 h0 c L B h m st lv) (x : Ext h h') : Cd D0 h0 c L B h' m st lv := by
  have hn := a.x.n
  have hx := x.n
  refine ⟨(a.C.keep x.n fun b _ hb => x.get b hb).mono fun b hb hd => ?_, ⟨by omega, fun b hb hd => by rw [x.get b (by omega), a.x.get b hb hd]⟩, a.l.ext x, a.ll, a.wr⟩
  rcases hd with e | e
  · exact .inl e
  · exact .inr ⟨e.1, hb⟩
theorem Cd.more (a : Cd D0 h0 c L B h m st lv) {m' : Nat} (hm : m ≤ m') (hm' : m' < 100000000) : Cd D0 h0 c L B h m' st lv := by
  obtain ⟨vo, vi, vs, Ds, Dw, h1, h2, h3, h4, h5, h6, h7, h8, h9⟩ := a.C
  refine ⟨⟨vo, vi, vs, Ds, Dw, h1, h2, h3, ?_, h5, h6, ⟨h7.1, by omega⟩, h8, h9⟩, a.x, a.l, a.ll, a.wr⟩
  generalize st.sd = sd at h4 ⊢
  cases sd with
  | w out low rng => exact ⟨h4.1, by have := h4.2.1; omega, hm'⟩
  | r rest code rng => exact ⟨h4.1, h4.2.1, hm'⟩
theorem Cd.set (S : Base D0 h0 q c ob vs L B) (a : Cd D0 h0 c L B h m st lv) {i : Nat} {v : Int} (hi : i < B.n * B.n) (hv : -4611686018427387904 < v ∧ v < 4611686018427387904) :
    h.wr1 L i (.int .i64 v) = some (h.put L (.cells (intsV (lv.set i v)) 3 false)) ∧ Cd D0 h0 c L B (h.put L (.cells (intsV (lv.set i v)) 3 false)) m st (lv.set i v) := by
  have hl := H.get_lt a.l.get
  have hn := a.x.n
  have nL : ¬ grow D0 h0 h L := by rintro (e | e); exact S.nl.1 e; have := S.nl.2; omega
  have e1 : (intsV lv).set i (.int .i64 v) = intsV (lv.set i v) := by simp [intsV, List.map_set]
  refine ⟨by rw [wr1_of a.l.get (by rw [intsV_length, a.ll]; exact hi), e1], ⟨(a.C.keep (by rw [H.n_put]; exact Nat.le_refl _) fun b hb hb2 => get_put_ne (by rintro rfl; exact nL hb)).mono fun b hb hd => ?_, ⟨by rw [H.n_put]; exact hn, fun b hb hd => ?_⟩, ⟨get_put_same hl, ?_⟩, by rw [List.length_set]; exact a.ll, a.wr⟩⟩
  · rcases hd with e | e
    · exact .inl e
    · exact .inr ⟨e.1, by rw [H.n_put]; exact e.2⟩
  · rw [get_put_ne (by rintro rfl; exact hd (.inr rfl)), a.x.get b hb hd]
  · intro x hx
    rcases List.mem_or_eq_of_mem_set hx with e | e
    · exact a.l.b x e
    · rw [e]; exact hv
theorem Side.bits_writes : ∀ (j v out : Nat) (sd : Side), (bits j v out sd).2.writes = sd.writes
  | 0, v, out, sd => rfl
  | j + 1, v, out, sd => by rw [bits, Side.bits_writes]; exact Side.code_writes _ _ _
theorem CoderAt.ok {D : Nat → Prop} {h : H} {p m : Nat} {st : St} (a : CoderAt D h p m st) : SetOk st.S ∧ SideOk m st.sd ∧ 0 ≤ st.n ∧ st.n ≤ 100 * m := by
  obtain ⟨vo, vi, vs, Ds, Dw, h1, h2, h3, h4, h5, h6, h7, h8, h9⟩ := a
  exact ⟨h6, h4, h7.1, h7.2⟩
theorem St.symV_lt {st : St} (ok : SetOk st.S) {k x : Nat} {v : Int} (hk : k < 32) (hx : x < cx k) (hv : st.sd.writes = true → 0 ≤ v ∧ v < vl k) : st.symV k x v < vl k := by
  obtain ⟨r, _, _, tok, tl⟩ := ok.get hk hx
  have := (Side.val_may (v := v) (sd := st.sd) tok (by rw [tl]; exact hv)).1
  rw [tl] at this; exact this
theorem St.numV_lt {st : St} {m : Nat} (ok : SideOk m st.sd) {n v : Nat} (hm : m + n < 100000000) : st.numV n v < 2 ^ n := by
  have := (bits_ok n v 0 ok hm).2
  simpa [St.numV] using this
theorem bits_out (j : Nat) : ∀ (v out : Nat) (sd : Side), sd.writes = true → (bits j v out sd).1 = out * 2 ^ j + v % 2 ^ j := by
  induction j with
  | zero => intro v out sd hw; simp [bits]; omega
  | succ j ih =>
    intro v out sd hw
    rw [bits, ih _ _ _ (by rw [Side.code_writes]; exact hw)]
    have hb : sd.bit (v / 2 ^ j % 2) = v / 2 ^ j % 2 := by cases sd with | w => rfl | r => cases hw
    rw [hb]
    have h1 : v % 2 ^ (j + 1) = v % 2 ^ j + 2 ^ j * (v / 2 ^ j % 2) := by rw [Nat.pow_succ, Nat.mod_mul]
    rw [h1, Nat.pow_succ, Nat.add_mul, Nat.mul_comm 2 out, Nat.mul_assoc, Nat.mul_comm 2 (2 ^ j), Nat.mul_comm (2 ^ j) (v / 2 ^ j % 2)]
    omega
theorem St.numV_w {st : St} (hw : st.sd.writes = true) (n v : Nat) (hv : v < 2 ^ n) : st.numV n v = v := by
  unfold St.numV; rw [bits_out n v 0 _ hw, Nat.mod_eq_of_lt hv]; omega
theorem St.symV_w {st : St} (hw : st.sd.writes = true) (k x : Nat) (v : Int) : st.symV k x v = v.toNat := by
  unfold St.symV; generalize st.sd = sd at hw; cases sd with | w => rfl | r => cases hw
theorem St.sym_wr (st : St) (k x : Nat) (v : Int) : (st.sym k x v).sd.writes = st.sd.writes := Side.code_writes _ _ _
theorem St.num_wr (st : St) (n v : Nat) : (st.num n v).sd.writes = st.sd.writes := Side.bits_writes _ _ _ _

theorem sym50_ok (S : Base D0 h0 q c ob vs L B) (a : Cd D0 h0 c L B h m st lv) {k x : Nat} {v : Int} (hm : m + 1 < 100000000) (hk : k < 32) (hx : x < cx k) (hv : 0 ≤ v ∧ v < vl k) :
    RT (fun w h' => w = .int .i64 (st.symV k x v : Nat) ∧ Cd D0 h0 c L B h' (m + 1) (st.sym k x v) lv) (KW 50 [.ptr q 0, .int .i64 k, .int .i64 x, .int .i64 v] h) := by
  obtain ⟨w, h1, e1, rfl, C1, M1⟩ := (symbol30_ok a.C hm hk hx (fun _ => hv)).elim
  have e0 : h.rd1 q 0 = some (.ptr c 0) := by rw [rd1_of (a.gq S)]; rfl
  rw [w50, f50, s50]
  simp [e0, e1, must61_ok]
  exact ⟨rfl, a.step S C1 M1 (St.sym_wr _ _ _ _)⟩
theorem num54_ok (S : Base D0 h0 q c ob vs L B) (a : Cd D0 h0 c L B h m st lv) {n : Nat} {v : Int} (hm : m + n < 100000000) (hn : n ≤ 30) (hv : B.wr = true → 0 ≤ v ∧ v < 2 ^ n) :
    RT (fun w h' => w = .int .i64 (st.numV n v.toNat : Nat) ∧ Cd D0 h0 c L B h' (m + n) (st.num n v.toNat) lv) (KW 54 [.ptr q 0, .int .i64 n, .int .i64 v] h) := by
  obtain ⟨w, h1, e1, rfl, C1, M1⟩ := (bits29_ok (n := n) (v := v) a.C hn hm (fun hw => by rw [a.wr] at hw; have := hv hw; refine ⟨this.1, ?_⟩; unfold pw; have e := two_pow_cast n; omega)).elim
  have e0 : h.rd1 q 0 = some (.ptr c 0) := by rw [rd1_of (a.gq S)]; rfl
  rw [w54, f54, s54]
  simp [e0, e1, must61_ok]
  exact ⟨rfl, a.step S C1 M1 (St.num_wr _ _ _)⟩
theorem writes26_ok {D : Nat → Prop} {h : H} {p m : Nat} {st : St} (a : CoderAt D h p m st) : KW 26 [.ptr p 0] h = some (.ret (.bool st.sd.writes), h) := by
  obtain ⟨vo, vi, vs, Ds, Dw, h1, h2, h3, _⟩ := a
  exact writes14_ok h1 h3
end cd
end Go.Proofs.Ytbajipmhnoakeaa
