/- The plain law of coders: what was written is read. -/
import Derived.Test.YtfjghgjkpenanaaSbc
set_option linter.unusedVariables false
set_option linter.unusedSimpArgs false
namespace Go.Proofs.Ytfjghgjkpenanaa
open Go Go.Zf

abbrev wS (s : Sr) : Side := .w s.1 s.2.1 s.2.2
abbrev s0 : Sr := ([], 0, 4294967295)
theorem s0_ok : SOk s0 := ⟨⟨by simp, by simp, by simp [at_, bev], by simp⟩, by simp, by simp, by simp⟩
/-- What a reader is like that has read of B what a writer has written. -/
def mate (B : List Nat) (s : Sr) : Side := .r (B.drop (s.1.length + 4)) (pre B (s.1.length + 4) - at_ s.1 s.2.1) s.2.2
theorem WithinS.trans {a b c : Sr} (x : WithinS a b) (y : WithinS b c) : WithinS a c := Within.trans x y
theorem putS_within {s : Sr} {lo hi : Nat} (h : SOk s) (h2 : lo < hi) (h3 : hi ≤ 32768) : SOk (putS s (lo, hi)) ∧ WithinS s (putS s (lo, hi)) :=
  puts_within [(lo, hi)] h (by simp; omega)
theorem Side.code_r (rest : List Nat) (code rng lo hi : Nat) : (Side.r rest code rng).code lo hi = .r (take rest code rng lo hi).1 (take rest code rng lo hi).2.1 (take rest code rng lo hi).2.2 := rfl
theorem Side.code_w (s : Sr) (lo hi : Nat) : (wS s).code lo hi = wS (putS s (lo, hi)) := rfl
theorem Side.bit_r (rest : List Nat) (code rng x : Nat) : (Side.r rest code rng).bit x = value code rng / 16384 := rfl
theorem Side.bit_w (s : Sr) (x : Nat) : (wS s).bit x = x := rfl
theorem Side.val_r (t : Tb) (x : Int) (rest : List Nat) (code rng : Nat) : (Side.r rest code rng).val t x = findP t (value code rng) := rfl
theorem Side.val_ws (t : Tb) (x : Int) (s : Sr) : (wS s).val t x = x.toNat := rfl
theorem puts_cons (s : Sr) (p : Nat × Nat) (l : List (Nat × Nat)) : puts s (p :: l) = puts (putS s p) l := rfl
theorem puts_nil (s : Sr) : puts s [] = s := rfl
theorem side_eq {x : List Nat × Nat × Nat} {a : List Nat} {b c : Nat} (h : x = (a, b, c)) : Side.r x.1 x.2.1 x.2.2 = .r a b c := by subst h; rfl
theorem mate_eq {B : List Nat} {s : Sr} {x : List Nat × Nat × Nat} (h : x = (B.drop (s.1.length + 4), pre B (s.1.length + 4) - at_ s.1 s.2.1, s.2.2)) : Side.r x.1 x.2.1 x.2.2 = mate B s := by
  rw [side_eq h, mate]
attribute [local irreducible] putS puts at_ take value dread part bytes steps
/-- What a reader does where a writer has put a part. -/
theorem mate_code {T s : Sr} {lo hi : Nat} (hT : SOk T) (hs : SOk s) (h2 : lo < hi) (h3 : hi ≤ 32768) (w : WithinS (putS s (lo, hi)) T) :
    ∃ b c r, mate (bytes T.1 T.2.1) s = .r b c r ∧ lo ≤ value c r ∧ value c r < hi ∧ (mate (bytes T.1 T.2.1) s).code lo hi = mate (bytes T.1 T.2.1) (putS s (lo, hi)) := by
  obtain ⟨g1, g2, g3, g4⟩ := put_at hs h2 h3
  have hmid : Within (at_ s.1 s.2.1 + (part s.2.2 lo hi).1) (part s.2.2 lo hi).2 s.1.length (at_ T.1 T.2.1) T.2.2 T.1.length := by
    refine Within.trans ⟨steps 3 (part s.2.2 lo hi).2, g2, Nat.le_of_eq g3.symm, ?_⟩ w
    rw [g3, g4, ← Nat.add_mul]
    exact Nat.le_refl _
  have hl := bytes_lie hT hmid
  clear w hmid g1 g2 g3 g4
  obtain ⟨B, hB⟩ : ∃ B, B = bytes T.1 T.2.1 := ⟨_, rfl⟩
  rw [← hB] at hl ⊢
  obtain ⟨⟨q1, q2⟩, q3⟩ := dec_step hs h2 h3 hl
  obtain ⟨u, hu⟩ : ∃ u, u = putS s (lo, hi) := ⟨_, rfl⟩
  rw [← hu] at q3 ⊢
  have hm : mate B s = .r (B.drop (s.1.length + 4)) (pre B (s.1.length + 4) - at_ s.1 s.2.1) s.2.2 := by rw [mate]
  rw [hm]
  obtain ⟨V, hV⟩ : ∃ V, V = pre B (s.1.length + 4) - at_ s.1 s.2.1 := ⟨_, rfl⟩
  rw [← hV] at q1 q2 q3 ⊢
  obtain ⟨x, hx⟩ : ∃ x, x = take (B.drop (s.1.length + 4)) V s.2.2 lo hi := ⟨_, rfl⟩
  rw [← hx] at q3
  refine ⟨_, _, _, rfl, q1, q2, ?_⟩
  rw [Side.code_r, ← hx]
  exact mate_eq q3

/-- The parts that bits are coded as. -/
def bitsP : Nat → Nat → List (Nat × Nat)
  | 0, _ => []
  | j + 1, v => (v / 2 ^ j % 2 * 16384, v / 2 ^ j % 2 * 16384 + 16384) :: bitsP j v
theorem bitsP_ok : ∀ (j v : Nat), ∀ p ∈ bitsP j v, p.1 < p.2 ∧ p.2 ≤ 32768
  | 0, v, p, h => by simp [bitsP] at h
  | j + 1, v, p, h => by
    simp only [bitsP, List.mem_cons] at h
    rcases h with rfl | h
    · simp only; omega
    · exact bitsP_ok j v p h
theorem bit_num (j v out : Nat) : (2 * out + v / 2 ^ j % 2) * 2 ^ j + v % 2 ^ j = out * 2 ^ (j + 1) + v % 2 ^ (j + 1) := by
  have h1 : v % 2 ^ (j + 1) = v % 2 ^ j + 2 ^ j * (v / 2 ^ j % 2) := Nat.mod_mul
  rw [h1, Nat.pow_succ, Nat.add_mul, Nat.mul_comm 2 out, Nat.mul_assoc, Nat.mul_comm 2 (2 ^ j), Nat.mul_comm (v / 2 ^ j % 2)]
  omega
attribute [local irreducible] mate
theorem bits_zero (v out : Nat) (sd : Side) : bits 0 v out sd = (out, sd) := rfl
theorem bits_succ (j v out : Nat) (sd : Side) : bits (j + 1) v out sd = bits j v (2 * out + sd.bit (v / 2 ^ j % 2)) (sd.code (sd.bit (v / 2 ^ j % 2) * 16384) (sd.bit (v / 2 ^ j % 2) * 16384 + 16384)) := rfl
theorem bitsP_succ (j v : Nat) : bitsP (j + 1) v = (v / 2 ^ j % 2 * 16384, v / 2 ^ j % 2 * 16384 + 16384) :: bitsP j v := rfl
theorem bits_w (j : Nat) : ∀ (v out : Nat) (s : Sr), bits j v out (wS s) = (out * 2 ^ j + v % 2 ^ j, wS (puts s (bitsP j v))) := by
  induction j with
  | zero =>
    intro v out s
    rw [bits_zero, show bitsP 0 v = [] from rfl, puts_nil]; simp [Nat.mod_one]
  | succ j ih =>
    intro v out s
    rw [bits_succ, Side.bit_w, Side.code_w, ih, bit_num, bitsP_succ, puts_cons]
theorem bits_mate {T : Sr} (hT : SOk T) (j : Nat) : ∀ (v v' out : Nat) (s : Sr), SOk s → WithinS (puts s (bitsP j v)) T →
    bits j v' out (mate (bytes T.1 T.2.1) s) = (out * 2 ^ j + v % 2 ^ j, mate (bytes T.1 T.2.1) (puts s (bitsP j v))) := by
  induction j with
  | zero =>
    intro v v' out s hs w
    rw [bits_zero, show bitsP 0 v = [] from rfl, puts_nil]; simp [Nat.mod_one]
  | succ j ih =>
    intro v v' out s hs w
    obtain ⟨b, hb⟩ : ∃ b, b = v / 2 ^ j % 2 := ⟨_, rfl⟩
    have hb2 : b < 2 := by omega
    have hn := bit_num j v out
    rw [bitsP_succ, puts_cons] at w
    rw [bitsP_succ, puts_cons]
    rw [← hb] at w hn ⊢
    obtain ⟨k1, k2⟩ := putS_within hs (lo := b * 16384) (hi := b * 16384 + 16384) (by omega) (by omega)
    have w1 := (puts_within (bitsP j v) k1 (bitsP_ok j v)).2
    obtain ⟨x, c, r, e1, e2, e3, e4⟩ := mate_code hT hs (lo := b * 16384) (hi := b * 16384 + 16384) (by omega) (by omega) (w1.trans w)
    have hbit : ∀ x, (mate (bytes T.1 T.2.1) s).bit x = b := fun x => by
      rw [e1, Side.bit_r]; omega
    rw [bits_succ, hbit, e4, ih v v' _ _ k1 w, hn]

theorem find_mate {t : Tb} (ok : TabOk t) {v at_ : Nat} (hv : v < t.c.length) (h1 : pt t v ≤ at_) (h2 : at_ < pt t (v + 1)) : findP t at_ = v :=
  findP_eq hv h2 fun j hj => Nat.le_trans (pt_mono ok (show j + 1 ≤ v by omega) (by omega)) h1
theorem val_mate {T s : Sr} {t : Tb} (ok : TabOk t) {v : Nat} (hT : SOk T) (hs : SOk s) (hv : v < t.c.length) (w : WithinS (putS s (pt t v, pt t (v + 1))) T) (x : Int) :
    (mate (bytes T.1 T.2.1) s).val t x = v ∧ (mate (bytes T.1 T.2.1) s).code (pt t v) (pt t (v + 1)) = mate (bytes T.1 T.2.1) (putS s (pt t v, pt t (v + 1))) := by
  obtain ⟨y, c, r, e1, e2, e3, e4⟩ := mate_code hT hs (pt_lt ok hv) (pt_le ok (Nat.succ_le_of_lt hv)) w
  refine ⟨?_, e4⟩
  rw [e1, Side.val_r]
  exact find_mate ok hv e2 e3

/-! Things to code. -/
inductive Op where
  | num (n v : Nat)
  | sym (k c v : Nat)
def Op.ok : Op → Prop
  | .num n v => n < 16 ∧ v < 2 ^ n
  | .sym k c v => k < 32 ∧ c < cx k ∧ v < vl k
def St.step (st : St) : Op → St
  | .num n v => st.num n v
  | .sym k c v => st.sym k c v
def St.run (st : St) (l : List Op) : St := l.foldl St.step st
/-- The reader that has read what a writer has written. -/
def mateS (B : List Nat) (s : Sr) (st : St) : St := ⟨mate B s, st.S, st.ad, st.n⟩

theorem step_w {st : St} {s : Sr} (hs : st.sd = wS s) (ok : SOk s) (so : SetOk st.S) {o : Op} (ho : o.ok) :
    ∃ s', (st.step o).sd = wS s' ∧ SOk s' ∧ WithinS s s' ∧ SetOk (st.step o).S ∧ (st.step o).ad = st.ad ∧ (st.ad = false → (st.step o).S = st.S) ∧
      ∀ T, SOk T → WithinS s' T → match o with
        | .num n v => ((mateS (bytes T.1 T.2.1) s st).num n 0 = mateS (bytes T.1 T.2.1) s' (st.step o)) ∧ (mateS (bytes T.1 T.2.1) s st).numV n 0 = v ∧ st.numV n v = v
        | .sym k c v => ((mateS (bytes T.1 T.2.1) s st).sym k c (-1) = mateS (bytes T.1 T.2.1) s' (st.step o)) ∧ (mateS (bytes T.1 T.2.1) s st).symV k c (-1) = v ∧ st.symV k c v = v := by
  cases o with
  | num n v =>
    obtain ⟨h1, h2⟩ := ho
    have hv : v % 2 ^ n = v := Nat.mod_eq_of_lt h2
    have hw := bits_w n v 0 s
    rw [hv, Nat.zero_mul, Nat.zero_add] at hw
    have k := puts_within (bitsP n v) ok (bitsP_ok n v)
    refine ⟨puts s (bitsP n v), ?_, k.1, k.2, so, rfl, fun _ => rfl, fun T hT w => ?_⟩
    · show (bits n v 0 st.sd).2 = _
      rw [hs, hw]
    · have hm := bits_mate hT n v 0 0 s ok w
      rw [hv, Nat.zero_mul, Nat.zero_add] at hm
      refine ⟨?_, ?_, ?_⟩
      · show St.mk (bits n 0 0 (mate _ s)).2 st.S st.ad (st.n + n) = _
        rw [hm]; rfl
      · show (bits n 0 0 (mate _ s)).1 = v
        rw [hm]
      · show (bits n v 0 st.sd).1 = v
        rw [hs, hw]
  | sym k c v =>
    obtain ⟨h1, h2, h3⟩ := ho
    obtain ⟨r, hr, ht, tok, tl⟩ := so.get h1 h2
    obtain ⟨t, htd⟩ : ∃ t, t = tabOf st.S k c := ⟨_, rfl⟩
    rw [← htd] at ht tok tl
    have hvl : v < t.c.length := by omega
    obtain ⟨k1, k2⟩ := putS_within ok (pt_lt tok hvl) (pt_le tok (Nat.succ_le_of_lt hvl))
    have hval : st.sd.val t (v : Int) = v := by rw [hs]; simp [Side.val]
    have hst : st.step (.sym k c v) = ⟨wS (putS s (pt t v, pt t (v + 1))), if st.ad then st.S.set k ((st.S.getD k []).set c (adaptP t v)) else st.S, st.ad, st.n + 1⟩ := by
      show st.sym k c v = _
      rw [St.sym, ← htd, hval, hs, Side.code_w]
    refine ⟨putS s (pt t v, pt t (v + 1)), by rw [hst], k1, k2, ?_, by rw [hst], fun h => by rw [hst]; simp [h], fun T hT w => ?_⟩
    · rw [hst]
      show SetOk (if st.ad then _ else _)
      split
      · exact so.set h1 (adaptP_ok tok v) (by rw [adaptP_len, tl])
      · exact so
    · obtain ⟨m1, m2⟩ := val_mate tok hT ok hvl w (-1)
      refine ⟨?_, ?_, ?_⟩
      · rw [hst]
        show St.sym ⟨mate _ s, st.S, st.ad, st.n⟩ k c (-1) = _
        rw [St.sym]
        simp only
        rw [← htd, m1, m2]; rfl
      · show (mate _ s).val (tabOf st.S k c) (-1) = v
        rw [← htd, m1]
      · show st.sd.val (tabOf st.S k c) v = v
        rw [← htd, hval]

theorem run_within : ∀ (l : List Op) {st : St} {s : Sr}, st.sd = wS s → SOk s → SetOk st.S → (∀ o ∈ l, o.ok) →
    ∃ T, (st.run l).sd = wS T ∧ SOk T ∧ WithinS s T
  | [], st, s, hs, ok, so, ho => ⟨s, hs, ok, Within.refl _ _ _⟩
  | o :: l, st, s, hs, ok, so, ho => by
    obtain ⟨s', h1, h2, h3, h4, _, _, _⟩ := step_w hs ok so (ho o (by simp))
    obtain ⟨T, g1, g2, g3⟩ := run_within l h1 h2 h4 fun o' h => ho o' (by simp [h])
    exact ⟨T, g1, g2, h3.trans g3⟩

theorem newR_mate {T : Sr} (hT : SOk T) (w : WithinS s0 T) (S : List (List Tb)) (ad : Bool) :
    newR (bytes T.1 T.2.1) S ad = mateS (bytes T.1 T.2.1) s0 (newW S ad) := by
  have h0 := dsh_pre (bytes T.1 T.2.1) 4 0
  rw [pre_zero] at h0
  simp only [List.drop_zero, Nat.zero_add] at h0
  have hw : Within 0 4294967295 0 (at_ T.1 T.2.1) T.2.2 T.1.length := by simpa [WithinS, at_, bev] using w
  have hl := (bytes_lie hT hw).2
  simp only [Nat.zero_add] at hl
  have hd : dread (bytes T.1 T.2.1) = ((bytes T.1 T.2.1).drop 4, pre (bytes T.1 T.2.1) 4) := by
    simp only [dread, h0]
    rw [Nat.min_eq_left (by omega)]
  rw [newR, hd]
  simp [mateS, mate, newW, at_, bev]
end Go.Proofs.Ytfjghgjkpenanaa
