/- Texts of ours made one: Sv Sw Sx Sy Saa Sab Sac Sad. -/
import Derived.Test.YtfjghgjkpenanaaSu
/- The range coders as parts of something that owns blocks. -/
set_option linter.unusedVariables false
set_option linter.unusedSimpArgs false
set_option maxRecDepth 20000
namespace Go.Proofs.Ytfjghgjkpenanaa
open Go Go.Zf
open Go.Zf (wi64)

/-- What a coder's range coder is like: it writes, or reads. -/
inductive Side where
  | w (out : List Nat) (low rng : Nat)
  | r (rest : List Nat) (code rng : Nat)
/-- After m codings at most. -/
def SideOk (m : Nat) : Side → Prop
  | .w out low rng => EInv low rng ∧ out.length ≤ 3 * m ∧ m < 100000000
  | .r rest code rng => DInv code rng ∧ (∀ x ∈ rest, x < 256) ∧ m < 100000000

def EncD (D : Nat → Prop) (h : H) (p : Nat) (t : TypeId) (out : List Nat) (low : Nat) (rng : V) : Prop := ∃ v, EncAt h p t v out low rng ∧ D p ∧ ∀ c o n k, v = .sl c o n k → D c
def DecD (D : Nat → Prop) (h : H) (p : Nat) (rest : List Nat) (code rng : Nat) : Prop := ∃ v, DecAt h (fun c => c = p ∨ ¬ D c) p v rest code rng ∧ D p
def RefD (D : Nat → Prop) (h : H) (m p : Nat) (rest : List Nat) (code rng : Nat) : Prop := ∃ at_, RefAt h (fun c => c = p ∨ ¬ D c) p at_ rest code rng ∧ at_ ≤ 4 + 3 * m ∧ D p

section own
variable {D E : Nat → Prop} {h h' : H}
theorem EncD.keep {p : Nat} {t : TypeId} {out : List Nat} {low : Nat} {rng : V} (a : EncD D h p t out low rng) (hk : ∀ b, D b → b < h.n → h'.get b = h.get b) : EncD D h' p t out low rng := by
  obtain ⟨v, e, hp, hv⟩ := a
  refine ⟨v, ⟨by rw [hk p hp (H.get_lt e.cell), e.cell], ?_, e.byte, e.low64⟩, hp, hv⟩
  rcases e.grow with g | ⟨b, g1, g2, g3⟩
  · exact .inl g
  · exact .inr ⟨b, g1, g2, by rw [hk b (hv _ _ _ _ g1) (H.get_lt g3), g3]⟩
theorem EncD.mono {p : Nat} {t : TypeId} {out : List Nat} {low : Nat} {rng : V} (a : EncD D h p t out low rng) (hd : ∀ b, b < h.n → D b → E b) : EncD E h p t out low rng := by
  obtain ⟨v, e, hp, hv⟩ := a
  refine ⟨v, e, hd p (H.get_lt e.cell) hp, fun c o n k ev => hd c ?_ (hv c o n k ev)⟩
  rcases e.grow with ⟨g, _⟩ | ⟨b, g1, g2, g3⟩
  · rw [g] at ev; cases ev
  · rw [g1] at ev; cases ev; exact H.get_lt g3
theorem DecD.keep {p : Nat} {rest : List Nat} {code rng : Nat} (a : DecD D h p rest code rng) (hk : ∀ b, D b → b < h.n → h'.get b = h.get b) : DecD D h' p rest code rng := by
  obtain ⟨v, e, hp⟩ := a
  exact ⟨v, ⟨by rw [hk p hp (H.get_lt e.cell), e.cell], e.own, e.sl.keep fun b hb hx => hk b (Classical.not_not.mp fun hn => hx (.inr hn)) hb, e.byte⟩, hp⟩
theorem DecD.mono {p : Nat} {rest : List Nat} {code rng : Nat} (a : DecD D h p rest code rng) (hd : ∀ b, b < h.n → D b → E b) : DecD E h p rest code rng := by
  obtain ⟨v, e, hp⟩ := a
  refine ⟨v, ⟨e.cell, .inl rfl, e.sl.mono fun b hb hx => ?_, e.byte⟩, hd p (H.get_lt e.cell) hp⟩
  rintro (h1 | h1)
  · exact hx (.inl h1)
  · exact h1 (hd b hb (Classical.not_not.mp fun hn => hx (.inr hn)))
theorem RefD.keep {m p : Nat} {rest : List Nat} {code rng : Nat} (a : RefD D h m p rest code rng) (hk : ∀ b, D b → b < h.n → h'.get b = h.get b) : RefD D h' m p rest code rng := by
  obtain ⟨at_, ⟨⟨v, B, hc, hs, hr, hB⟩, ho, hf⟩, hm, hp⟩ := a
  exact ⟨at_, ⟨⟨v, B, by rw [hk p hp (H.get_lt hc), hc], hs.keep fun b hb hx => hk b (Classical.not_not.mp fun hn => hx (.inr hn)) hb, hr, hB⟩, ho, hf⟩, hm, hp⟩
theorem RefD.mono {m p : Nat} {rest : List Nat} {code rng : Nat} (a : RefD D h m p rest code rng) (hd : ∀ b, b < h.n → D b → E b) : RefD E h m p rest code rng := by
  obtain ⟨at_, ⟨⟨v, B, hc, hs, hr, hB⟩, ho, hf⟩, hm, hp⟩ := a
  refine ⟨at_, ⟨⟨v, B, hc, hs.mono fun b hb hx => ?_, hr, hB⟩, .inl rfl, hf⟩, hm, hd p (H.get_lt hc) hp⟩
  rintro (h1 | h1)
  · exact hx (.inl h1)
  · exact h1 (hd b hb (Classical.not_not.mp fun hn => hx (.inr hn)))

theorem Own.mod {p : Nat} {v v' : V} (o : Own h h' p v v') (hp : D p) (hv : ∀ c o n k, v = .sl c o n k → D c) : Mod D h h' :=
  ⟨o.fr.1, fun c hc hd => o.fr.2 c hc (by rintro (e | ⟨a, b, k, e⟩); exact hd (e ▸ hp); exact hd (hv _ _ _ _ e))⟩
theorem Only.mod {p : Nat} (o : Only h h' p) (hp : D p) : Mod D h h' := ⟨by rw [o.1]; exact Nat.le_refl _, fun c hc hd => o.2 c (fun e => hd (e ▸ hp))⟩
theorem Own.encD {p : Nat} {t : TypeId} {v v' : V} {out : List Nat} {low : Nat} {rng : V} (o : Own h h' p v v') (e : EncAt h' p t v' out low rng) (hp : D p) (hv : ∀ c o n k, v = .sl c o n k → D c) : EncD (grow D h h') h' p t out low rng := by
  refine ⟨v', e, .inl hp, fun c a n k ev => ?_⟩
  rcases o.nw with e1 | e1
  · exact .inl (hv _ _ _ _ (e1 ▸ ev))
  · refine .inr ⟨e1 _ _ _ _ ev, ?_⟩
    rcases e.grow with ⟨g, _⟩ | ⟨b, g1, g2, g3⟩
    · rw [g] at ev; cases ev
    · rw [g1] at ev; cases ev; exact H.get_lt g3

/-- A part is put: the program's encoder. -/
theorem put82_ok {m p : Nat} {out : List Nat} {low rng lo hi : Nat} (a : EncD D h p 119 out low (.int .u32 rng)) (ok : SideOk m (.w out low rng)) (h2 : lo < hi) (h3 : hi ≤ 32768) :
    ∃ h', KW 82 [.ptr p 0, .int .u32 lo, .int .u32 hi] h = some (.ret (.int .i64 0), h') ∧ EncD (grow D h h') h' p 119 (put out low rng lo hi).1 (put out low rng lo hi).2.1 (.int .u32 (put out low rng lo hi).2.2) ∧ Mod D h h' := by
  obtain ⟨v, e, hp, hv⟩ := a
  have o1 := ok.1; have o2 := ok.2.1; have o3 := ok.2.2
  obtain ⟨h', v', k1, k2, k3⟩ := put12_ok e o1 (by omega) h2 h3
  exact ⟨h', k1, k3.encD k2 hp hv, k3.mod hp hv⟩
theorem put70_ok {m p : Nat} {out : List Nat} {low rng lo hi : Nat} (a : EncD D h p 121 out low (.int .u64 rng)) (ok : SideOk m (.w out low rng)) (h2 : lo < hi) (h3 : hi ≤ 32768) :
    ∃ h', KW 70 [.ptr p 0, .int .u32 lo, .int .u32 hi] h = some (.ret (.int .i64 0), h') ∧ EncD (grow D h h') h' p 121 (put out low rng lo hi).1 (put out low rng lo hi).2.1 (.int .u64 (put out low rng lo hi).2.2) ∧ Mod D h h' := by
  obtain ⟨v, e, hp, hv⟩ := a
  have o1 := ok.1; have o2 := ok.2.1; have o3 := ok.2.2
  obtain ⟨h', v', k1, k2, k3⟩ := put13_ok e o1 (by omega) h2 h3
  exact ⟨h', k1, k3.encD k2 hp hv, k3.mod hp hv⟩
theorem put_side {m : Nat} {out : List Nat} {low rng lo hi : Nat} (ok : SideOk m (.w out low rng)) (hm : m + 1 < 100000000) (h2 : lo < hi) (h3 : hi ≤ 32768) : SideOk (m + 1) (.w (put out low rng lo hi).1 (put out low rng lo hi).2.1 (put out low rng lo hi).2.2) := by
  have o1 := ok.1; have o2 := ok.2.1
  have := put_inv (out := out) o1 h2 h3
  exact ⟨this.1, by omega, hm⟩
theorem take83_ok {m p : Nat} {rest : List Nat} {code rng lo hi : Nat} (a : DecD D h p rest code rng) (ok : SideOk m (.r rest code rng)) (h1 : lo ≤ value code rng) (h2 : value code rng < hi) (h3 : hi ≤ 32768) :
    ∃ h', KW 83 [.ptr p 0, .int .u32 lo, .int .u32 hi] h = some (.ret (.int .i64 0), h') ∧ DecD D h' p (take rest code rng lo hi).1 (take rest code rng lo hi).2.1 (take rest code rng lo hi).2.2 ∧ Mod D h h' := by
  obtain ⟨v, e, hp⟩ := a
  obtain ⟨h', v', k1, k2, k3⟩ := take24_ok e ok.1 h1 h2 h3
  exact ⟨h', k1, ⟨v', k2, hp⟩, k3.mod hp⟩
theorem take73_ok {m p : Nat} {rest : List Nat} {code rng lo hi : Nat} (a : RefD D h m p rest code rng) (ok : SideOk m (.r rest code rng)) (h1 : lo ≤ value code rng) (h2 : value code rng < hi) (h3 : hi ≤ 32768) :
    ∃ h', KW 73 [.ptr p 0, .int .u32 lo, .int .u32 hi] h = some (.ret (.int .i64 0), h') ∧ RefD D h' (m + 1) p (take rest code rng lo hi).1 (take rest code rng lo hi).2.1 (take rest code rng lo hi).2.2 ∧ Mod D h h' := by
  obtain ⟨at_, e, hm, hp⟩ := a
  have o3 := ok.2.2
  obtain ⟨h', at', k1, k0, k2, k3⟩ := take25_ok e (by omega) ok.1 h1 h2 h3
  exact ⟨h', k1, ⟨at', k2, by omega, hp⟩, k3.mod hp⟩
theorem take_side {m : Nat} {rest : List Nat} {code rng lo hi : Nat} (ok : SideOk m (.r rest code rng)) (hm : m + 1 < 100000000) (h1 : lo ≤ value code rng) (h2 : value code rng < hi) (h3 : hi ≤ 32768) : SideOk (m + 1) (.r (take rest code rng lo hi).1 (take rest code rng lo hi).2.1 (take rest code rng lo hi).2.2) := by
  have := take_inv ok.1 h1 h2 h3 ok.2.1
  exact ⟨this.1, this.2, hm⟩
end own

/-- What coding a part makes of it. -/
def Side.code (lo hi : Nat) : Side → Side
  | .w out low rng => .w (put out low rng lo hi).1 (put out low rng lo hi).2.1 (put out low rng lo hi).2.2
  | .r rest code rng => .r (take rest code rng lo hi).1 (take rest code rng lo hi).2.1 (take rest code rng lo hi).2.2
def Side.writes : Side → Bool
  | .w _ _ _ => true
  | .r _ _ _ => false
/-- The part that is asked for is one that may be coded. -/
def Side.may (lo hi : Nat) : Side → Prop
  | .w _ _ _ => lo < hi ∧ hi ≤ 32768
  | .r _ code rng => lo ≤ value code rng ∧ value code rng < hi ∧ hi ≤ 32768
theorem Side.code_ok {m lo hi : Nat} {sd : Side} (ok : SideOk m sd) (hm : m + 1 < 100000000) (h : sd.may lo hi) : SideOk (m + 1) (sd.code lo hi) := by
  cases sd with
  | w out low rng => exact put_side ok hm h.1 h.2
  | r rest code rng => exact take_side ok hm h.1 h.2.1 h.2.2

def SideAt (D : Nat → Prop) (h : H) (vo vi : V) : Side → Prop
  | .w out low rng => ∃ e, vo = .ptr e 0 ∧ vi = .nilp ∧ EncD D h e 119 out low (.int .u32 rng)
  | .r rest code rng => ∃ e, vo = .nilp ∧ vi = .ptr e 0 ∧ DecD D h e rest code rng
def SideRef (D : Nat → Prop) (h : H) (m : Nat) (vo vi : V) : Side → Prop
  | .w out low rng => ∃ e, vo = .ptr e 0 ∧ vi = .nilp ∧ EncD D h e 121 out low (.int .u64 rng)
  | .r rest code rng => ∃ e, vo = .nilp ∧ vi = .ptr e 0 ∧ RefD D h m e rest code rng
theorem SideAt.keep {D : Nat → Prop} {h h' : H} {vo vi : V} {sd : Side} (a : SideAt D h vo vi sd) (hk : ∀ b, D b → b < h.n → h'.get b = h.get b) : SideAt D h' vo vi sd := by
  cases sd with
  | w out low rng => obtain ⟨e, h1, h2, h3⟩ := a; exact ⟨e, h1, h2, h3.keep hk⟩
  | r rest code rng => obtain ⟨e, h1, h2, h3⟩ := a; exact ⟨e, h1, h2, h3.keep hk⟩
theorem SideAt.mono {D E : Nat → Prop} {h : H} {vo vi : V} {sd : Side} (a : SideAt D h vo vi sd) (hd : ∀ b, b < h.n → D b → E b) : SideAt E h vo vi sd := by
  cases sd with
  | w out low rng => obtain ⟨e, h1, h2, h3⟩ := a; exact ⟨e, h1, h2, h3.mono hd⟩
  | r rest code rng => obtain ⟨e, h1, h2, h3⟩ := a; exact ⟨e, h1, h2, h3.mono hd⟩
theorem SideRef.keep {D : Nat → Prop} {h h' : H} {m : Nat} {vo vi : V} {sd : Side} (a : SideRef D h m vo vi sd) (hk : ∀ b, D b → b < h.n → h'.get b = h.get b) : SideRef D h' m vo vi sd := by
  cases sd with
  | w out low rng => obtain ⟨e, h1, h2, h3⟩ := a; exact ⟨e, h1, h2, h3.keep hk⟩
  | r rest code rng => obtain ⟨e, h1, h2, h3⟩ := a; exact ⟨e, h1, h2, h3.keep hk⟩
theorem SideRef.mono {D E : Nat → Prop} {h : H} {m : Nat} {vo vi : V} {sd : Side} (a : SideRef D h m vo vi sd) (hd : ∀ b, b < h.n → D b → E b) : SideRef E h m vo vi sd := by
  cases sd with
  | w out low rng => obtain ⟨e, h1, h2, h3⟩ := a; exact ⟨e, h1, h2, h3.mono hd⟩
  | r rest code rng => obtain ⟨e, h1, h2, h3⟩ := a; exact ⟨e, h1, h2, h3.mono hd⟩
end Go.Proofs.Ytfjghgjkpenanaa
/- A value of a table is coded: the program. -/
set_option linter.unusedVariables false
set_option linter.unusedSimpArgs false
set_option maxRecDepth 20000
namespace Go.Proofs.Ytfjghgjkpenanaa
open Go Go.Zf
open Go.Zf (wi64)

/-- Which value is coded. -/
def Side.val (t : Tb) (v : Int) : Side → Nat
  | .w _ _ _ => v.toNat
  | .r _ code rng => findP t (value code rng)
theorem value_lt (code rng : Nat) : value code rng < 32768 := by unfold value; omega
theorem Side.val_may {t : Tb} {v : Int} {sd : Side} (ok : TabOk t) (hv : sd.writes = true → 0 ≤ v ∧ v < t.c.length) : sd.val t v < t.c.length ∧ sd.may (pt t (sd.val t v)) (pt t (sd.val t v + 1)) := by
  cases sd with
  | w out low rng =>
    have := hv rfl
    have h1 : v.toNat < t.c.length := by omega
    exact ⟨h1, pt_lt ok h1, pt_le ok (show v.toNat + 1 ≤ _ by omega)⟩
  | r rest code rng =>
    have := findP_lt ok (value_lt code rng)
    exact ⟨this.1, this.2.1, this.2.2, pt_le ok (Nat.succ_le_of_lt this.1)⟩

theorem writes14_ok {h : H} {p : Nat} {vo vi vs ba bn : V} {sd : Side} {D : Nat → Prop} (hp : h.get p = some (.cells [vo, vi, vs, ba, bn] 84 false)) (s : SideAt D h vo vi sd) : KW 14 [.ptr p 0] h = some (.ret (.bool sd.writes), h) := by
  rw [w14, f14, s14]
  cases sd with
  | w out low rng => obtain ⟨e, rfl, rfl, _⟩ := s; simp [rd1_of hp, Side.writes]
  | r rest code rng => obtain ⟨e, rfl, rfl, _⟩ := s; simp [rd1_of hp, Side.writes]
theorem none44_ok {h : H} {p : Nat} {vo vi vs ba bn : V} {sd : Side} {D : Nat → Prop} (hp : h.get p = some (.cells [vo, vi, vs, ba, bn] 84 false)) (s : SideAt D h vo vi sd) : KW 44 [.ptr p 0] h = some (.ret (.bool false), h) := by
  rw [w44, f44, s44]
  cases sd with
  | w out low rng => obtain ⟨e, rfl, rfl, _⟩ := s; simp [rd1_of hp, gl_t]
  | r rest code rng => obtain ⟨e, rfl, rfl, _⟩ := s; simp [rd1_of hp, gl_t]

theorem SideAt.ext {D : Nat → Prop} {h h' : H} {vo vi : V} {sd : Side} (a : SideAt D h vo vi sd) (x : Ext h h') : SideAt D h' vo vi sd := a.keep fun b _ hb => x.get b hb

theorem value57_ok {D D2 : Nat → Prop} {h : H} {p m : Nat} {vo vi vs ba bn vc : V} {sd : Side} {t : Tb} {v : Int} (hp : h.get p = some (.cells [vo, vi, vs, ba, bn] 84 false)) (s : SideAt D h vo vi sd) (so : SideOk m sd) (hD : ∀ b, D b → b < h.n) (hDp : ¬ D p) (u : U16 D2 h vc t.c) (ok : TabOk t) (hv : sd.writes = true → 0 ≤ v ∧ v < t.c.length) :
    RT (fun w h' => w = .tup [.int .i64 (sd.val t v : Nat), .int .i64 0] ∧ SideAt (grow D h h') h' vo vi (sd.code (pt t (sd.val t v)) (pt t (sd.val t v + 1))) ∧ Mod D h h') (KW 57 [.ptr p 0, .agg [vc, .int .i64 t.n], .int .i64 v] h) := by
  obtain ⟨h1, b1, x1, g1, n1, u1⟩ := box72 u
  have hp1 : h1.get p = _ := (x1.get _ (H.get_lt hp)).trans hp
  have s1 := s.ext x1
  have e14 := writes14_ok hp1 s1
  obtain ⟨hsl, hmay⟩ := Side.val_may ok hv
  have hpl := H.get_lt hp
  rw [w57, f57, s57]
  cases sd with
  | w out low rng =>
    obtain ⟨e, rfl, rfl, E1⟩ := s1
    have hv1 := hv rfl
    obtain ⟨k, hk⟩ : ∃ k : Nat, v = k := ⟨v.toNat, by omega⟩
    subst hk
    simp only [Side.val, Int.toNat_natCast] at hsl hmay ⊢
    obtain ⟨w, h2, e85, rfl, x2⟩ := (bounds85_ok u1 ok hsl).elim
    have hp2 : h2.get p = _ := (x2.get _ (H.get_lt hp1)).trans hp1
    have E2 := E1.keep (h' := h2) fun b _ hb => x2.get b hb
    have s2 : SideAt D h2 (.ptr e 0) .nilp (.w out low rng) := ⟨e, rfl, rfl, E2⟩
    have e142 := writes14_ok hp2 s2
    obtain ⟨h3, e82, E3, M3⟩ := put82_ok E2 so hmay.1 hmay.2
    have hx : Ext h h2 := x1.trans x2
    simp [b1, e14, Side.writes, rdN_of (o := 0) (n := 2) g1 (by simp), e85, e142, rd1_of hp2, e82]
    refine ⟨rfl, ⟨e, rfl, rfl, E3.mono fun b hb hd => ?_⟩, (Mod.of hx).tr M3⟩
    rcases hd with hd | ⟨hd1, hd2⟩
    · exact .inl hd
    · exact .inr ⟨by have := hx.n; omega, hd2⟩
  | r rest code rng =>
    obtain ⟨e, rfl, rfl, E1⟩ := s1
    simp only [Side.val] at hsl hmay ⊢
    obtain ⟨va, da, _⟩ := E1
    have e81 := value21_ok da so.1
    have hE1 : DecD D h1 e rest code rng := by obtain ⟨e', _, he, E⟩ := s.ext x1; cases he; exact E
    obtain ⟨w, h2, e84, rfl, x2⟩ := (find84_ok u1 ok (value_lt code rng)).elim
    have g2 : h2.get h.n = _ := (x2.get _ (H.get_lt g1)).trans g1
    obtain ⟨w, h3, e85, rfl, x3⟩ := (bounds85_ok (u1.ext x2) ok hsl).elim
    have hp3 : h3.get p = _ := ((x2.trans x3).get _ (H.get_lt hp1)).trans hp1
    have E3 := hE1.keep (h' := h3) fun b _ hb => (x2.trans x3).get b hb
    have s3 : SideAt D h3 .nilp (.ptr e 0) (.r rest code rng) := ⟨e, rfl, rfl, E3⟩
    have e143 := writes14_ok hp3 s3
    obtain ⟨h4, e83, E4, M4⟩ := take83_ok E3 so hmay.1 hmay.2.1 hmay.2.2
    have hx : Ext h h3 := (x1.trans x2).trans x3
    simp [b1, e14, Side.writes, rd1_of hp1, e81, rdN_of (o := 0) (n := 2) g1 (by simp), e84, rdN_of (o := 0) (n := 2) g2 (by simp), e85, e143, rd1_of hp3, e83]
    exact ⟨rfl, ⟨e, rfl, rfl, E4.mono fun b hb hd => .inl hd⟩, (Mod.of hx).tr M4⟩
end Go.Proofs.Ytfjghgjkpenanaa
/- Symbol, of the program. -/
set_option linter.unusedVariables false
set_option linter.unusedSimpArgs false
set_option maxRecDepth 20000
namespace Go.Proofs.Ytfjghgjkpenanaa
open Go Go.Zf
open Go.Zf (wi64)

theorem U16.move {D E : Nat → Prop} {h h' : H} {v : V} {c : List Nat} (a : U16 D h v c) (hk : ∀ b x, D b → h.get b = some (.cells x tU false) → h'.get b = h.get b ∧ E b) : U16 E h' v c := by
  refine ⟨?_, a.2⟩
  rcases a.1 with a | ⟨b, o, k, x, h1, h2, h3, h4, h5⟩
  · exact .inl a
  · have := hk b x h5.1 h2
    exact .inr ⟨b, o, k, x, h1, by rw [this.1, h2], h3, h4, this.2, h5.2⟩
theorem Els.move {D E : Nat → Prop} {h h' : H} {cs : List V} {r : List Tb} (a : Els D h cs r) (hk : ∀ b x, D b → h.get b = some (.cells x tU false) → h'.get b = h.get b ∧ E b) : Els E h' cs r := fun i t hi => by
  obtain ⟨vc, h1, h2, h3⟩ := a i t hi; exact ⟨vc, h1, h2, h3.move hk⟩

/-- One table of a set, and what becomes of the set when it is put. -/
theorem SetW.tab {D : Nat → Prop} {h : H} {v : V} {S : List (List Tb)} (a : SetW D h v S) {k c : Nat} {r : List Tb} {t : Tb} (hr : S[k]? = some r) (ht : r[c]? = some t) :
    ∃ bO oO vr bb cells vc, iaS 1 v (.int .i64 k) = some (.ptr bO oO) ∧ h.rd1 bO oO = some vr ∧ D bO ∧ bO < h.n ∧ iaS 2 vr (.int .i64 c) = some (.ptr bb (c * 2)) ∧ h.get bb = some (.cells cells 72 false) ∧ c * 2 + 2 ≤ cells.length ∧ h.rdN bb (c * 2) 2 = some [vc, .int .i64 t.n] ∧ U16 D h vc t.c ∧ D bb ∧
      ∀ (h1 : H) (E : Nat → Prop) (vc' : V) (t' : Tb), (∀ b, D b → b < h.n → h1.get b = h.get b) → h.n ≤ h1.n → (∀ b, D b → b < h.n → E b) → U16 E h1 vc' t'.c → SetW E (h1.put bb (.cells (splice cells (c * 2) [vc', .int .i64 t'.n]) 72 false)) v (S.set k (r.set c t')) := by
  obtain ⟨cs, B, h1, h2, hB⟩ := a
  have hk := lt_of_get hr
  have hc := lt_of_get ht
  obtain ⟨vr, k1, k2⟩ := h2 k r hr
  rcases k2 with ⟨rfl, rfl⟩ | ⟨kk, cells, rfl, g1, g2, g3, g4, g5⟩
  · simp at ht
  rcases h1 with ⟨rfl, rfl, rfl⟩ | ⟨bO, k0, rfl, o1, o2, o3, o4⟩
  · simp at hr
  obtain ⟨vc, e1, e2, e3⟩ := g4 c t ht
  refine ⟨bO, k, _, B k, cells, vc, by simp [hk], by rw [rd1_of o1, k1], o3, H.get_lt o1, by simp [hc], g1, by omega, ?_, e3, g3, ?_⟩
  · rw [rdN_of g1 (by omega)]
    congr 1
    apply List.ext_getElem?
    intro j
    simp only [List.getElem?_take, List.getElem?_drop]
    match j with
    | 0 => simp [Nat.mul_comm c 2, e1]
    | 1 => simp [Nat.mul_comm c 2, e2]
    | j + 2 => simp; omega
  · intro h1 E vc' t' hk1 hn hE u
    obtain ⟨h9, hh9⟩ : ∃ g, g = h1.put (B k) (.cells (splice cells (c * 2) [vc', .int .i64 t'.n]) 72 false) := ⟨_, rfl⟩
    rw [← hh9]
    have g1' : h1.get (B k) = some (.cells cells 72 false) := by rw [hk1 _ g3 (H.get_lt g1), g1]
    have hne : ∀ b x ty, D b → h.get b = some (.cells x ty false) → b ≠ B k → h9.get b = h.get b := fun b x ty hb hx hne => by
      rw [hh9, get_put_ne hne, hk1 b hb (H.get_lt hx)]
    have hU : ∀ b x, D b → h.get b = some (.cells x tU false) → h9.get b = h.get b := fun b x hb hx => hne b x tU hb hx (by rintro rfl; rw [g1] at hx; cases hx)
    refine ⟨cs, B, .inr ⟨bO, k0, by rw [List.length_set], by rw [hne bO _ _ o3 o1 (by rintro rfl; rw [g1] at o1; cases o1), o1], by rw [List.length_set]; exact o2, hE _ o3 (H.get_lt o1), by rw [List.length_set]; exact o4⟩, fun i s hs => ?_, fun i j hij hj => hB i j hij (by rw [List.length_set] at hj; exact hj)⟩
    rw [List.getElem?_set] at hs
    by_cases ei : k = i
    · subst ei
      rw [if_pos rfl, if_pos hk] at hs
      cases hs
      refine ⟨_, k1, .inr ⟨kk, _, by rw [List.length_set], by rw [hh9, get_put_same (H.get_lt g1')], by rw [splice_len (by simp; omega), List.length_set, g2], hE _ g3 (H.get_lt g1), ?_, by rw [List.length_set]; exact g5⟩⟩
      have hEl : Els E h9 cells r := g4.move fun b x hb hx => ⟨hU b x hb hx, hE b hb (H.get_lt hx)⟩
      have u9 : U16 E h9 vc' t'.c := u.keep fun b x hb hx => by rw [hh9, get_put_ne]; rintro rfl; rw [g1'] at hx; cases hx
      exact hEl.set g2 hc u9
    · rw [if_neg ei] at hs
      obtain ⟨vi, j1, j2⟩ := h2 i s hs
      refine ⟨vi, j1, ?_⟩
      rcases j2 with j2 | ⟨k', c', a1, a2, a3, a4, a5, a6⟩
      · exact .inl j2
      · have hi := lt_of_get hs
        have hBi : B i ≠ B k := by
          rcases Nat.lt_or_gt_of_ne ei with e | e
          · have := hB k i e hi; omega
          · have := hB i k e hk; omega
        exact .inr ⟨k', c', a1, by rw [hne _ _ _ a4 a2 hBi, a2], a3, hE _ a4 (H.get_lt a2), a5.move (fun b x hb hx => ⟨hU b x hb hx, hE b hb (H.get_lt hx)⟩), a6⟩

/-! A coder. -/
structure St where
  sd : Side
  S : List (List Tb)
  ad : Bool
  n : Int
def tabOf (S : List (List Tb)) (k c : Nat) : Tb := (S.getD k []).getD c ⟨[], 0⟩
theorem SetOk.get {S : List (List Tb)} (a : SetOk S) {k c : Nat} (hk : k < 32) (hc : c < cx k) : ∃ r, S[k]? = some r ∧ r[c]? = some (tabOf S k c) ∧ TabOk (tabOf S k c) ∧ (tabOf S k c).c.length = vl k := by
  obtain ⟨r, hr⟩ := get_of_lt (l := S) (i := k) (by rw [a.1]; exact hk)
  have h1 := a.2 k r hr
  obtain ⟨t, ht⟩ := get_of_lt (l := r) (i := c) (by rw [h1.1]; exact hc)
  have e : tabOf S k c = t := by simp [tabOf, hr, ht]
  rw [e]
  exact ⟨r, hr, ht, (h1.2 c t ht).2, (h1.2 c t ht).1⟩
theorem SetOk.set {S : List (List Tb)} (a : SetOk S) {k c : Nat} {t : Tb} (hk : k < 32) (ht : TabOk t) (hl : t.c.length = vl k) : SetOk (S.set k ((S.getD k []).set c t)) := by
  refine ⟨by rw [List.length_set]; exact a.1, fun i r hr => ?_⟩
  rw [List.getElem?_set] at hr
  by_cases e : k = i
  · subst e
    rw [if_pos rfl, if_pos (by rw [a.1]; exact hk)] at hr
    cases hr
    obtain ⟨r, hr⟩ := get_of_lt (l := S) (i := k) (by rw [a.1]; exact hk)
    have h1 := a.2 k r hr
    have e1 : S.getD k [] = r := by simp [hr]
    rw [e1]
    refine ⟨by rw [List.length_set]; exact h1.1, fun j s hs => ?_⟩
    rw [List.getElem?_set] at hs
    by_cases e2 : c = j
    · rw [if_pos e2] at hs
      split at hs
      · cases hs; exact ⟨hl, ht⟩
      · cases hs
    · rw [if_neg e2] at hs; exact h1.2 j s hs
  · rw [if_neg e] at hr; exact a.2 i r hr
/-- What a symbol makes of a coder. -/
def St.sym (st : St) (k c : Nat) (v : Int) : St :=
  ⟨st.sd.code (pt (tabOf st.S k c) (st.sd.val (tabOf st.S k c) v)) (pt (tabOf st.S k c) (st.sd.val (tabOf st.S k c) v + 1)),
   if st.ad then st.S.set k ((st.S.getD k []).set c (adaptP (tabOf st.S k c) (st.sd.val (tabOf st.S k c) v))) else st.S, st.ad, st.n + 1⟩
def St.symV (st : St) (k c : Nat) (v : Int) : Nat := st.sd.val (tabOf st.S k c) v

def CoderAt (D : Nat → Prop) (h : H) (p m : Nat) (st : St) : Prop :=
  ∃ vo vi vs Ds Dw, h.get p = some (.cells [vo, vi, vs, .bool st.ad, .int .i64 st.n] 84 false) ∧ D p ∧ SideAt Ds h vo vi st.sd ∧ SideOk m st.sd ∧ SetW Dw h vs st.S ∧ SetOk st.S ∧ (0 ≤ st.n ∧ st.n ≤ 100 * m) ∧
    (∀ b, Ds b → D b ∧ b ≠ p ∧ b < h.n) ∧ (∀ b, Dw b → D b ∧ b ≠ p ∧ b < h.n ∧ ¬ Ds b)
theorem CoderAt.keep {D : Nat → Prop} {h h' : H} {p m : Nat} {st : St} (a : CoderAt D h p m st) (hn : h.n ≤ h'.n) (hk : ∀ b, D b → b < h.n → h'.get b = h.get b) : CoderAt D h' p m st := by
  obtain ⟨vo, vi, vs, Ds, Dw, h1, h2, h3, h4, h5, h6, h7, h8, h9⟩ := a
  exact ⟨vo, vi, vs, Ds, Dw, by rw [hk p h2 (H.get_lt h1), h1], h2, h3.keep fun b hb hb2 => hk b (h8 b hb).1 hb2, h4, h5.keep fun b hb hb2 => hk b (h9 b hb).1 hb2, h6, h7,
    fun b hb => by have := h8 b hb; exact ⟨this.1, this.2.1, by omega⟩, fun b hb => by have := h9 b hb; exact ⟨this.1, this.2.1, by omega, this.2.2.2⟩⟩
theorem CoderAt.mono {D E : Nat → Prop} {h : H} {p m : Nat} {st : St} (a : CoderAt D h p m st) (hd : ∀ b, b < h.n → D b → E b) : CoderAt E h p m st := by
  obtain ⟨vo, vi, vs, Ds, Dw, h1, h2, h3, h4, h5, h6, h7, h8, h9⟩ := a
  exact ⟨vo, vi, vs, Ds, Dw, h1, hd p (H.get_lt h1) h2, h3, h4, h5, h6, h7,
    fun b hb => by have := h8 b hb; exact ⟨hd b this.2.2 this.1, this.2.1, this.2.2⟩, fun b hb => by have := h9 b hb; exact ⟨hd b this.2.2.1 this.1, this.2.1, this.2.2.1, this.2.2.2⟩⟩

theorem symbol30_no {D : Nat → Prop} {h : H} {p m : Nat} {st : St} {k c v : Int} (a : CoderAt D h p m st) (no : ¬ (0 ≤ k ∧ k < 32)) : RT (fun w h' => w = .tup [.int .i64 0, .int .i64 41] ∧ Ext h h') (KW 30 [.ptr p 0, .int .i64 k, .int .i64 c, .int .i64 v] h) := by
  obtain ⟨vo, vi, vs, Ds, Dw, h1, h2, h3, h4, h5, h6, h7, h8, h9⟩ := a
  have e44 := none44_ok h1 h3
  obtain ⟨w, g, e33, rfl, x⟩ := (shape33_ok k h).elim
  rw [if_neg no] at e33
  rw [w30, f30, s30]
  simp [e44, e33]
  exact ⟨rfl, x⟩
theorem symbol30_bad {D : Nat → Prop} {h : H} {p m : Nat} {st : St} {k : Nat} {c v : Int} (a : CoderAt D h p m st) (hk : k < 32) (no : ¬ (0 ≤ c ∧ c < cx k ∧ (st.sd.writes = true → 0 ≤ v ∧ v < vl k))) : RT (fun w h' => w = .tup [.int .i64 0, .int .i64 2] ∧ Ext h h') (KW 30 [.ptr p 0, .int .i64 k, .int .i64 c, .int .i64 v] h) := by
  obtain ⟨vo, vi, vs, Ds, Dw, h1, h2, h3, h4, h5, h6, h7, h8, h9⟩ := a
  have e44 := none44_ok h1 h3
  obtain ⟨w, g, e33, rfl, x⟩ := (shape33_ok k h).elim
  rw [if_pos ⟨by omega, by omega⟩, Int.toNat_natCast] at e33
  have hp : g.get p = _ := (x.get _ (H.get_lt h1)).trans h1
  have e14 := writes14_ok hp (h3.ext x)
  rw [w30, f30, s30]
  by_cases c1 : c < 0
  · simp [e44, e33, c1, gl_t, gk_t]
    exact ⟨rfl, x⟩
  · by_cases c2 : (cx k : Int) ≤ c
    · simp [e44, e33, c1, c2, gl_t, gk_t]
      exact ⟨rfl, x⟩
    · cases hw : st.sd.writes with
      | false => rw [hw] at no; exact (no ⟨by omega, by omega, fun h => by cases h⟩).elim
      | true =>
        rw [hw] at e14 no
        by_cases c3 : v < 0
        · simp [e44, e33, c1, c2, e14, c3, gl_t]
          exact ⟨rfl, x⟩
        · have c4 : (vl k : Int) ≤ v := by
            by_cases c4 : (vl k : Int) ≤ v
            · exact c4
            · exact (no ⟨by omega, by omega, fun _ => ⟨by omega, by omega⟩⟩).elim
          simp [e44, e33, c1, c2, e14, c3, c4, gl_t]
          exact ⟨rfl, x⟩
end Go.Proofs.Ytfjghgjkpenanaa
/- Symbol of the program: what is coded. -/
set_option linter.unusedVariables false
set_option linter.unusedSimpArgs false
set_option maxRecDepth 20000
namespace Go.Proofs.Ytfjghgjkpenanaa
open Go Go.Zf
open Go.Zf (wi64)

theorem symbol30_ok {D : Nat → Prop} {h : H} {p m : Nat} {st : St} {k c : Nat} {v : Int} (a : CoderAt D h p m st) (hm : m + 1 < 100000000) (hk : k < 32) (hc : c < cx k) (hv : st.sd.writes = true → 0 ≤ v ∧ v < vl k) :
    RT (fun w h' => w = .tup [.int .i64 (st.symV k c v : Nat), .int .i64 0] ∧ CoderAt (grow D h h') h' p (m + 1) (st.sym k c v) ∧ Mod D h h') (KW 30 [.ptr p 0, .int .i64 k, .int .i64 c, .int .i64 v] h) := by
  obtain ⟨vo, vi, vs, Ds, Dw, h1, h2, h3, h4, h5, h6, h7, h8, h9⟩ := a
  have e44 := none44_ok h1 h3
  obtain ⟨w, g, e33, rfl, x⟩ := (shape33_ok k h).elim
  rw [if_pos ⟨by omega, by omega⟩, Int.toNat_natCast] at e33
  have xn := x.n
  have hpl := H.get_lt h1
  have hp : g.get p = _ := (x.get _ hpl).trans h1
  have e14 := writes14_ok hp (h3.ext x)
  obtain ⟨r, hr, ht, tok, tl⟩ := h6.get hk hc
  have hcx := cx_le hk
  obtain ⟨t, htd⟩ : ∃ t, t = tabOf st.S k c := ⟨_, rfl⟩
  rw [← htd] at ht tok tl
  obtain ⟨bO, oO, vr, bb, cells, vc, t1, t2, t3, t4, t5, t6, t7, t8, t9, t10, t11⟩ := (h5.ext x).tab hr ht
  have hDsg : ∀ b, Ds b → b < g.n := fun b hb => by have := (h8 b hb).2.2; omega
  have hDp : ¬ Ds p := fun hb => (h8 p hb).2.1 rfl
  have hv' : st.sd.writes = true → 0 ≤ v ∧ v < t.c.length := by rw [tl]; exact hv
  obtain ⟨w, g2, e57, rfl, s2, M2⟩ := (value57_ok hp (h3.ext x) h4 hDsg hDp t9 tok hv').elim
  obtain ⟨hsl, hmay⟩ := Side.val_may tok hv'
  have so2 := Side.code_ok h4 hm hmay
  have M2n := M2.n
  have hp2 : g2.get p = _ := (M2.get p (by omega) hDp).trans hp
  have hDw2 : ∀ b, Dw b → b < g.n → g2.get b = g.get b := fun b hb hb2 => M2.get b hb2 (h9 b hb).2.2.2
  have bb2 : g2.get bb = _ := (hDw2 bb t10 (H.get_lt t6)).trans t6
  have t8' : g2.rdN bb (c * 2) 2 = some [vc, .int .i64 t.n] := by rw [← t8]; unfold H.rdN; rw [bb2, t6]
  have hbp : bb ≠ p := (h9 bb t10).2.1
  have zn : IntKind.i64.wrap (st.n + 1) = st.n + 1 := wi64 (by omega) (by omega)
  obtain ⟨s, hs⟩ : ∃ s, s = st.sd.val t v := ⟨_, rfl⟩
  have hsv : st.symV k c v = s := by rw [hs, htd]; rfl
  rw [← hs] at e57 s2 hsl so2
  rw [hsv]
  have cw : ¬ ((st.sd.writes = true) ∧ (v < 0 ∨ (vl k : Int) ≤ v)) := fun hw => by have := hv hw.1; omega
  have hsym : st.sym k c v = ⟨st.sd.code (pt t s) (pt t (s + 1)), if st.ad then st.S.set k ((st.S.getD k []).set c (adaptP t s)) else st.S, st.ad, st.n + 1⟩ := by
    rw [St.sym, ← htd, ← hs]
  have hgr : st.S.getD k [] = r := by simp [hr]
  rw [w30, f30, s30]
  cases had : st.ad with
  | false =>
    obtain ⟨g5, hg5⟩ : ∃ x, x = g2.put p (.cells [vo, vi, vs, .bool st.ad, .int .i64 (st.n + 1)] 84 false) := ⟨_, rfl⟩
    have hw5 : g2.wr1 p 4 (.int .i64 (st.n + 1)) = some g5 := by rw [wr1_of hp2 (by simp), hg5]; rfl
    have hfin : CoderAt (grow D h g5) g5 p (m + 1) (st.sym k c v) ∧ Mod D h g5 := by
      have hn5 : g5.n = g2.n := by rw [hg5, H.n_put]
      refine ⟨⟨vo, vi, vs, grow Ds g g2, Dw, ?_, .inl h2, ?_, ?_, ?_, ?_, ?_, fun b hb => ?_, fun b hb => ?_⟩, ⟨by omega, fun d hd hdd => ?_⟩⟩
      · rw [hg5, get_put_same (H.get_lt hp2), hsym]
      · rw [hsym]
        exact s2.keep fun b hb hb2 => by
          rw [hg5, get_put_ne]; rintro rfl
          rcases hb with hb | hb
          · exact hDp hb
          · omega
      · rw [hsym]; exact so2
      · rw [hsym, had]
        exact (h5.ext x).keep fun b hb hb2 => by rw [hg5, get_put_ne (h9 b hb).2.1, hDw2 b hb hb2]
      · rw [hsym, had]; exact h6
      · rw [hsym]; show 0 ≤ st.n + 1 ∧ st.n + 1 ≤ 100 * ((m + 1 : Nat) : Int); omega
      · rcases hb with hb | hb
        · have := h8 b hb; exact ⟨.inl this.1, this.2.1, by omega⟩
        · exact ⟨.inr ⟨by omega, by omega⟩, by omega, by omega⟩
      · have := h9 b hb
        refine ⟨.inl this.1, this.2.1, by omega, ?_⟩
        rintro (h | h)
        · exact this.2.2.2 h
        · omega
      · rw [hg5, get_put_ne (fun e => hdd (by rw [e]; exact h2)), M2.get d (by omega) (fun hb => hdd (h8 d hb).1), x.get d hd]
    rw [had] at hp2 hp
    cases hw : st.sd.writes with
    | false =>
      rw [hw] at e14
      simp [e44, e33, show ¬ (c : Int) < 0 by omega, show ¬ (cx k : Int) ≤ c by omega, show ¬ cx k ≤ c by omega, e14, gl_t, rd1_of hp, t1, t2, t5, t8, e57, rd1_of hp2, zn, hw5]
      exact ⟨rfl, hfin⟩
    | true =>
      rw [hw] at e14
      have := hv hw
      simp [e44, e33, show ¬ (c : Int) < 0 by omega, show ¬ (cx k : Int) ≤ c by omega, show ¬ cx k ≤ c by omega, e14, show ¬ v < 0 by omega, show ¬ (vl k : Int) ≤ v by omega, gl_t, rd1_of hp, t1, t2, t5, t8, e57, rd1_of hp2, zn, hw5]
      exact ⟨rfl, hfin⟩
  | true =>
    have U2 : U16 Dw g2 vc t.c := t9.keep fun b x hb hx => hDw2 b hb (H.get_lt hx)
    obtain ⟨w, g3, e35, vt, rfl, ⟨vc', rfl, U3⟩, x3⟩ := (adapt35_ok U2 tok hsl).elim
    have x3n := x3.n
    have bb3 : g3.get bb = _ := (x3.get _ (H.get_lt bb2)).trans bb2
    have hp3 : g3.get p = _ := (x3.get _ (H.get_lt hp2)).trans hp2
    obtain ⟨g4, hg4⟩ : ∃ x, x = g3.put bb (.cells (splice cells (c * 2) [vc', .int .i64 (adaptP t s).n]) 72 false) := ⟨_, rfl⟩
    have hw4 : g3.wrN bb (c * 2) [vc', .int .i64 (adaptP t s).n] = some g4 := by rw [wrN_of bb3 (by simp; omega), hg4]
    have hp4 : g4.get p = _ := (show g4.get p = g3.get p by rw [hg4, get_put_ne (fun e => hbp e.symm)]).trans hp3
    have W4 : SetW (fun b => Dw b ∨ (g2.n ≤ b ∧ b < g3.n)) g4 vs (st.S.set k (r.set c (adaptP t s))) := by
      rw [hg4]
      refine t11 g3 _ vc' (adaptP t s) (fun b hb hb2 => by rw [x3.get b (by omega), hDw2 b hb hb2]) (by omega) (fun b hb _ => .inl hb) (U3.mono fun b hb hd => .inr ⟨hd, hb⟩)
    obtain ⟨g5, hg5⟩ : ∃ x, x = g4.put p (.cells [vo, vi, vs, .bool st.ad, .int .i64 (st.n + 1)] 84 false) := ⟨_, rfl⟩
    have hw5 : g4.wr1 p 4 (.int .i64 (st.n + 1)) = some g5 := by rw [wr1_of hp4 (by simp), hg5]; rfl
    have hn4 : g4.n = g3.n := by rw [hg4, H.n_put]
    have hn5 : g5.n = g3.n := by rw [hg5, H.n_put, hn4]
    have hfin : CoderAt (grow D h g5) g5 p (m + 1) (st.sym k c v) ∧ Mod D h g5 := by
      refine ⟨⟨vo, vi, vs, grow Ds g g2, fun b => Dw b ∨ (g2.n ≤ b ∧ b < g3.n), ?_, .inl h2, ?_, ?_, ?_, ?_, ?_, fun b hb => ?_, fun b hb => ?_⟩, ⟨by omega, fun d hd hdd => ?_⟩⟩
      · rw [hg5, get_put_same (H.get_lt hp4), hsym]
      · rw [hsym]
        exact s2.keep fun b hb hb2 => by
          have hbp2 : b ≠ p := by
            rintro rfl
            rcases hb with hb | hb
            · exact hDp hb
            · omega
          have hbb : b ≠ bb := by
            rintro rfl
            rcases hb with hb | hb
            · exact (h9 b t10).2.2.2 hb
            · have := (h9 b t10).2.2.1; omega
          rw [hg5, get_put_ne hbp2, hg4, get_put_ne hbb, x3.get b hb2]
      · rw [hsym]; exact so2
      · rw [hsym, if_pos had, hgr]
        exact W4.keep fun b hb hb2 => by
          rw [hg5, get_put_ne]; rintro rfl
          rcases hb with hb | hb
          · exact (h9 b hb).2.1 rfl
          · omega
      · rw [hsym, if_pos had]; exact h6.set hk (adaptP_ok tok s) (by rw [adaptP_len, tl])
      · rw [hsym]; show 0 ≤ st.n + 1 ∧ st.n + 1 ≤ 100 * ((m + 1 : Nat) : Int); omega
      · rcases hb with hb | hb
        · have := h8 b hb; exact ⟨.inl this.1, this.2.1, by omega⟩
        · exact ⟨.inr ⟨by omega, by omega⟩, by omega, by omega⟩
      · rcases hb with hb | hb
        · have := h9 b hb
          refine ⟨.inl this.1, this.2.1, by omega, ?_⟩
          rintro (h | h)
          · exact this.2.2.2 h
          · omega
        · refine ⟨.inr ⟨by omega, by omega⟩, by omega, by omega, ?_⟩
          rintro (h | h)
          · have := (h8 b h).2.2; omega
          · omega
      · rw [hg5, get_put_ne (fun e => hdd (by rw [e]; exact h2)), hg4, get_put_ne (fun e => hdd (by rw [e]; exact (h9 bb t10).1)), x3.get d (by omega), M2.get d (by omega) (fun hb => hdd (h8 d hb).1), x.get d hd]
    rw [had] at hp2 hp hp4
    cases hw : st.sd.writes with
    | false =>
      rw [hw] at e14
      simp [e44, e33, show ¬ (c : Int) < 0 by omega, show ¬ (cx k : Int) ≤ c by omega, show ¬ cx k ≤ c by omega, e14, gl_t, rd1_of hp, t1, t2, t5, t8, e57, rd1_of hp2, t8', e35, hw4, rd1_of hp4, zn, hw5]
      exact ⟨rfl, hfin⟩
    | true =>
      rw [hw] at e14
      have := hv hw
      simp [e44, e33, show ¬ (c : Int) < 0 by omega, show ¬ (cx k : Int) ≤ c by omega, show ¬ cx k ≤ c by omega, e14, show ¬ v < 0 by omega, show ¬ (vl k : Int) ≤ v by omega, gl_t, rd1_of hp, t1, t2, t5, t8, e57, rd1_of hp2, t8', e35, hw4, rd1_of hp4, zn, hw5]
      exact ⟨rfl, hfin⟩
end Go.Proofs.Ytfjghgjkpenanaa
/- Bits, of the program. -/
set_option linter.unusedVariables false
set_option linter.unusedSimpArgs false
set_option maxRecDepth 20000
namespace Go.Proofs.Ytfjghgjkpenanaa
open Go Go.Zf
open Go.Zf (wi64)

/-- Which bit is coded. -/
def Side.bit (v : Nat) : Side → Nat
  | .w _ _ _ => v
  | .r _ code rng => value code rng / 16384
theorem Side.bit_may {v : Nat} (hv : v < 2) (sd : Side) : sd.bit v < 2 ∧ sd.may (sd.bit v * 16384) (sd.bit v * 16384 + 16384) := by
  cases sd with
  | w out low rng => exact ⟨hv, by show v * 16384 < v * 16384 + 16384; omega, by show v * 16384 + 16384 ≤ 32768; omega⟩
  | r rest code rng =>
    have := value_lt code rng
    refine ⟨by show value code rng / 16384 < 2; omega, ?_, ?_, ?_⟩
    · show value code rng / 16384 * 16384 ≤ value code rng; omega
    · show value code rng < value code rng / 16384 * 16384 + 16384; omega
    · show value code rng / 16384 * 16384 + 16384 ≤ 32768; omega
def bits : Nat → Nat → Nat → Side → Nat × Side
  | 0, _, out, sd => (out, sd)
  | j + 1, v, out, sd => bits j v (2 * out + sd.bit (v / 2 ^ j % 2)) (sd.code (sd.bit (v / 2 ^ j % 2) * 16384) (sd.bit (v / 2 ^ j % 2) * 16384 + 16384))
theorem bits_ok : ∀ (j v out : Nat) {m : Nat} {sd : Side}, SideOk m sd → m + j < 100000000 → SideOk (m + j) (bits j v out sd).2 ∧ (bits j v out sd).1 < (out + 1) * 2 ^ j
  | 0, v, out, m, sd, ok, hm => ⟨ok, by simp [bits]⟩
  | j + 1, v, out, m, sd, ok, hm => by
    have h1 := Side.bit_may (v := v / 2 ^ j % 2) (by omega) sd
    have ih := bits_ok j v (2 * out + sd.bit (v / 2 ^ j % 2)) (Side.code_ok ok (by omega) h1.2) (by omega)
    refine ⟨by rw [show m + (j + 1) = m + 1 + j by omega]; exact ih.1, Nat.lt_of_lt_of_le ih.2 ?_⟩
    rw [Nat.pow_succ, Nat.mul_comm (2 ^ j) 2, ← Nat.mul_assoc]
    exact Nat.mul_le_mul_right _ (by omega)

theorem bit56_ok {D : Nat → Prop} {h : H} {p m : Nat} {vo vi vs ba bn : V} {sd : Side} {v : Int} (hp : h.get p = some (.cells [vo, vi, vs, ba, bn] 84 false)) (s : SideAt D h vo vi sd) (so : SideOk m sd) (hv : 0 ≤ v ∧ v < 2) :
    RT (fun w h' => w = .tup [.int .i64 (sd.bit v.toNat : Nat), .int .i64 0] ∧ SideAt (grow D h h') h' vo vi (sd.code (sd.bit v.toNat * 16384) (sd.bit v.toNat * 16384 + 16384)) ∧ Mod D h h') (KW 56 [.ptr p 0, .int .i64 v] h) := by
  have e14 := writes14_ok hp s
  obtain ⟨n, rfl⟩ : ∃ n : Nat, v = n := ⟨v.toNat, by omega⟩
  rw [Int.toNat_natCast]
  obtain ⟨hb, hmay⟩ := Side.bit_may (v := n) (by omega) sd
  rw [w56, f56, s56]
  cases sd with
  | w out low rng =>
    obtain ⟨e, rfl, rfl, E1⟩ := s
    simp only [Side.bit] at hb hmay ⊢
    obtain ⟨h3, e82, E3, M3⟩ := put82_ok E1 so hmay.1 hmay.2
    have z1 : IntKind.u32.wrap (n : Int) = n := wu32 (by omega) (by omega)
    have z2 : IntKind.u32.wrap ((n : Int) * 16384) = n * 16384 := wu32 (by omega) (by omega)
    have z3 : IntKind.u32.wrap ((n : Int) * 16384 + 16384) = n * 16384 + 16384 := wu32 (by omega) (by omega)
    simp at e82
    simp [e14, Side.writes, z1, z2, z3, rd1_of hp, e82]
    exact ⟨rfl, ⟨e, rfl, rfl, E3⟩, M3⟩
  | r rest code rng =>
    obtain ⟨e, rfl, rfl, E1⟩ := s
    simp only [Side.bit] at hb hmay ⊢
    have hE := E1
    obtain ⟨va, da, _⟩ := E1
    have e81 := value21_ok da so.1
    obtain ⟨h4, e83, E4, M4⟩ := take83_ok hE so hmay.1 hmay.2.1 hmay.2.2
    obtain ⟨b, hbe⟩ : ∃ b, b = value code rng / 16384 := ⟨_, rfl⟩
    rw [← hbe] at e83 hb E4 ⊢
    have hd : ((value code rng : Nat) : Int).tdiv 16384 = (b : Int) := by rw [Int.tdiv_eq_ediv_of_nonneg (by omega), hbe]; simp
    have z0 : IntKind.u32.wrap (b : Int) = b := wu32 (by omega) (by omega)
    have z1 : IntKind.i64.wrap (b : Int) = b := wi64 (by omega) (by omega)
    have z2 : IntKind.u32.wrap ((b : Int) * 16384) = b * 16384 := wu32 (by omega) (by omega)
    have z3 : IntKind.u32.wrap ((b : Int) * 16384 + 16384) = b * 16384 + 16384 := wu32 (by omega) (by omega)
    simp at e83
    simp [e14, Side.writes, rd1_of hp, e81, hd, z0, z1, z2, z3, e83]
    exact ⟨rfl, ⟨e, rfl, rfl, E4.mono fun b hb hd => .inl hd⟩, M4⟩

theorem or_bit {a b : Nat} (ha : a < 4611686018427387904) (hb : b < 2) : IntKind.i64.wrap ((BitVec.ofInt 64 (2 * (a : Int)) ||| BitVec.ofInt 64 (b : Int)).toNat : Int) = ((2 * a + b : Nat) : Int) := by
  have e1 : (BitVec.ofInt 64 (2 * (a : Int))).toNat = 2 * a := by
    rw [show (2 * (a : Int)) = ((2 * a : Nat) : Int) by simp, BitVec.ofInt_natCast, BitVec.toNat_ofNat, Nat.mod_eq_of_lt (by omega)]
  have e2 : (BitVec.ofInt 64 (b : Int)).toNat = b := by
    rw [BitVec.ofInt_natCast, BitVec.toNat_ofNat, Nat.mod_eq_of_lt (by omega)]
  rw [BitVec.toNat_or, e1, e2]
  have := Nat.shiftLeft_add_eq_or_of_lt (a := a) (i := 1) (b := b) (by omega)
  rw [Nat.shiftLeft_eq, Nat.pow_one, Nat.mul_comm a 2] at this
  rw [← this]
  exact wi64 (by omega) (by omega)
end Go.Proofs.Ytfjghgjkpenanaa
/- Bits, of the program: the loop. -/
set_option linter.unusedVariables false
set_option linter.unusedSimpArgs false
set_option maxRecDepth 20000
namespace Go.Proofs.Ytfjghgjkpenanaa
open Go Go.Zf
open Go.Zf (wi64)

def St.num (st : St) (n v : Nat) : St := ⟨(bits n v 0 st.sd).2, st.S, st.ad, st.n + n⟩
def St.numV (st : St) (n v : Nat) : Nat := (bits n v 0 st.sd).1

theorem Side.code_writes (sd : Side) (lo hi : Nat) : (sd.code lo hi).writes = sd.writes := by cases sd <;> rfl
theorem bit_any {sd : Side} {v : Int} (hv : sd.writes = true → 0 ≤ v) (j : Nat) : sd.bit (v.fdiv (2 ^ j) % 2).toNat = sd.bit (v.toNat / 2 ^ j % 2) := by
  cases sd with
  | w out low rng =>
    have h0 := hv rfl
    obtain ⟨n, rfl⟩ : ∃ n : Nat, v = n := ⟨v.toNat, by omega⟩
    show ((n : Int).fdiv (2 ^ j) % 2).toNat = (n : Int).toNat / 2 ^ j % 2
    rw [Int.toNat_natCast, Int.fdiv_eq_ediv_of_nonneg _ (Int.pow_nonneg (by decide))]
    have : ((n : Int) / 2 ^ j % 2) = ((n / 2 ^ j % 2 : Nat) : Int) := by simp
    rw [this, Int.toNat_natCast]
  | r rest code rng => rfl

structure I29 (h0 : H) (Ds : Nat → Prop) (p m n : Nat) (v : Int) (vo vi : V) (c : List V) (st0 : Side) (j : Nat) (e : E) (g : H) : Prop where
  hj : j ≤ n
  md : Mod Ds h0 g
  q : ∃ sd out, SideAt (grow Ds h0 g) g vo vi sd ∧ SideOk (m + (n - j)) sd ∧ sd.writes = st0.writes ∧ out < pw (n - j) ∧ bits j v.toNat out sd = bits n v.toNat 0 st0 ∧ e.s [0, 1, 2, 6, 7, 8, 9, 10, 11, 36, 37] 8 = .int .i64 (out : Nat)
  e0 : e.s [0, 1, 2, 6, 7, 8, 9, 10, 11, 36, 37] 0 = .ptr p 0
  e1 : e.s [0, 1, 2, 6, 7, 8, 9, 10, 11, 36, 37] 1 = .int .i64 n
  e2 : e.s [0, 1, 2, 6, 7, 8, 9, 10, 11, 36, 37] 2 = .int .i64 v
  e36 : e.s [0, 1, 2, 6, 7, 8, 9, 10, 11, 36, 37] 36 = .int .i64 n
  e37 : e.s [0, 1, 2, 6, 7, 8, 9, 10, 11, 36, 37] 37 = .int .i64 ((n - j : Nat) : Int)

theorem loop29 {Ds : Nat → Prop} {h : H} {p m n : Nat} {v : Int} {vo vi vs ba bn : V} {sd0 : Side} (hp : h.get p = some (.cells [vo, vi, vs, ba, bn] 84 false)) (hDp : ¬ Ds p) (hn : n ≤ 30) (hm : m + n < 100000000) (hv : sd0.writes = true → 0 ≤ v) {e : E} {g : H} (hi : I29 h Ds p m n v vo vi [] sd0 n e g) :
    ∃ e' g', loopZ (l29_0 KW loopZ) e g = some ⟨.ex 1, e', g'⟩ ∧ I29 h Ds p m n v vo vi [] sd0 0 e' g' := by
  have loop := loop_run (body := l29_0 KW loopZ) (I29 h Ds p m n v vo vi [] sd0) (fun s => s.x = .ex 1 ∧ I29 h Ds p m n v vo vi [] sd0 0 s.e s.h)
    (fun j e g hi => by
      obtain ⟨hj, md, ⟨sd, out, q1, q2, q3, q4, q5, e8⟩, e0, e1, e2, e36, e37⟩ := hi
      have hpl := H.get_lt hp
      have hpg : g.get p = _ := (md.get p hpl hDp).trans hp
      have hgn := md.n
      cases j with
      | zero =>
        simp [l29_0, e36, e37]
        exact ⟨rfl, hj, md, ⟨sd, out, q1, q2, q3, q4, q5, by simp [e8]⟩, by simp [e0], by simp [e1], by simp [e2], by simp [e36], by simp [e37]⟩
      | succ j =>
        obtain ⟨i, hi⟩ : ∃ i, i = n - (j + 1) := ⟨_, rfl⟩
        have hi2 : n - j = i + 1 := by omega
        rw [← hi] at e37 q2 q4
        obtain ⟨y, hy⟩ : ∃ y, y = v.fdiv (2 ^ j) % 2 := ⟨_, rfl⟩
        have hy2 : 0 ≤ y ∧ y < 2 := by rw [hy]; omega
        obtain ⟨w, g1, e56, rfl, s1, M1⟩ := (bit56_ok (D := grow Ds h g) hpg q1 q2 hy2).elim
        have hb := bit_any (sd := sd) (v := v) (by rw [q3]; exact hv) j
        rw [← hy] at hb
        rw [hb] at e56 s1
        have hbm := Side.bit_may (v := v.toNat / 2 ^ j % 2) (by omega) sd
        have hpw : pw i ≤ pw 30 := Nat.pow_le_pow_right (by decide) (by omega)
        have hpw2 : pw (i + 1) = 2 * pw i := by simp [pw, Nat.pow_succ, Nat.mul_comm]
        have hp30 : pw 30 = 1073741824 := by decide
        have z1 : IntKind.i64.wrap ((n : Int) - 1) = n - 1 := wi64 (by omega) (by omega)
        have z2 : IntKind.i64.wrap ((n : Int) - 1 - (i : Int)) = (j : Int) := by rw [wi64 (by omega) (by omega)]; omega
        have z3 : IntKind.i64.wrap ((i : Int) + 1) = i + 1 := wi64 (by omega) (by omega)
        have hmin : min j IntKind.i64.bits = j := Nat.min_eq_left (by rw [show IntKind.i64.bits = 64 from rfl]; omega)
        have mk : binK 0 .and (.int .i64 (v.fdiv (2 ^ j))) (.int .i64 1) = some (.int .i64 y) := by
          have := binK_mask 0 (v.fdiv (2 ^ j)) 1 (by decide)
          rw [hy]; simpa using this
        obtain ⟨b, hbe⟩ : ∃ b, b = sd.bit (v.toNat / 2 ^ j % 2) := ⟨_, rfl⟩
        rw [← hbe] at e56 s1 hbm
        have z4 : IntKind.i64.wrap ((out : Int) * 2) = 2 * out := by rw [wi64 (by omega) (by omega)]; omega
        have mo : binK 0 .or (.int .i64 (2 * (out : Int))) (.int .i64 (b : Nat)) = some (.int .i64 ((2 * out + b : Nat) : Int)) := by
          rw [binK_or]; exact congrArg (fun x => some (V.int .i64 x)) (or_bit (by omega) hbm.1)
        have hsh : min (1 : Nat) IntKind.i64.bits = 1 := rfl
        simp [-binK_and, -binK_or, l29_0, e36, e37, show (i : Int) < n by omega, show i < n by omega, e0, e1, z1, z2, e2, show ¬ (j : Int) < 0 by omega, hmin, mk, e56, e8, hsh, z4, mo, z3]
        have M2 : Mod Ds h g1 := md.trans M1
        refine ⟨j, Nat.lt_succ_self j, by omega, M2, ⟨_, 2 * out + b, s1.mono fun d hd hdd => ?_, ?_, by rw [Side.code_writes]; exact q3, by rw [hi2, hpw2]; omega, ?_, by simp⟩, by simp [e0], by simp [e1], by simp [e2], by simp [e36], by simp [hi2]⟩
        · rcases hdd with (hd1 | hd1) | hd1
          · exact .inl hd1
          · exact .inr ⟨hd1.1, hd⟩
          · exact .inr ⟨by omega, hd⟩
        · rw [hi2, ← Nat.add_assoc]; exact Side.code_ok q2 (by omega) hbm.2
        · rw [← q5, bits, ← hbe])
  obtain ⟨⟨x, e', g'⟩, r1, r2, r3⟩ := loop n e g hi
  simp only at r2 r3
  subst r2
  exact ⟨e', g', r1, r3⟩
end Go.Proofs.Ytfjghgjkpenanaa
/- Bits, Set, Count of the program. -/
set_option linter.unusedVariables false
set_option linter.unusedSimpArgs false
set_option maxRecDepth 20000
namespace Go.Proofs.Ytfjghgjkpenanaa
open Go Go.Zf
open Go.Zf (wi64)

theorem bits29_ok {D : Nat → Prop} {h : H} {p m n : Nat} {st : St} {v : Int} (a : CoderAt D h p m st) (hn : n ≤ 30) (hm : m + n < 100000000) (hv : st.sd.writes = true → 0 ≤ v ∧ v < pw n) :
    RT (fun w h' => w = .tup [.int .i64 (st.numV n v.toNat : Nat), .int .i64 0] ∧ CoderAt (grow D h h') h' p (m + n) (st.num n v.toNat) ∧ Mod D h h') (KW 29 [.ptr p 0, .int .i64 n, .int .i64 v] h) := by
  obtain ⟨vo, vi, vs, Ds, Dw, h1, h2, h3, h4, h5, h6, h7, h8, h9⟩ := a
  have e44 := none44_ok h1 h3
  have e14 := writes14_ok h1 h3
  have hpl := H.get_lt h1
  have hDp : ¬ Ds p := fun hb => (h8 p hb).2.1 rfl
  obtain ⟨e', g', r1, I⟩ := loop29 (v := v) (n := n) (m := m) h1 hDp hn hm (fun hw => (hv hw).1)
    (e := ⟨[.ptr p 0, .int .i64 n, .int .i64 v, .int .i64 0, .int .i64 0, .int .i64 0, .tup [], .tup [], .tup [], .int .i64 n, .int .i64 0], 37, .int .i64 0⟩) (g := h)
    ⟨Nat.le_refl _, Mod.refl _ _, ⟨st.sd, 0, h3.mono fun b _ hb => .inl hb, by rw [Nat.sub_self]; exact h4, rfl, by rw [Nat.sub_self]; decide, rfl, by simp⟩, by simp, by simp, by simp, by simp, by simp⟩
  obtain ⟨_, md, ⟨sd, out, q1, q2, q3, q4, q5, e8⟩, e0, e1, e2, e36, e37⟩ := I
  have q5' : (out, sd) = bits n v.toNat 0 st.sd := q5
  have hout : out = st.numV n v.toNat := by rw [St.numV, ← q5']
  have hsd : sd = (st.num n v.toNat).sd := by rw [St.num, ← q5']
  rw [Nat.sub_zero] at q2
  have mn := md.n
  have hp' : g'.get p = _ := (md.get p hpl hDp).trans h1
  obtain ⟨g5, hg5⟩ : ∃ x, x = g'.put p (.cells [vo, vi, vs, .bool st.ad, .int .i64 (st.n + n)] 84 false) := ⟨_, rfl⟩
  have hw5 : g'.wr1 p 4 (.int .i64 (st.n + n)) = some g5 := by rw [wr1_of hp' (by simp), hg5]; rfl
  have zn : IntKind.i64.wrap (st.n + n) = st.n + n := wi64 (by omega) (by omega)
  have hfin : CoderAt (grow D h g5) g5 p (m + n) (st.num n v.toNat) ∧ Mod D h g5 := by
    have hn5 : g5.n = g'.n := by rw [hg5, H.n_put]
    refine ⟨⟨vo, vi, vs, grow Ds h g', Dw, ?_, .inl h2, ?_, ?_, ?_, h6, ?_, fun b hb => ?_, fun b hb => ?_⟩, ⟨by omega, fun d hd hdd => ?_⟩⟩
    · rw [hg5, get_put_same (H.get_lt hp')]; rfl
    · rw [← hsd]
      exact q1.keep fun b hb hb2 => by
        rw [hg5, get_put_ne]; rintro rfl
        rcases hb with hb | hb
        · exact hDp hb
        · omega
    · rw [← hsd]; exact q2
    · exact h5.keep fun b hb hb2 => by rw [hg5, get_put_ne (h9 b hb).2.1, md.get b hb2 (h9 b hb).2.2.2]
    · show 0 ≤ st.n + n ∧ st.n + n ≤ 100 * ((m + n : Nat) : Int); omega
    · rcases hb with hb | hb
      · have := h8 b hb; exact ⟨.inl this.1, this.2.1, by omega⟩
      · exact ⟨.inr ⟨by omega, by omega⟩, by omega, by omega⟩
    · have := h9 b hb
      refine ⟨.inl this.1, this.2.1, by omega, ?_⟩
      rintro (h | h)
      · exact this.2.2.2 h
      · omega
    · rw [hg5, get_put_ne (fun e => hdd (by rw [e]; exact h2)), md.get d hd (fun hb => hdd (h8 d hb).1)]
  rw [← hout]
  rw [w29, f29, s29]
  cases hw : st.sd.writes with
  | false =>
    rw [hw] at e14
    simp [e44, show ¬ (n : Int) < 0 by omega, show ¬ (30 : Int) < n by omega, show ¬ 30 < n by omega, e14, gl_t, r1, e0, rd1_of hp', e1, zn, hw5, e8]
    exact ⟨rfl, hfin⟩
  | true =>
    rw [hw] at e14
    have hv1 := hv hw
    have hmin : min n IntKind.i64.bits = n := Nat.min_eq_left (by rw [show IntKind.i64.bits = 64 from rfl]; omega)
    have hsh : v.fdiv (2 ^ n) = 0 := by
      rw [Int.fdiv_eq_ediv_of_nonneg _ (Int.pow_nonneg (by decide))]
      apply Int.ediv_eq_zero_of_lt hv1.1
      have := hv1.2
      rw [pw] at this
      simpa using this
    simp [e44, show ¬ (n : Int) < 0 by omega, show ¬ (30 : Int) < n by omega, show ¬ 30 < n by omega, e14, show ¬ v < 0 by omega, hmin, hsh, gl_t, r1, e0, rd1_of hp', e1, zn, hw5, e8]
    exact ⟨rfl, hfin⟩

theorem bits29_bad {D : Nat → Prop} {h : H} {p m : Nat} {st : St} {n v : Int} (a : CoderAt D h p m st) (no : ¬ (0 ≤ n ∧ n ≤ 30 ∧ (st.sd.writes = true → 0 ≤ v ∧ v < pw n.toNat))) : KW 29 [.ptr p 0, .int .i64 n, .int .i64 v] h = some (.ret (.tup [.int .i64 0, .int .i64 2]), h) := by
  obtain ⟨vo, vi, vs, Ds, Dw, h1, h2, h3, h4, h5, h6, h7, h8, h9⟩ := a
  have e44 := none44_ok h1 h3
  have e14 := writes14_ok h1 h3
  rw [w29, f29, s29]
  by_cases c1 : n < 0
  · simp [e44, c1, gl_t, gk_t]
  · by_cases c2 : 30 < n
    · simp [e44, c1, c2, gl_t, gk_t]
    · cases hw : st.sd.writes with
      | false => rw [hw] at no; exact (no ⟨by omega, by omega, fun h => by cases h⟩).elim
      | true =>
        rw [hw] at e14 no
        by_cases c3 : v < 0
        · simp [e44, c1, c2, e14, c3, gl_t]
        · have c4 : (pw n.toNat : Int) ≤ v := by
            by_cases c4 : (pw n.toNat : Int) ≤ v
            · exact c4
            · exact (no ⟨by omega, by omega, fun _ => ⟨by omega, by omega⟩⟩).elim
          obtain ⟨k, rfl⟩ : ∃ k : Nat, n = k := ⟨n.toNat, by omega⟩
          rw [Int.toNat_natCast] at c4
          have hmin : min k IntKind.i64.bits = k := Nat.min_eq_left (by rw [show IntKind.i64.bits = 64 from rfl]; omega)
          have hsh : ¬ v.fdiv (2 ^ k) = 0 := by
            rw [Int.fdiv_eq_ediv_of_nonneg _ (Int.pow_nonneg (by decide))]
            intro h0
            have hp : (0 : Int) < 2 ^ k := by exact_mod_cast Nat.two_pow_pos k
            have hd : 1 ≤ v / 2 ^ k := by
              rw [Int.le_ediv_iff_mul_le hp]
              have : ((pw k : Nat) : Int) = 2 ^ k := by simp [pw]
              omega
            omega
          simp [e44, c1, c2, show ¬ 30 < k by omega, e14, c3, hmin, hsh, gl_t]

theorem set17_ok {D : Nat → Prop} {h : H} {p m : Nat} {st : St} (a : CoderAt D h p m st) : RT (fun w h' => ∃ v, w = .tup [.agg [v], .int .i64 0] ∧ SetW (fun b => h.n ≤ b) h' v st.S ∧ Ext h h') (KW 17 [.ptr p 0] h) := by
  obtain ⟨vo, vi, vs, Ds, Dw, h1, h2, h3, h4, h5, h6, h7, h8, h9⟩ := a
  obtain ⟨g, hg⟩ : ∃ g, g = h.new (.cells [.nils] 25 false) := ⟨_, rfl⟩
  have x : Ext h g := by rw [hg]; exact (Ext.refl h).new _
  have gn : g.n = h.n + 1 := by rw [hg, H.n_new]
  have r0 : g.get h.n = some (.cells [.nils] 25 false) := by rw [hg, get_new_same]
  have hp : g.get p = _ := (x.get _ (H.get_lt h1)).trans h1
  have e44 := none44_ok hp (h3.ext x)
  obtain ⟨w, g2, e38, v', rfl, W, x2⟩ := (copy38_ok (h5.ext x).setR h6.small).elim
  have r2 : g2.get h.n = _ := (x2.get _ (H.get_lt r0)).trans r0
  obtain ⟨g3, hg3⟩ : ∃ y, y = g2.put h.n (.cells [v'] 25 false) := ⟨_, rfl⟩
  have r3 : g3.get h.n = some (.cells [v'] 25 false) := by rw [hg3, get_put_same (H.get_lt r2)]
  rw [w17, f17, s17]
  simp [nw, ← hg, e44, rdN_of (o := 2) (n := 1) hp (by simp), e38, wrN_of (o := 0) r2, splice, ← hg3, rdN_of (o := 0) (n := 1) r3 (by simp)]
  refine ⟨v', rfl, ?_, (x.trans x2).put (Nat.le_refl _) _ |> fun y => by rw [hg3]; exact y⟩
  have W2 := (W.setW h6.full).keep (h' := g3) fun b hb _ => by rw [hg3, get_put_ne]; have hb : g.n ≤ b := hb; omega
  exact W2.mono fun b _ hb => by have hb : g.n ≤ b := hb; show h.n ≤ b; omega

theorem count32_ok {D : Nat → Prop} {h : H} {p m : Nat} {st : St} (a : CoderAt D h p m st) : KW 32 [.ptr p 0] h = some (.ret (.int .i64 st.n), h) := by
  obtain ⟨vo, vi, vs, Ds, Dw, h1, h2, h3, h4, h5, h6, h7, h8, h9⟩ := a
  have e44 := none44_ok h1 h3
  rw [w32, f32, s32]
  simp [e44, rd1_of h1]
end Go.Proofs.Ytfjghgjkpenanaa
/- Writer, Reader, Bytes of the program. -/
set_option linter.unusedVariables false
set_option linter.unusedSimpArgs false
set_option maxRecDepth 20000
namespace Go.Proofs.Ytfjghgjkpenanaa
open Go Go.Zf
open Go.Zf (wi64)

def newW (S : List (List Tb)) (ad : Bool) : St := ⟨.w [] 0 4294967295, S, ad, 0⟩
def newR (l : List Nat) (S : List (List Tb)) (ad : Bool) : St := ⟨.r (dread l).1 (dread l).2 4294967295, S, ad, 0⟩

theorem writer12_ok {D : Nat → Prop} {h : H} {v : V} {S : List (List Tb)} (u : SetR D h v S) (ok : SetOk S) (ad : Bool) :
    RT (fun w h' => ∃ p, w = .tup [.ptr p 0, .int .i64 0] ∧ CoderAt (fun b => h.n ≤ b) h' p 0 (newW S ad) ∧ Ext h h') (KW 12 [.agg [v], .bool ad] h) := by
  obtain ⟨h1, b1, x1, g1, n1, u1⟩ := box25 u
  obtain ⟨w, h2, e34, rfl, x2⟩ := (check34_ok u1 ok.small).elim
  rw [if_pos ok] at e34
  obtain ⟨h3, e42, E3, m3, f3⟩ := new10_ok h2
  have x3 : Ext h2 h3 := ⟨by omega, f3⟩
  have x2n := x2.n
  obtain ⟨w, h4, e38, v', rfl, W, x4⟩ := (copy38_ok ((u1.ext x2).ext x3) ok.small).elim
  have g2 : h2.get h.n = _ := (x2.get _ (H.get_lt g1)).trans g1
  have g3 : h3.get h.n = _ := (x3.get _ (H.get_lt g2)).trans g2
  obtain ⟨h5, hh5⟩ : ∃ g, g = h4.new (.cells [.ptr h2.n 0, .nilp, v', .bool ad, .int .i64 0] 84 false) := ⟨_, rfl⟩
  have x5 : Ext h4 h5 := by rw [hh5]; exact (Ext.refl h4).new _
  have n5 : h5.n = h4.n + 1 := by rw [hh5, H.n_new]
  have r5 : h5.get h4.n = some (.cells [.ptr h2.n 0, .nilp, v', .bool ad, .int .i64 0] 84 false) := by rw [hh5, get_new_same]
  have x4n := x4.n
  have hbx : bx h4 84 (.agg [.ptr h2.n 0, .nilp, v', .bool ad, .int .i64 0]) = some (.ptr h4.n 0, h5) := by rw [hh5]; rfl
  have hvc : V.cells v' = some [v'] := by
    obtain ⟨cs, k1, k2⟩ := W.setR; exact k1.cells
  rw [w12, f12, s12]
  simp [b1, rdN_of (o := 0) (n := 1) g1 (by simp), e34, e42, rdN_of (o := 0) (n := 1) g2 (by simp), rdN_of (o := 0) (n := 1) g3 (by simp), e38, bl, fillW, splice, hvc, hbx, ck, V.same, V.sames, u.ckv]
  have hvs := u.ckv (some ())
  simp [ck] at hvs
  simp [hvs]
  refine ⟨h4.n, rfl, ⟨.ptr h2.n 0, .nilp, v', fun b => b = h2.n, fun b => h3.n ≤ b ∧ b < h4.n, r5, (show h.n ≤ h4.n by omega), ⟨h2.n, rfl, rfl, .nils, ?_, rfl, fun c o n k e => by cases e⟩, ⟨⟨by decide, by decide, by decide⟩, by simp, by decide⟩, ?_, ok, ⟨Int.le_refl _, Int.le_refl _⟩, fun b hb => ?_, fun b hb => ?_⟩, ?_⟩
  · exact ⟨by rw [x5.get _ (by omega), x4.get _ (by omega)]; exact E3.cell, .inl ⟨rfl, rfl⟩, E3.byte, E3.low64⟩
  · exact ((W.setW ok.full).mono fun b hb hd => ⟨hd, hb⟩).ext x5
  · have hb : b = h2.n := hb
    exact ⟨(show h.n ≤ b by omega), by omega, by omega⟩
  · exact ⟨(show h.n ≤ b by omega), by omega, by omega, (show ¬ b = h2.n by omega)⟩
  · exact (((x1.trans x2).trans x3).trans x4).trans x5

theorem reader25_ok {D : Nat → Prop} {h : H} {v bv : V} {l : List Nat} {S : List (List Tb)} (sb : SlB h bv l) (hl : l.length < 140737488355329) (hb : ∀ x ∈ l, x < 256) (u : SetR D h v S) (ok : SetOk S) (ad : Bool) :
    RT (fun w h' => ∃ p, w = .tup [.ptr p 0, .int .i64 0] ∧ CoderAt (fun b => h.n ≤ b) h' p 0 (newR l S ad) ∧ Ext h h') (KW 25 [bv, .agg [v], .bool ad] h) := by
  obtain ⟨h1, b1, x1, g1, n1, u1⟩ := box25 u
  obtain ⟨w, h2, e34, rfl, x2⟩ := (check34_ok u1 ok.small).elim
  rw [if_pos ok] at e34
  have x2n := x2.n
  obtain ⟨h3, q, v3, e51, hdec, q1, q2, f3⟩ := read19_ok ((sb.keep x1.get).keep x2.get) hl hb
  have hn3 : h2.n ≤ h3.n := by omega
  have x3 : Ext h2 h3 := ⟨hn3, f3⟩
  have E3 := hdec (fun c => c = q ∨ ¬ (h2.n ≤ c ∧ c < h3.n)) (.inl rfl) (fun c c1 c2 c3 => by rintro (e | e); exact c3 e; exact e ⟨c1, c2⟩)
  obtain ⟨w, h4, e38, v', rfl, W, x4⟩ := (copy38_ok ((u1.ext x2).ext x3) ok.small).elim
  have g2 : h2.get h.n = _ := (x2.get _ (H.get_lt g1)).trans g1
  have g3 : h3.get h.n = _ := (x3.get _ (H.get_lt g2)).trans g2
  obtain ⟨h5, hh5⟩ : ∃ g, g = h4.new (.cells [.nilp, .ptr q 0, v', .bool ad, .int .i64 0] 84 false) := ⟨_, rfl⟩
  have x5 : Ext h4 h5 := by rw [hh5]; exact (Ext.refl h4).new _
  have n5 : h5.n = h4.n + 1 := by rw [hh5, H.n_new]
  have r5 : h5.get h4.n = some (.cells [.nilp, .ptr q 0, v', .bool ad, .int .i64 0] 84 false) := by rw [hh5, get_new_same]
  have x4n := x4.n
  have hbx : bx h4 84 (.agg [.nilp, .ptr q 0, v', .bool ad, .int .i64 0]) = some (.ptr h4.n 0, h5) := by rw [hh5]; rfl
  have hvc : V.cells v' = some [v'] := by
    obtain ⟨cs, k1, k2⟩ := W.setR; exact k1.cells
  have hdi := dread_inv hb
  have hvs := u.ckv (some ())
  simp [ck] at hvs
  rw [w25, f25, s25]
  simp [b1, rdN_of (o := 0) (n := 1) g1 (by simp), e34, e51, rdN_of (o := 0) (n := 1) g2 (by simp), rdN_of (o := 0) (n := 1) g3 (by simp), e38, bl, fillW, splice, hvc, hbx, ck, V.same, V.sames, hvs]
  have hE3 : DecD (fun c => h2.n ≤ c ∧ c < h3.n) h3 q (dread l).1 (dread l).2 4294967295 := ⟨v3, E3, ⟨q1, q2⟩⟩
  refine ⟨h4.n, rfl, ⟨.nilp, .ptr q 0, v', fun b => h2.n ≤ b ∧ b < h3.n, fun b => h3.n ≤ b ∧ b < h4.n, r5, (show h.n ≤ h4.n by omega), ⟨q, rfl, rfl, hE3.keep fun b hb hb2 => by rw [x5.get _ (by omega), x4.get _ hb2]⟩, ⟨hdi.1, hdi.2, by decide⟩, ?_, ok, ⟨Int.le_refl _, Int.le_refl _⟩, fun b hb => ?_, fun b hb => ?_⟩, ?_⟩
  · exact ((W.setW ok.full).mono fun b hb hd => ⟨hd, hb⟩).ext x5
  · exact ⟨(show h.n ≤ b by omega), by omega, by omega⟩
  · exact ⟨(show h.n ≤ b by omega), by omega, by omega, fun h => by omega⟩
  · exact (((x1.trans x2).trans x3).trans x4).trans x5

theorem bytes19_ok {D : Nat → Prop} {h : H} {p m : Nat} {st : St} {out : List Nat} {low rng : Nat} (a : CoderAt D h p m st) (hs : st.sd = .w out low rng) :
    RT (fun w h' => ∃ v, w = .tup [v, .int .i64 0] ∧ Wr h' h.n v (bytes out low) ∧ Ext h h') (KW 19 [.ptr p 0] h) := by
  obtain ⟨vo, vi, vs, Ds, Dw, h1, h2, h3, h4, h5, h6, h7, h8, h9⟩ := a
  have e44 := none44_ok h1 h3
  have e14 := writes14_ok h1 h3
  rw [hs] at e14 h3 h4
  obtain ⟨e, rfl, rfl, v, ea, _⟩ := h3
  obtain ⟨h', v', k1, k2, k3, k4⟩ := bytes14_wr ea h4.1 (by have := h4.2.1; have := h4.2.2; omega)
  rw [w19, f19, s19]
  simp [e44, e14, Side.writes, rd1_of h1, k1]
  exact ⟨v', rfl, k2, k3, k4⟩
theorem bytes19_no {D : Nat → Prop} {h : H} {p m : Nat} {st : St} (a : CoderAt D h p m st) (hs : st.sd.writes = false) : KW 19 [.ptr p 0] h = some (.ret (.tup [.nils, .int .i64 40]), h) := by
  obtain ⟨vo, vi, vs, Ds, Dw, h1, h2, h3, h4, h5, h6, h7, h8, h9⟩ := a
  have e44 := none44_ok h1 h3
  have e14 := writes14_ok h1 h3
  rw [hs] at e14
  rw [w19, f19, s19]
  simp [e44, e14]
end Go.Proofs.Ytfjghgjkpenanaa
