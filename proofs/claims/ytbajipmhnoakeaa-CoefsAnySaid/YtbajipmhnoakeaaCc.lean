/- What the chapter's coding of levels is, as a chain of codings: plain functions. -/
import Derived.Test.YtbajipmhnoakeaaCp
set_option linter.unusedVariables false
set_option linter.unusedSimpArgs false
set_option maxRecDepth 20000
namespace Go.Proofs.Ytbajipmhnoakeaa
open Go Go.Zf

/-- A chain of codings; what is asked next hangs on what was answered. -/
inductive Pr (α : Type) where
  | done (a : α)
  | stop
  | sym (k c : Nat) (v : Int) (f : Nat → Pr α)
  | num (n : Nat) (v : Int) (f : Nat → Pr α)
namespace Pr
variable {α β : Type}
def bind : Pr α → (α → Pr β) → Pr β
  | .done a, g => g a
  | .stop, _ => .stop
  | .sym k c v f, g => .sym k c v fun x => (f x).bind g
  | .num n v f, g => .num n v fun x => (f x).bind g
/-- What a coder makes of it: the answer, if it comes to its end. -/
def exec : Pr α → St → Option α × St
  | .done a, st => (some a, st)
  | .stop, st => (none, st)
  | .sym k c v f, st => (f (st.symV k c v)).exec (st.sym k c v)
  | .num n v f, st => (f (st.numV n v.toNat)).exec (st.num n v.toNat)
theorem exec_bind (g : α → Pr β) : ∀ (p : Pr α) (st : St), (p.bind g).exec st = match p.exec st with
    | (some a, st') => (g a).exec st'
    | (none, st') => (none, st')
  | .done a, st => rfl
  | .stop, st => rfl
  | .sym k c v f, st => exec_bind g (f (st.symV k c v)) (st.sym k c v)
  | .num n v f, st => exec_bind g (f (st.numV n v.toNat)) (st.num n v.toNat)
theorem exec_num (n : Nat) (v : Int) (f : Nat → Pr α) (st : St) : (Pr.num n v f).exec st = (f (st.numV n v.toNat)).exec (st.num n v.toNat) := rfl
theorem exec_sym (k c : Nat) (v : Int) (f : Nat → Pr α) (st : St) : (Pr.sym k c v f).exec st = (f (st.symV k c v)).exec (st.sym k c v) := rfl
theorem exec_done (a : α) (st : St) : (Pr.done a).exec st = (some a, st) := rfl
theorem exec_some {p : Pr α} {g : α → Pr β} {st st' : St} {a : α} (h : p.exec st = (some a, st')) : (p.bind g).exec st = (g a).exec st' := by rw [exec_bind, h]
theorem exec_none {p : Pr α} {g : α → Pr β} {st st' : St} (h : p.exec st = (none, st')) : (p.bind g).exec st = (none, st') := by rw [exec_bind, h]
theorem bind_assoc {γ : Type} (g : α → Pr β) (k : β → Pr γ) : ∀ p : Pr α, (p.bind g).bind k = p.bind fun a => (g a).bind k
  | .done a => rfl
  | .stop => rfl
  | .sym _ _ _ f => congrArg (Pr.sym _ _ _) (funext fun x => bind_assoc g k (f x))
  | .num _ _ f => congrArg (Pr.num _ _) (funext fun x => bind_assoc g k (f x))
end Pr

def imin (a b : Int) : Int := if b < a then b else a
def imax (a b : Int) : Int := if b > a then b else a
theorem minV_i (k : IntKind) (a b : Int) : minV [.int k a, .int k b] = some (.int k (imin a b)) := minV2 k a b
theorem maxV_i (k : IntKind) (a b : Int) : maxV [.int k a, .int k b] = some (.int k (imax a b)) := maxV2 k a b
theorem imin_b (a b : Int) : imin a b ≤ a ∧ imin a b ≤ b ∧ (imin a b = a ∨ imin a b = b) := by unfold imin; split <;> omega
theorem imax_b (a b : Int) : a ≤ imax a b ∧ b ≤ imax a b ∧ (imax a b = a ∨ imax a b = b) := by unfold imax; split <;> omega
def flg (b : Bool) : Int := if b then 1 else 0
def iabs (a : Int) : Int := imax a (-a)
theorem iabs_b (a : Int) : 0 ≤ iabs a ∧ (iabs a = a ∨ iabs a = -a) ∧ a ≤ iabs a ∧ -a ≤ iabs a := by have := imax_b a (-a); unfold iabs; omega

/-- A block that is coded. -/
structure BD where
  size : Nat
  n : Nat
  colour : Nat
  sign : Nat
  ord : List Nat
  src : List Int
  wr : Bool

def ekP (size : Nat) : Nat := if size = 4 then 23 else if size = 8 then 24 else if size = 16 then 25 else 26
/-- The class of an end, and what is more. -/
def clsP (e : Nat) : Nat := if e = 1 then 0 else Nat.log2 (e - 1) + 1
def extP (e : Nat) : Int := if e = 1 then 0 else (e : Int) - 2 ^ (clsP e - 1) - 1
def endTo (B : BD) : Nat → Nat
  | 0 => 0
  | i + 1 => if B.src.getD (B.ord.getD i 0) 0 ≠ 0 then i + 1 else endTo B i
def endP (B : BD) : Pr Nat :=
  .sym 22 (2 * B.colour + if 8 < B.size then 1 else 0) (if endTo B B.ord.length = 0 then 1 else 0) fun z =>
  if z = 1 then .done 0 else
  .sym (ekP B.size) B.colour (clsP (max (endTo B B.ord.length) 1)) fun c =>
  if c = 0 then .done 1 else .num (c - 1) (extP (max (endTo B B.ord.length) 1)) fun x => .done (2 ^ (c - 1) + 1 + x)

/-! Contexts. -/
def cval (lv : List Int) (n at_ : Nat) (each : Int) (d : Nat × Nat) : Int :=
  if at_ / n + d.1 < n ∧ at_ % n + d.2 < n then
    let v := lv.getD ((at_ / n + d.1) * n + (at_ % n + d.2)) 0
    if 0 ≤ v then imin v each else -imax v (-each)
  else 0
def csum (lv : List Int) (n at_ : Nat) (each : Int) (ds : List (Nat × Nat)) : Int := (ds.map (cval lv n at_ each)).sum
def ctxP (lv : List Int) (n at_ : Nat) (each all : Int) (ds : List (Nat × Nat)) : Int := imin ((csum lv n at_ each ds + 1) / 2) all
def baseDs : List (Nat × Nat) := [(0, 1), (1, 0), (1, 1), (0, 2), (2, 0)]
def moreDs : List (Nat × Nat) := [(0, 1), (1, 0), (1, 1)]
def baseP (lv : List Int) (n at_ : Nat) : Nat := (ctxP lv n at_ 3 4 baseDs).toNat
def moreP (lv : List Int) (n at_ : Nat) : Nat := (ctxP lv n at_ 15 6 moreDs).toNat
theorem cval_b (lv : List Int) (n at_ : Nat) {each : Int} (he : 0 ≤ each) (d : Nat × Nat) : 0 ≤ cval lv n at_ each d ∧ cval lv n at_ each d ≤ each := by
  unfold cval
  simp only
  generalize lv.getD ((at_ / n + d.1) * n + (at_ % n + d.2)) 0 = v
  have h1 := imin_b v each
  have h2 := imax_b v (-each)
  split
  · split <;> omega
  · omega
theorem csum_b (lv : List Int) (n at_ : Nat) {each : Int} (he : 0 ≤ each) : ∀ ds : List (Nat × Nat), 0 ≤ csum lv n at_ each ds ∧ csum lv n at_ each ds ≤ each * ds.length
  | [] => by simp [csum]
  | d :: ds => by
    have h1 := cval_b lv n at_ he d
    have h2 := csum_b lv n at_ he ds
    have h3 : csum lv n at_ each (d :: ds) = cval lv n at_ each d + csum lv n at_ each ds := rfl
    have h4 : each * ((d :: ds).length : Int) = each + each * ds.length := by rw [List.length_cons, Int.natCast_succ, Int.mul_add]; omega
    omega
theorem ctxP_b (lv : List Int) (n at_ : Nat) {each all : Int} (he : 0 ≤ each) (ha : 0 ≤ all) (ds : List (Nat × Nat)) : 0 ≤ ctxP lv n at_ each all ds ∧ ctxP lv n at_ each all ds ≤ all := by
  have h1 := csum_b lv n at_ he ds
  have h2 := imin_b ((csum lv n at_ each ds + 1) / 2) all
  unfold ctxP
  omega
theorem baseP_b (lv : List Int) (n at_ : Nat) : baseP lv n at_ ≤ 4 ∧ (baseP lv n at_ : Int) = ctxP lv n at_ 3 4 baseDs := by
  have := ctxP_b lv n at_ (each := 3) (all := 4) (by decide) (by decide) baseDs; unfold baseP; omega
theorem moreP_b (lv : List Int) (n at_ : Nat) : moreP lv n at_ ≤ 6 ∧ (moreP lv n at_ : Int) = ctxP lv n at_ 15 6 moreDs := by
  have := ctxP_b lv n at_ (each := 15) (all := 6) (by decide) (by decide) moreDs; unfold moreP; omega

/-! Amounts. -/
def lenP (wr : Bool) (x : Nat) : Nat → Nat → Pr Nat
  | 0, _ => .stop
  | f + 1, k => .num 1 (if k = Nat.log2 x then 1 else 0) fun b =>
    if b = 0 then lenP wr x f (k + 1) else .num k (if wr then (x : Int) - 2 ^ k else 0) fun v => .done (2 ^ k + v - 1)
def amoP (B : BD) (a : Int) (more : Nat) : Nat → Nat → Pr Nat
  | 0, sum => (lenP B.wr ((imax (a - sum) 0).toNat + 1) 21 0).bind fun v => .done (sum + v)
  | j + 1, sum => .sym 29 (7 * B.colour + more) (imin (imax (a - sum) 0) 3) fun s => if s < 3 then .done (sum + s) else amoP B a more j (sum + s)
def amountP (B : BD) (lv : List Int) (at_ said : Nat) : Pr Nat :=
  if said < 3 then .done said else amoP B (iabs (B.src.getD at_ 0)) (moreP lv B.n at_) 4 said
def saidP (B : BD) (en i : Nat) (lv : List Int) : Pr Nat :=
  if i + 1 = en then .sym 27 B.colour (imax (imin (iabs (B.src.getD (B.ord.getD i 0) 0)) 3 - 1) 0) fun s => .done (1 + s)
  else .sym 28 (5 * B.colour + baseP lv B.n (B.ord.getD i 0)) (imin (iabs (B.src.getD (B.ord.getD i 0) 0)) 3) fun s => .done s
def amsP (B : BD) (en : Nat) : Nat → List Int → Pr (List Int)
  | 0, lv => .done lv
  | i + 1, lv => (saidP B en i lv).bind fun said => (amountP B lv (B.ord.getD i 0) said).bind fun v => amsP B en i (lv.set (B.ord.getD i 0) v)
/-! Signs. -/
def belowP (B : BD) (at_ : Nat) : Pr Nat :=
  if at_ = 0 then .sym 30 (3 * B.colour + B.sign) (if B.src.getD at_ 0 < 0 then 1 else 0) fun b => .done b
  else .num 1 (if B.src.getD at_ 0 < 0 then 1 else 0) fun b => .done b
def sgsP (B : BD) : List Nat → List Int → Pr (List Int)
  | [], lv => .done lv
  | at_ :: r, lv => if lv.getD at_ 0 = 0 then sgsP B r lv else (belowP B at_).bind fun b => sgsP B r (if b = 1 then lv.set at_ (-lv.getD at_ 0) else lv)
def codeP (B : BD) : Pr (List Int) :=
  (endP B).bind fun en => (amsP B en en (List.replicate (B.n * B.n) 0)).bind fun lv => sgsP B (B.ord.take en) lv

end Go.Proofs.Ytbajipmhnoakeaa
