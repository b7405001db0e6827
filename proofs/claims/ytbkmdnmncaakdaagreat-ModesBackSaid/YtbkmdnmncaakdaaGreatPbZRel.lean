import Derived.Test.YtbkmdnmncaakdaaGreatPbZBase
import Derived.Calls
set_option linter.unusedVariables false
set_option linter.unusedSimpArgs false
namespace Go.Zf
structure Ent where
 B:Nat
 s:Nat
 N:Nat
 ro:Bool
abbrev Inj:=Nat→Option Ent
mutual
inductive VRel (i:Inj):V→Value→Prop
 | bool (b:Bool):VRel i (.bool b) (.bool b)
 | int (k:IntKind) (n:Int):VRel i (.int k n) (.int k n)
 | float (k:FloatKind) (b:Nat):VRel i (.float k b) (.float k b)
 | str (s:ByteArray):VRel i (.str s.data.toList) (.string s)
 | nilp:VRel i .nilp (.pointer none)
 | ptr {b o:Nat} {x:Ent} (h:i b=some x):VRel i (.ptr b o) (.pointer (some ⟨x.B,x.s+o,none⟩))
 | nils:VRel i .nils (.slice none 0 0)
 | slx {b o len cap:Nat} {x:Ent} (h:i b=some x):VRel i (.sl b o len (.ex cap)) (.slice (some ⟨x.B,x.s+o,none⟩) len cap)
 | slz {b o:Nat} {a:Addr}:VRel i (.sl b o 0 (.ex 0)) (.slice (some a) 0 0)
 | slo {b o len z c:Nat} {x:Ent} (h:i b=some x) (hc:x.ro=false→x.s+o+c*z=x.N) (hl:len≤c) :
   VRel i (.sl b o len (.op z)) (.slice (some ⟨x.B,x.s+o,none⟩) len c)
 | sle {b o z p:Nat} {x:Ent} (h:i b=some x):VRel i (.sl b o 0 (.op z)) (.slice (some ⟨x.B,p,none⟩) 0 0)
 | nilm:VRel i .nilm (.map none)
 | map {b:Nat} {x:Ent} (h:i b=some x):VRel i (.map b) (.map (some x.B))
 | nilf:VRel i .nilf .nilFunc
 | fn {f:Fn} {xs ys:List V} {us vs:List Value} (hx:VsRel i xs us) (hy:VsRel i ys vs):VRel i (.fn f xs ys) (.func f us.toArray vs.toArray)
 | nili:VRel i .nili .nilIface
 | iface {t:TypeId} {v:V} {u:Value} (h:VRel i v u):VRel i (.iface t v) (.iface t u)
 | agg {xs:List V} {us:List Value} (h:VsRel i xs us) (hc:xs.all V.isCell=true):VRel i (.agg xs) (.agg us.toArray)
 | tup {xs:List V} {us:List Value} (h:VsRel i xs us):VRel i (.tup xs) (.tuple us.toArray)
 | any (u:Value):VRel i .any u
inductive VsRel (i:Inj):List V→List Value→Prop
 | nil:VsRel i [] []
 | cons {x:V} {u:Value} {xs:List V} {us:List Value} (h:VRel i x u) (hs:VsRel i xs us):VsRel i (x :: xs) (u :: us)
end
def Inj.le (i j:Inj):Prop:=∀ b x,i b=some x→j b=some x
mutual
theorem VRel.mono {i j:Inj} (hij:i.le j):∀ {v:V} {u:Value},VRel i v u→VRel j v u
 | _,_,.bool b=>.bool b
 | _,_,.int k n=>.int k n
 | _,_,.float k b=>.float k b
 | _,_,.str s=>.str s
 | _,_,.nilp=>.nilp
 | _,_,.ptr h=>.ptr (hij _ _ h)
 | _,_,.nils=>.nils
 | _,_,.slx h=>.slx (hij _ _ h)
 | _,_,.slz=>.slz
 | _,_,.slo h a b=>.slo (hij _ _ h) a b
 | _,_,.sle h=>.sle (hij _ _ h)
 | _,_,.nilm=>.nilm
 | _,_,.map h=>.map (hij _ _ h)
 | _,_,.nilf=>.nilf
 | _,_,.fn a b=>.fn (VsRel.mono hij a) (VsRel.mono hij b)
 | _,_,.nili=>.nili
 | _,_,.iface h=>.iface (VRel.mono hij h)
 | _,_,.agg h a=>.agg (VsRel.mono hij h) a
 | _,_,.tup h=>.tup (VsRel.mono hij h)
 | _,_,.any u=>.any u
theorem VsRel.mono {i j:Inj} (hij:i.le j):∀ {v:List V} {u:List Value},VsRel i v u→VsRel j v u
 | _,_,.nil=>.nil
 | _,_,.cons h hs=>.cons (VRel.mono hij h) (VsRel.mono hij hs)
end
section lists
variable {i:Inj}
theorem VsRel.length {xs:List V} {us:List Value} (h:VsRel i xs us):us.length=xs.length:=by
 induction xs generalizing us with
 | nil=>cases h;rfl
 | cons x xs ih=>cases h with | cons h hs=>simp [ih hs]
theorem VsRel.get {xs:List V} {us:List Value} (h:VsRel i xs us):∀ {k:Nat} {v:V},xs[k]?=some v→∃ u,us[k]?=some u∧VRel i v u:=by
 induction xs generalizing us with
 | nil=>intro k v e;simp at e
 | cons x xs ih =>
  cases h with
  | cons h hs =>
   intro k v e
   cases k with
   | zero=>simp at e;subst e;exact ⟨_,rfl,h⟩
   | succ k=>simpa using ih hs (by simpa using e)
theorem VsRel.append {xs ys:List V} {us vs:List Value} (h:VsRel i xs us) (h':VsRel i ys vs):VsRel i (xs ++ ys) (us ++ vs):=by
 induction xs generalizing us with
 | nil=>cases h;exact h'
 | cons x xs ih=>cases h with | cons h hs=>exact .cons h (ih hs)
theorem VsRel.take {xs:List V} {us:List Value} (h:VsRel i xs us):∀ n,VsRel i (xs.take n) (us.take n):=by
 induction xs generalizing us with
 | nil=>cases h;intro n;simp;exact .nil
 | cons x xs ih =>
  cases h with
  | cons h hs=>intro n;cases n with
   | zero=>exact .nil
   | succ n=>exact .cons h (ih hs n)
theorem VsRel.drop {xs:List V} {us:List Value} (h:VsRel i xs us):∀ n,VsRel i (xs.drop n) (us.drop n):=by
 induction xs generalizing us with
 | nil=>cases h;intro n;simp;exact .nil
 | cons x xs ih =>
  cases h with
  | cons h hs=>intro n;cases n with
   | zero=>exact .cons h hs
   | succ n=>exact ih hs n
theorem VsRel.map {α:Type} {f:α→V} {g:α→Value} {l:List α} (h:∀ a ∈ l,VRel i (f a) (g a)):VsRel i (l.map f) (l.map g):=by
 induction l with
 | nil=>exact .nil
 | cons a l ih=>exact .cons (h a (by simp)) (ih fun b hb=>h b (by simp [hb]))
theorem VsRel.of_get {xs:List V} {us:List Value} (hl:us.length=xs.length) (h:∀ (k:Nat) (v:V),xs[k]?=some v→∃ u,us[k]?=some u∧VRel i v u):VsRel i xs us:=by
 induction xs generalizing us with
 | nil=>cases us with | nil=>exact .nil | cons=>simp at hl
 | cons x xs ih =>
  cases us with
  | nil=>simp at hl
  | cons u us =>
   obtain ⟨u',hu,hr⟩:=h 0 x rfl
   simp at hu;subst hu
   exact .cons hr (ih (by simpa using hl) fun k v e=>by simpa using h (k+1) v (by simpa using e))
theorem VsRel.set {xs:List V} {us:List Value} (h:VsRel i xs us) {v:V} {u:Value} (hv:VRel i v u):∀ n,VsRel i (xs.set n v) (us.set n u):=by
 induction xs generalizing us with
 | nil=>cases h;intro n;exact .nil
 | cons x xs ih =>
  cases h with
  | cons h hs=>intro n;cases n with
   | zero=>exact .cons hv hs
   | succ n=>exact .cons h (ih hs n)
end lists
theorem VRel.ofAtom (i:Inj) (v:Value):VRel i (ofAtom v) v:=by
 unfold Zf.ofAtom
 split <;> first | exact .any _ | constructor
theorem VRel.ofVal (i:Inj) (v:Value):VRel i (ofVal v) v:=by
 unfold Zf.ofVal
 split
 ·rename_i cs
  split
  ·rename_i h
   have e:VRel i (.agg (cs.toList.map Zf.ofAtom)) (.agg cs.toList.toArray):=.agg (by simpa using VsRel.map (f:=Zf.ofAtom) (g:=id) (l:=cs.toList) fun a _=>VRel.ofAtom i a) h
   simpa using e
  ·exact .any _
 ·rename_i cs
  have e:VRel i (.tup (cs.toList.map Zf.ofAtom)) (.tuple cs.toList.toArray):=.tup (by simpa using VsRel.map (f:=Zf.ofAtom) (g:=id) (l:=cs.toList) fun a _=>VRel.ofAtom i a)
  simpa using e
 ·exact .iface (VRel.ofAtom i _)
 ·exact VRel.ofAtom i v
theorem VRel.und {i:Inj}:VRel i .und undef:=.tup .nil
theorem VRel.cells {i:Inj} {v:V} {u:Value} {l:List V} (h:VRel i v u) (hl:v.cells=some l) :
  VsRel i l u.cells.toList∧l.all V.isCell=true:=by
 cases h with
 | agg h hc=>simp only [V.cells,Option.some.injEq] at hl;subst hl;exact ⟨by simpa [Value.cells] using h,hc⟩
 | tup h=>simp [V.cells] at hl
 | any u=>simp [V.cells] at hl
 | bool b=>simp only [V.cells,Option.some.injEq] at hl;subst hl;exact ⟨.cons (.bool b) .nil,rfl⟩
 | int k n=>simp only [V.cells,Option.some.injEq] at hl;subst hl;exact ⟨.cons (.int k n) .nil,rfl⟩
 | float k b=>simp only [V.cells,Option.some.injEq] at hl;subst hl;exact ⟨.cons (.float k b) .nil,rfl⟩
 | str s=>simp only [V.cells,Option.some.injEq] at hl;subst hl;exact ⟨.cons (.str s) .nil,rfl⟩
 | nilp=>simp only [V.cells,Option.some.injEq] at hl;subst hl;exact ⟨.cons .nilp .nil,rfl⟩
 | ptr h=>simp only [V.cells,Option.some.injEq] at hl;subst hl;exact ⟨.cons (.ptr h) .nil,rfl⟩
 | nils=>simp only [V.cells,Option.some.injEq] at hl;subst hl;exact ⟨.cons .nils .nil,rfl⟩
 | slx h=>simp only [V.cells,Option.some.injEq] at hl;subst hl;exact ⟨.cons (.slx h) .nil,rfl⟩
 | slz=>simp only [V.cells,Option.some.injEq] at hl;subst hl;exact ⟨.cons .slz .nil,rfl⟩
 | slo h a b=>simp only [V.cells,Option.some.injEq] at hl;subst hl;exact ⟨.cons (.slo h a b) .nil,rfl⟩
 | sle h=>simp only [V.cells,Option.some.injEq] at hl;subst hl;exact ⟨.cons (.sle h) .nil,rfl⟩
 | nilm=>simp only [V.cells,Option.some.injEq] at hl;subst hl;exact ⟨.cons .nilm .nil,rfl⟩
 | map h=>simp only [V.cells,Option.some.injEq] at hl;subst hl;exact ⟨.cons (.map h) .nil,rfl⟩
 | nilf=>simp only [V.cells,Option.some.injEq] at hl;subst hl;exact ⟨.cons .nilf .nil,rfl⟩
 | fn a b=>simp only [V.cells,Option.some.injEq] at hl;subst hl;exact ⟨.cons (.fn a b) .nil,rfl⟩
 | nili=>simp only [V.cells,Option.some.injEq] at hl;subst hl;exact ⟨.cons .nili .nil,rfl⟩
 | iface h=>simp only [V.cells,Option.some.injEq] at hl;subst hl;exact ⟨.cons (.iface h) .nil,rfl⟩
def Blk.live:Blk→Bool
 | .dead=>false
 | _=>true
def Blk.own:Blk→Bool
 | .cells _ _ ro=>!ro
 | .map _=>true
 | .dead=>false
def BlkRel (i:Inj) (w:World) (b:Nat):Blk→Prop
 | .dead=>True
 | .cells c e ro=>∃ (x:Ent) (C:Array Value) (fr:Nat × Nat),i b=some x∧x.ro=ro∧w.heap[x.B]?=some (.cells C e fr)∧C.size=x.N∧x.s+c.length≤x.N ∧
   (ro=false→fr=(0,0))∧(∀ (k:Nat) (v:V),c[k]?=some v→v.isCell=true∧∃ u,C[x.s+k]?=some u∧VRel i v u)
 | .map es=>∃ (x:Ent) (E:Array MapEntry) (clk:Nat),i b=some x∧x.ro=false∧w.heap[x.B]?=some (.map E clk) ∧
   VsRel i (es.map (·.1)) (E.toList.map (·.key))∧VsRel i (es.map (·.2)) (E.toList.map (·.val))
structure HRel (i:Inj) (h:H) (w:World):Prop where
 blk:∀ b x,h.get b=some x→BlkRel i w b x
 inj:∀ b c x y p q,h.get b=some x→h.get c=some y→x.live=true→y.live=true→b ≠ c→i b=some p→i c=some q→(x.own=true∨y.own=true)→p.B ≠ q.B
 bound:∀ b x,i b=some x→x.B < w.heap.size
def H.has (h:H) (b:Nat):Prop:=∃ x,h.get b=some x∧x.live=true
def H.owns (h:H) (b:Nat):Prop:=∃ x,h.get b=some x∧x.own=true
structure Fr (i:Inj) (h:H) (w:World) (i':Inj) (h':H) (w':World):Prop where
 n:h.n≤h'.n
 size:w.heap.size≤w'.heap.size
 keep:∀ B,B < w.heap.size→(∀ b x,h.owns b→i b=some x→x.B ≠ B)→w'.heap[B]?=w.heap[B]?
 own:∀ b x,h'.owns b→i' b=some x→x.B < w.heap.size→∃ c y,h.owns c∧i c=some y∧y.B=x.B
 live:∀ b x,h'.has b→i' b=some x→x.B < w.heap.size→∃ c y,h.has c∧i c=some y∧y.B=x.B
 dom:∀ b,(b < h.n∨h'.n≤b)→i' b=i b
 os:w'.os=w.os∧w'.tape=w.tape
 out:w'.output=w.output
def Inj.clear (i:Inj) (a b:Nat):Prop:=∀ c,a≤c→c < b→i c=none
theorem Inj.clear_le {i j:Inj} {a b:Nat} (hc:i.clear a b) (hd:∀ c,(c < a∨b≤c)→j c=i c):i.le j:=by
 intro c x h
 by_cases h1:c < a
 ·rw [hd c (.inl h1)];exact h
 ·by_cases h2:b≤c
  ·rw [hd c (.inr h2)];exact h
  ·rw [hc c (by omega) (by omega)] at h;cases h
theorem Fr.le {i i':Inj} {h h':H} {w w':World} (f:Fr i h w i' h' w') (hc:i.clear h.n h'.n):i.le i':=Inj.clear_le hc f.dom
theorem Fr.refl (i:Inj) (h:H) (w:World):Fr i h w i h w where
 n:=Nat.le_refl _
 size:=Nat.le_refl _
 keep:=fun _ _ _=>rfl
 own:=fun b x hb hx _=>⟨b,x,hb,hx,rfl⟩
 live:=fun b x hb hx _=>⟨b,x,hb,hx,rfl⟩
 dom:=fun _ _=>rfl
 os:=⟨rfl,rfl⟩
 out:=rfl
theorem Fr.trans {i j k:Inj} {h1 h2 h3:H} {w1 w2 w3:World} (a:Fr i h1 w1 j h2 w2) (b:Fr j h2 w2 k h3 w3):Fr i h1 w1 k h3 w3 where
 n:=Nat.le_trans a.n b.n
 size:=Nat.le_trans a.size b.size
 keep:=fun B hB hno=>by
  rw [b.keep B (Nat.lt_of_lt_of_le hB a.size) ?_,a.keep B hB hno]
  intro c x hc hx hxB
  obtain ⟨c',y,hc',hy,e⟩:=a.own c x hc hx (by omega)
  exact hno c' y hc' hy (e.trans hxB)
 own:=fun c x hc hx hl=>by
  obtain ⟨d,y,hd,hy,e⟩:=b.own c x hc hx (Nat.lt_of_lt_of_le hl a.size)
  obtain ⟨d',y',hd',hy',e'⟩:=a.own d y hd hy (by omega)
  exact ⟨d',y',hd',hy',e'.trans e⟩
 live:=fun c x hc hx hl=>by
  obtain ⟨d,y,hd,hy,e⟩:=b.live c x hc hx (Nat.lt_of_lt_of_le hl a.size)
  obtain ⟨d',y',hd',hy',e'⟩:=a.live d y hd hy (by omega)
  exact ⟨d',y',hd',hy',e'.trans e⟩
 dom:=fun c hc=>by
  rw [b.dom c (by have:=a.n;omega),a.dom c (by have:=b.n;omega)]
 os:=⟨b.os.1.trans a.os.1,b.os.2.trans a.os.2⟩
 out:=b.out.trans a.out
theorem Inj.clear_mid {i:Inj} {a b c:Nat} (h:i.clear a c) (hbc:b≤c):i.clear a b:=fun d h1 h2=>h d h1 (by omega)
theorem Fr.clear {i i':Inj} {h h':H} {w w':World} (f:Fr i h w i' h' w') {m:Nat} (hc:i.clear h.n m):i'.clear h'.n m:=by
 intro c h1 h2
 rw [f.dom c (.inr h1)]
 exact hc c (Nat.le_trans f.n h1) h2
def SRel (i:Inj) (s:Nat→V) (tmps:Array Value):Prop:=∀ t,VRel i (s t) (tmps.getD t undef)
theorem SRel.mono {i j:Inj} (hij:i.le j) {s:Nat→V} {tmps:Array Value} (h:SRel i s tmps):SRel j s tmps:=fun t=>(h t).mono hij
theorem SRel.put {i:Inj} {s:Nat→V} {a:Act} (h:SRel i s a.tmps) {d:Option Nat} {v:V} {u:Value} (hv:VRel i v u) (hd:∀ t,d=some t→t < a.tmps.size) :
  SRel i (sput s d v) (a.put d u).tmps:=by
 cases d with
 | none=>exact h
 | some d =>
  intro t
  simp only [sput,Act.put]
  by_cases e:t=d
  ·subst e
   have:=hd t rfl
   simp [Array.getD,this];exact hv
  ·simp only [e,if_false]
   have:=h t
   by_cases hs:t < a.tmps.size
   ·simp [Array.getD,hs,Ne.symm e] at this ⊢;simpa [hs,Ne.symm e] using this
   ·simpa [Array.getD,hs] using this
end Go.Zf
