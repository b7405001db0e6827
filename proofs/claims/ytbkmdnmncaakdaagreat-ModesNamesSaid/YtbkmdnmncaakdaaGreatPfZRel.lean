import Derived.Test.YtbkmdnmncaakdaaGreatPfZBase
import Derived.Calls
set_option linter.unusedVariables false
set_option linter.unusedSimpArgs false
namespace Go.Zf
structure NV where
 B:Nat
 s:Nat
 N:Nat
 ro:Bool
abbrev YJ:=Nat->Option NV
mutual
inductive ZK (i:YJ):V->Value->Prop
 |bool (b:Bool):ZK i (.bool b) (.bool b)
 |int (k:IntKind) (n:Int):ZK i (.int k n) (.int k n)
 |float (k:FloatKind) (b:Nat):ZK i (.float k b) (.float k b)
 |str (s:ByteArray):ZK i (.str s.data.toList) (.string s)
 |Zh:ZK i .Zh (.pointer none)
 |ptr {b o:Nat} {x:NV} (h:i b=some x):ZK i (.ptr b o) (.pointer (some ⟨x.B,x.s+o,none⟩))
 |ZO:ZK i .ZO (.slice none 0 0)
 |Kg {b o len cap:Nat} {x:NV} (h:i b=some x):ZK i (.sl b o len (.ex cap)) (.slice (some ⟨x.B,x.s+o,none⟩) len cap)
 |DI {b o:Nat} {a:Addr}:ZK i (.sl b o 0 (.ex 0)) (.slice (some a) 0 0)
 |Fh {b o len z c:Nat} {x:NV} (h:i b=some x) (hc:x.ro=false->x.s+o+c*z=x.N) (hl:len<=c) :
   ZK i (.sl b o len (.op z)) (.slice (some ⟨x.B,x.s+o,none⟩) len c)
 |sle {b o z p:Nat} {x:NV} (h:i b=some x):ZK i (.sl b o 0 (.op z)) (.slice (some ⟨x.B,p,none⟩) 0 0)
 |Sz:ZK i .Sz (.map none)
 |map {b:Nat} {x:NV} (h:i b=some x):ZK i (.map b) (.map (some x.B))
 |Tk:ZK i .Tk .nilFunc
 |fn {f:Fn} {xs ys:List V} {us vs:List Value} (hx:ZA i xs us) (hy:ZA i ys vs):ZK i (.fn f xs ys) (.func f us.toArray vs.toArray)
 |KM:ZK i .KM .nilIface
 |iface {t:TypeId} {v:V} {u:Value} (h:ZK i v u):ZK i (.iface t v) (.iface t u)
 |agg {xs:List V} {us:List Value} (h:ZA i xs us) (hc:xs.all V.Zr=true):ZK i (.agg xs) (.agg us.toArray)
 |Zt {xs:List V} {us:List Value} (h:ZA i xs us):ZK i (.Zt xs) (.tuple us.toArray)
 |any (u:Value):ZK i .any u
inductive ZA (i:YJ):List V->List Value->Prop
 |nil:ZA i [] []
 |cons {x:V} {u:Value} {xs:List V} {us:List Value} (h:ZK i x u) (hs:ZA i xs us):ZA i (x::xs) (u::us)
end
def YJ.le(i j:YJ):Prop:=∀b x,i b=some x->j b=some x
mutual
theorem ZK.mono{i j:YJ}(Ud:i.le j):∀{v:V} {u:Value},ZK i v u->ZK j v u
 |_,_,.bool b=>.bool b
 |_,_,.int k n=>.int k n
 |_,_,.float k b=>.float k b
 |_,_,.str s=>.str s
 |_,_,.Zh=>.Zh
 |_,_,.ptr h=>.ptr (Ud _ _ h)
 |_,_,.ZO=>.ZO
 |_,_,.Kg h=>.Kg (Ud _ _ h)
 |_,_,.DI=>.DI
 |_,_,.Fh h a b=>.Fh (Ud _ _ h) a b
 |_,_,.sle h=>.sle (Ud _ _ h)
 |_,_,.Sz=>.Sz
 |_,_,.map h=>.map (Ud _ _ h)
 |_,_,.Tk=>.Tk
 |_,_,.fn a b=>.fn (ZA.mono Ud a) (ZA.mono Ud b)
 |_,_,.KM=>.KM
 |_,_,.iface h=>.iface (ZK.mono Ud h)
 |_,_,.agg h a=>.agg (ZA.mono Ud h) a
 |_,_,.Zt h=>.Zt (ZA.mono Ud h)
 |_,_,.any u=>.any u
theorem ZA.mono{i j:YJ}(Ud:i.le j):∀{v:List V} {u:List Value},ZA i v u->ZA j v u
 |_,_,.nil=>.nil
 |_,_,.cons h hs=>.cons (ZK.mono Ud h) (ZA.mono Ud hs)
end
section lists
variable{i:YJ}
variable{xs:List V}{us:List Value}
theorem ZA.length(h:ZA i xs us):us.length=xs.length:=by
 induction xs generalizing us with
 |nil=>cases h;rfl
 |cons x xs ih=>cases h with|cons h hs=>simp[ih hs]
theorem ZA.get(h:ZA i xs us):∀{k:Nat} {v:V},xs[k]?=some v->∃u,us[k]?=some u/\ZK i v u:=by
 induction xs generalizing us with
 |nil=>intro k v e;simp at e
 |cons x xs ih =>
  cases h with
  |cons h hs =>
   intro k v e;cases k with
   |zero=>simp at e;subst e;exact⟨_,rfl,h⟩
   |succ k=>simpa using ih hs (by simpa using e)
theorem ZA.append{ys:List V}{vs:List Value}(h:ZA i xs us)(h':ZA i ys vs):ZA i (xs++ys) (us++vs):=by
 induction xs generalizing us with
 |nil=>cases h;exact h'
 |cons x xs ih=>cases h with|cons h hs=>exact .cons h (ih hs)
theorem ZA.take(h:ZA i xs us):∀n,ZA i (xs.take n) (us.take n):=by
 induction xs generalizing us with
 |nil=>cases h;intro n;simp;exact .nil
 |cons x xs ih =>
  cases h with
  |cons h hs=>intro n;cases n with
   |zero=>exact .nil
   |succ n=>exact .cons h (ih hs n)
theorem ZA.drop(h:ZA i xs us):∀n,ZA i (xs.drop n) (us.drop n):=by
 induction xs generalizing us with
 |nil=>cases h;intro n;simp;exact .nil
 |cons x xs ih =>
  cases h with
  |cons h hs=>intro n;cases n with
   |zero=>exact .cons h hs
   |succ n=>exact ih hs n
theorem ZA.map{α:Type}{f:α->V}{g:α->Value}{l:List α}(h:∀a∈l,ZK i (f a) (g a)):ZA i (l.map f) (l.map g):=by
 induction l with
 |nil=>exact .nil
 |cons a l ih=>exact .cons (h a (by simp)) (ih λb hb=>h b (by simp[hb]))
theorem ZA.zh(hl:us.length=xs.length)(h:∀(k:Nat) (v:V),xs[k]?=some v->∃u,us[k]?=some u/\ZK i v u):ZA i xs us:=by
 induction xs generalizing us with
 |nil=>cases us with|nil=>exact .nil|cons=>simp at hl
 |cons x xs ih =>
  cases us with
  |nil=>simp at hl
  |cons u us =>
   obtain⟨u',hu,hr⟩:=h 0 x rfl;simp at hu;subst hu;exact .cons hr (ih (by simpa using hl) λk v e=>by simpa using h (k+1) v (by simpa using e))
variable{v:V}{u:Value}
theorem ZA.set(h:ZA i xs us)(hv:ZK i v u):∀n,ZA i (xs.set n v) (us.set n u):=by
 induction xs generalizing us with
 |nil=>cases h;intro n;exact .nil
 |cons x xs ih =>
  cases h with
  |cons h hs=>intro n;cases n with
   |zero=>exact .cons hv hs
   |succ n=>exact .cons h (ih hs n)
end lists
theorem ZK.XE(i:YJ)(v:Value):ZK i (XE v) v:=by
 unfold Zf.XE;split<;>first|exact .any _|constructor
theorem ZK.Hl(i:YJ)(v:Value):ZK i (Hl v) v:=by
 unfold Zf.Hl;split
 .rename_i cs
  split
  .rename_i h
   have e:ZK i (.agg (cs.toList.map Zf.XE)) (.agg cs.toList.toArray):=.agg (by simpa using ZA.map (f:=Zf.XE) (g:=id) (l:=cs.toList) λa _=>ZK.XE i a) h;simpa using e
  .exact .any _
 .rename_i cs
  have e:ZK i (.Zt (cs.toList.map Zf.XE)) (.tuple cs.toList.toArray):=.Zt (by simpa using ZA.map (f:=Zf.XE) (g:=id) (l:=cs.toList) λa _=>ZK.XE i a);simpa using e
 .exact .iface (ZK.XE i _)
 .exact ZK.XE i v
variable{i:YJ}
theorem ZK.Wz:ZK i .Wz undef:=.Zt .nil
variable{v:V}{u:Value}
theorem ZK.cells{l:List V}(h:ZK i v u)(hl:v.cells=some l):
  ZA i l u.cells.toList/\l.all V.Zr=true:=by
 cases h with
 |agg h hc=>simp only[V.cells,Option.some.injEq]at hl;subst hl;exact⟨by simpa [Value.cells]using h,hc⟩
 |Zt h=>simp[V.cells]at hl
 |any u=>simp[V.cells]at hl
 |bool b=>simp only[V.cells,Option.some.injEq]at hl;subst hl;exact⟨.cons (.bool b) .nil,rfl⟩
 |int k n=>simp only[V.cells,Option.some.injEq]at hl;subst hl;exact⟨.cons (.int k n) .nil,rfl⟩
 |float k b=>simp only[V.cells,Option.some.injEq]at hl;subst hl;exact⟨.cons (.float k b) .nil,rfl⟩
 |str s=>simp only[V.cells,Option.some.injEq]at hl;subst hl;exact⟨.cons (.str s) .nil,rfl⟩
 |Zh=>simp only[V.cells,Option.some.injEq]at hl;subst hl;exact⟨.cons .Zh .nil,rfl⟩
 |ptr h=>simp only[V.cells,Option.some.injEq]at hl;subst hl;exact⟨.cons (.ptr h) .nil,rfl⟩
 |ZO=>simp only[V.cells,Option.some.injEq]at hl;subst hl;exact⟨.cons .ZO .nil,rfl⟩
 |Kg h=>simp only[V.cells,Option.some.injEq]at hl;subst hl;exact⟨.cons (.Kg h) .nil,rfl⟩
 |DI=>simp only[V.cells,Option.some.injEq]at hl;subst hl;exact⟨.cons .DI .nil,rfl⟩
 |Fh h a b=>simp only[V.cells,Option.some.injEq]at hl;subst hl;exact⟨.cons (.Fh h a b) .nil,rfl⟩
 |sle h=>simp only[V.cells,Option.some.injEq]at hl;subst hl;exact⟨.cons (.sle h) .nil,rfl⟩
 |Sz=>simp only[V.cells,Option.some.injEq]at hl;subst hl;exact⟨.cons .Sz .nil,rfl⟩
 |map h=>simp only[V.cells,Option.some.injEq]at hl;subst hl;exact⟨.cons (.map h) .nil,rfl⟩
 |Tk=>simp only[V.cells,Option.some.injEq]at hl;subst hl;exact⟨.cons .Tk .nil,rfl⟩
 |fn a b=>simp only[V.cells,Option.some.injEq]at hl;subst hl;exact⟨.cons (.fn a b) .nil,rfl⟩
 |KM=>simp only[V.cells,Option.some.injEq]at hl;subst hl;exact⟨.cons .KM .nil,rfl⟩
 |iface h=>simp only[V.cells,Option.some.injEq]at hl;subst hl;exact⟨.cons (.iface h) .nil,rfl⟩
def WI.live:WI->Bool
 |.dead=>false
 |_=>true
def WI.own:WI->Bool
 |.cells _ _ ro=>!ro
 |.map _=>true
 |.dead=>false
def Tj(i:YJ)(w:World)(b:Nat):WI->Prop
 |.dead=>True
 |.cells c e ro=>∃(x:NV) (C:Array Value) (fr:Nat×Nat),i b=some x/\x.ro=ro/\w.heap[x.B]?=some (.cells C e fr)/\C.size=x.N/\x.s+c.length<=x.N /\
   (ro=false->fr=(0,0))/\(∀(k:Nat) (v:V),c[k]?=some v->v.Zr=true/\∃u,C[x.s+k]?=some u/\ZK i v u)
 |.map es=>∃(x:NV) (E:Array MapEntry) (B0:Nat),i b=some x/\x.ro=false/\w.heap[x.B]?=some (.map E B0) /\
   ZA i (es.map (·.1)) (E.toList.map (·.key))/\ZA i (es.map (·.2)) (E.toList.map (·.val))
structure Zb(i:YJ)(h:H)(w:World):Prop where
 Y9:∀b x,h.get b=some x->Tj i w b x
 inj:∀b c x y p q,h.get b=some x->h.get c=some y->x.live=true->y.live=true->b≠c->i b=some p->i c=some q->(x.own=true\/y.own=true)->p.B≠q.B
 bound:∀b x,i b=some x->x.B<w.heap.size
def H.has(h:H)(b:Nat):Prop:=∃x,h.get b=some x/\x.live=true
def H.Mv(h:H)(b:Nat):Prop:=∃x,h.get b=some x/\x.own=true
structure Fr(i:YJ)(h:H)(w:World)(i':YJ)(h':H)(w':World):Prop where
 n:h.n<=h'.n
 size:w.heap.size<=w'.heap.size
 keep:∀B,B<w.heap.size->(∀b x,h.Mv b->i b=some x->x.B≠B)->w'.heap[B]?=w.heap[B]?
 own:∀b x,h'.Mv b->i' b=some x->x.B<w.heap.size->∃c y,h.Mv c/\i c=some y/\y.B=x.B
 live:∀b x,h'.has b->i' b=some x->x.B<w.heap.size->∃c y,h.has c/\i c=some y/\y.B=x.B
 NU:∀b,(b<h.n\/h'.n<=b)->i' b=i b
 os:w'.os=w.os/\w'.tape=w.tape
 out:w'.output=w.output
def YJ.clear(i:YJ)(a b:Nat):Prop:=∀c,a<=c->c<b->i c=none
variable{j:YJ}{a b:Nat}
theorem YJ.zg(hc:i.clear a b)(hd:∀c,(c<a\/b<=c)->j c=i c):i.le j:=by
 intro c x h;by_cases h1:c<a
 .rw[hd c (.inl h1)];exact h
 .by_cases h2:b<=c
  .rw[hd c (.inr h2)];exact h
  .rw[hc c (by omega) (by omega)]at h;cases h
variable{i':YJ}{h h':H}{w w':World}
theorem Fr.le(f:Fr i h w i' h' w')(hc:i.clear h.n h'.n):i.le i':=YJ.zg hc f.NU
theorem Fr.refl(i:YJ)(h:H)(w:World):Fr i h w i h w where
 n:=Nat.le_refl _
 size:=Nat.le_refl _
 keep:=λ_ _ _=>rfl
 own:=λb x hb hx _=>⟨b,x,hb,hx,rfl⟩
 live:=λb x hb hx _=>⟨b,x,hb,hx,rfl⟩
 NU:=λ_ _=>rfl
 os:=⟨rfl,rfl⟩
 out:=rfl
theorem Fr.trans{k:YJ}{h1 h2 h3:H}{w1 w2 w3:World}(a:Fr i h1 w1 j h2 w2)(b:Fr j h2 w2 k h3 w3):Fr i h1 w1 k h3 w3 where
 n:=Nat.le_trans a.n b.n
 size:=Nat.le_trans a.size b.size
 keep:=λB hB MW=>by
  rw[b.keep B (Nat.lt_of_lt_of_le hB a.size) ?_,a.keep B hB MW];intro c x hc hx hH;obtain⟨c',y,SV,hy,e⟩:=a.own c x hc hx (by omega);exact MW c' y SV hy (e.trans hH)
 own:=λc x hc hx hl=>by
  obtain⟨d,y,hd,hy,e⟩:=b.own c x hc hx (Nat.lt_of_lt_of_le hl a.size);obtain⟨d',y',PU,BZ,e'⟩:=a.own d y hd hy (by omega);exact⟨d',y',PU,BZ,e'.trans e⟩
 live:=λc x hc hx hl=>by
  obtain⟨d,y,hd,hy,e⟩:=b.live c x hc hx (Nat.lt_of_lt_of_le hl a.size);obtain⟨d',y',PU,BZ,e'⟩:=a.live d y hd hy (by omega);exact⟨d',y',PU,BZ,e'.trans e⟩
 NU:=λc hc=>by
  rw[b.NU c (by have:=a.n;omega),a.NU c (by have:=b.n;omega)]
 os:=⟨b.os.1.trans a.os.1,b.os.2.trans a.os.2⟩
 out:=b.out.trans a.out
theorem YJ.OJ{c:Nat}(h:i.clear a c)(ze:b<=c):i.clear a b:=λd h1 h2=>h d h1 (by omega)
theorem Fr.clear(f:Fr i h w i' h' w'){m:Nat}(hc:i.clear h.n m):i'.clear h'.n m:=by
 intro c h1 h2;rw[f.NU c (.inr h1)];exact hc c (Nat.le_trans f.n h1) h2
def Q8(i:YJ)(s:Nat->V)(tmps:Array Value):Prop:=∀t,ZK i (s t) (tmps.getD t undef)
variable{s:Nat->V}
theorem Q8.mono(Ud:i.le j){tmps:Array Value}(h:Q8 i s tmps):Q8 j s tmps:=λt=>(h t).mono Ud
theorem Q8.put{a:Act}(h:Q8 i s a.tmps){d:Option Nat}(hv:ZK i v u)(hd:∀t,d=some t->t<a.tmps.size):
  Q8 i (WW s d v) (a.put d u).tmps:=by
 cases d with
 |none=>exact h
 |some d =>
  intro t;simp only[WW,Act.put];by_cases e:t=d
  .subst e
   have:=hd t rfl;simp[Array.getD,this];exact hv
  .simp only[e,if_false]
   have:=h t;by_cases hs:t<a.tmps.size
   .simp[Array.getD,hs,Ne.symm e]at this ⊢;simpa [hs,Ne.symm e]using this
   .simpa [Array.getD,hs]using this
end Go.Zf
