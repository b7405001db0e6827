import Derived.Test.YtbkmdnmncaakdaaGreatPbZLim
set_option linter.unusedVariables false
set_option linter.unusedSimpArgs false
namespace Go.Zf
def ld (h:H):V→Option V
 | .ptr b o=>h.rd1 b o
 | _=>none
def ldn (n:Nat) (h:H):V→Option V
 | .ptr b o=>(h.rdN b o n).bind fun l=>some (.agg l)
 | _=>none
def fa (off:Nat):V→Option V
 | .ptr b o=>some (.ptr b (o+off))
 | _=>none
def fd1 (off:Nat):V→Option V
 | .agg cs=>cs[off]?
 | _=>none
def fdn (off n:Nat):V→Option V
 | .agg cs=>if off+n≤cs.length then some (.agg ((cs.drop off).take n)) else none
 | _=>none
def iaS (s:Nat) (x i:V):Option V :=
 match x,i with
 | .sl b o len _,.int _ n=>if 0≤n∧n < len then some (.ptr b (o+n.toNat*s)) else none
 | _,_=>none
def iaA (len s:Nat) (x i:V):Option V :=
 match x,i with
 | .ptr b o,.int _ n=>if 0≤n∧n < len then some (.ptr b (o+n.toNat*s)) else none
 | _,_=>none
def ixA (len s:Nat) (x i:V):Option V :=
 match x,i with
 | .agg cs,.int _ n=>if 0≤n∧n < len then cs[n.toNat*s]? else none
 | _,_=>none
def ixN (len s:Nat) (x i:V):Option V :=
 match x,i with
 | .agg cs,.int _ n=>if 0≤n∧n < len then (if n.toNat*s+s≤cs.length then some (.agg ((cs.drop (n.toNat*s)).take s)) else none) else none
 | _,_=>none
def ixS (x i:V):Option V :=
 match x,i with
 | .str s,.int _ n=>if 0≤n then (s[n.toNat]?).bind fun c=>some (.int .u8 c.toNat) else none
 | _,_=>none
def slA (n size:Nat) (x:V) (lo hi mx:Option V):Option V :=
 match x with
 | .ptr b o =>
  (optB (some n) (sbV n) mx).bind fun m =>
  (optB (if mx.isSome then none else some n) (sbV m) hi).bind fun u =>
  (optB (some 0) (sbV u) lo).bind fun l =>
  some (.sl b (if m=l then o else o+l*size) (u - l) (.ex (m - l)))
 | _=>none
def slS (size:Nat) (x:V) (lo hi mx:Option V):Option V :=
 match x with
 | .nils =>
  (optB (some 0) (sbV 0) mx).bind fun m =>
  (optB (if mx.isSome then none else some 0) (sbV m) hi).bind fun u =>
  (optB (some 0) (sbV u) lo).bind fun _=>some .nils
 | .sl b o len (.ex cap) =>
  (optB (some cap) (sbV cap) mx).bind fun m =>
  (optB (if mx.isSome then none else some len) (sbV m) hi).bind fun u =>
  (optB (some 0) (sbV u) lo).bind fun l =>
  some (.sl b (if m=l then o else o+l*size) (u - l) (.ex (m - l)))
 | .sl b o len (.op z)=>if size ≠ z then none else
  match mx with
  | some v=>(sbV len v).bind fun m =>
   (optB none (sbV m) hi).bind fun u =>
   (optB (some 0) (sbV u) lo).bind fun l =>
   some (.sl b (if m=l then o else o+l*size) (u - l) (.ex (m - l)))
  | none =>
   (optB (some len) (sbV len) hi).bind fun u =>
   (optB (some 0) (sbV u) lo).bind fun l =>
   some (.sl b (o+l*size) (u - l) (.op z))
 | _=>none
def lnS:V→Option V
 | .nils=>some (.int .i64 0)
 | .sl _ _ n _=>some (.int .i64 n)
 | _=>none
def pk (c a b:V):Option V :=
 match c with
 | .bool x=>some (if x then a else b)
 | _=>none
def cv (k:IntKind):V→Option V
 | .int _ n=>some (.int k (k.wrap n))
 | _=>none
def bl (z:List V) (parts:List (Option (Nat × Nat) × V)):Option V:=(fillW z parts).bind fun l=>some (.agg l)
def nw (h:H) (e:Nat) (z:List V):Option (V × H):=some (.ptr h.n 0,h.new (.cells z e false))
def bx (h:H) (e:Nat) (x:V):Option (V × H):=(x.cells).bind fun l=>some (.ptr h.n 0,h.new (.cells l e false))
def bs (h:H) (e len:Nat) (z:List V) (parts:List (Option (Nat × Nat) × V)):Option (V × H) :=
 (fillW z parts).bind fun l=>some (.sl h.n 0 len (.ex len),h.new (.cells l e false))
def ms (h:H) (e bytes:Nat) (z:List V) (len cap:V):Option (V × H) :=
 match len,cap with
 | .int _ n,.int _ c=>if 0≤n∧n≤c∧(bytes:Int)*c≤140737488355328∧c < 9223372036854775808∧true=true then
   some (.sl h.n 0 n.toNat (.ex c.toNat),h.new (.cells (reps c.toNat z) e false)) else none
 | _,_=>none
def cdy (K:Oracle) (f:V) (args:List V) (h:H):Option (Rv × H) :=
 match f with
 | .fn (.func g) first captured=>K g (first ++ (args ++ captured)) h
 | _=>none
def bc (keep ds:List Nat) (e:E) (x:Option (Rv × H)) (k:V→H→Out):Out:=bk x (fun v h=>some ⟨.pn v,fgE keep ds e,h⟩) k
def bn (x:Option (Rv × H)) (k:V→H→Out):Out:=bk x (fun _ _=>none) k
@[simp] def E.st (x:E) (i:Nat) (v:V):E:=⟨x.l.set i v,x.lt,x.lv⟩
end Go.Zf
