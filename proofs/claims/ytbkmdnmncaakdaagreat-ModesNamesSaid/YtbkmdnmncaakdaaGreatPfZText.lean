import Derived.Test.YtbkmdnmncaakdaaGreatPfZLim
set_option linter.unusedVariables false
set_option linter.unusedSimpArgs false
namespace Go.Zf
def ld(h:H):V->Option V
 |.ptr b o=>h.Zp b o
 |_=>none
def XM(n:Nat)(h:H):V->Option V
 |.ptr b o=>(h.Ze b o n).bind λl=>some (.agg l)
 |_=>none
def fa(off:Nat):V->Option V
 |.ptr b o=>some (.ptr b (o+off))
 |_=>none
def fd1(off:Nat):V->Option V
 |.agg cs=>cs[off]?
 |_=>none
def fdn(off n:Nat):V->Option V
 |.agg cs=>if off+n<=cs.length then some (.agg ((cs.drop off).take n))else none
 |_=>none
def PY(s:Nat)(x i:V):Option V :=
 match x,i with
 |.sl b o len _,.int _ n=>if 0<=n/\n<len then some (.ptr b (o+n.toNat*s))else none
 |_,_=>none
def Xb(len s:Nat)(x i:V):Option V :=
 match x,i with
 |.ptr b o,.int _ n=>if 0<=n/\n<len then some (.ptr b (o+n.toNat*s))else none
 |_,_=>none
def kq(len s:Nat)(x i:V):Option V :=
 match x,i with
 |.agg cs,.int _ n=>if 0<=n/\n<len then cs[n.toNat*s]? else none
 |_,_=>none
def y9(len s:Nat)(x i:V):Option V :=
 match x,i with
 |.agg cs,.int _ n=>if 0<=n/\n<len then (if n.toNat*s+s<=cs.length then some (.agg ((cs.drop (n.toNat*s)).take s))else none)else none
 |_,_=>none
def iV(x i:V):Option V :=
 match x,i with
 |.str s,.int _ n=>if 0<=n then (s[n.toNat]?).bind λc=>some (.int .u8 c.toNat)else none
 |_,_=>none
def slA(n size:Nat)(x:V)(lo hi mx:Option V):Option V :=
 match x with
 |.ptr b o =>
  (XK (some n) (Up n) mx).bind λm =>
  (XK (if mx.isSome then none else some n) (Up m) hi).bind λu =>
  (XK (some 0) (Up u) lo).bind λl =>
  some (.sl b (if m=l then o else o+l*size) (u-l) (.ex (m-l)))
 |_=>none
def Ce(size:Nat)(x:V)(lo hi mx:Option V):Option V :=
 match x with
 |.ZO =>
  (XK (some 0) (Up 0) mx).bind λm =>
  (XK (if mx.isSome then none else some 0) (Up m) hi).bind λu =>
  (XK (some 0) (Up u) lo).bind λ_=>some .ZO
 |.sl b o len (.ex cap) =>
  (XK (some cap) (Up cap) mx).bind λm =>
  (XK (if mx.isSome then none else some len) (Up m) hi).bind λu =>
  (XK (some 0) (Up u) lo).bind λl =>
  some (.sl b (if m=l then o else o+l*size) (u-l) (.ex (m-l)))
 |.sl b o len (.op z)=>if size≠z then none else
  match mx with
  |some v=>(Up len v).bind λm =>
   (XK none (Up m) hi).bind λu =>
   (XK (some 0) (Up u) lo).bind λl =>
   some (.sl b (if m=l then o else o+l*size) (u-l) (.ex (m-l)))
  |none =>
   (XK (some len) (Up len) hi).bind λu =>
   (XK (some 0) (Up u) lo).bind λl =>
   some (.sl b (o+l*size) (u-l) (.op z))
 |_=>none
def Kc:V->Option V
 |.ZO=>some (.int .i64 0)
 |.sl _ _ n _=>some (.int .i64 n)
 |_=>none
def pk(c a b:V):Option V :=
 match c with
 |.bool x=>some (if x then a else b)
 |_=>none
def cv(k:IntKind):V->Option V
 |.int _ n=>some (.int k (k.wrap n))
 |_=>none
def bl(z:List V)(parts:List (Option (Nat×Nat)×V)):Option V:=(YD z parts).bind λl=>some (.agg l)
def nw(h:H)(e:Nat)(z:List V):Option (V×H):=some (.ptr h.n 0,h.new (.cells z e false))
def bx(h:H)(e:Nat)(x:V):Option (V×H):=(x.cells).bind λl=>some (.ptr h.n 0,h.new (.cells l e false))
def bs(h:H)(e len:Nat)(z:List V)(parts:List (Option (Nat×Nat)×V)):Option (V×H) :=
 (YD z parts).bind λl=>some (.sl h.n 0 len (.ex len),h.new (.cells l e false))
def ms(h:H)(e bytes:Nat)(z:List V)(len cap:V):Option (V×H) :=
 match len,cap with
 |.int _ n,.int _ c=>if 0<=n/\n<=c/\(bytes:Int)*c<=140737488355328/\c<9223372036854775808/\true=true then
   some (.sl h.n 0 n.toNat (.ex c.toNat),h.new (.cells (Vu c.toNat z) e false))else none
 |_,_=>none
def ti(K:Zs)(f:V)(args:List V)(h:H):Option (Rv×H) :=
 match f with
 |.fn (.func g) first captured=>K g (first++(args++captured)) h
 |_=>none
def bc(keep ds:List Nat)(e:E)(x:Option (Rv×H))(k:V->H->Out):Out:=bk x (λv h=>some ⟨.pn v,Uc keep ds e,h⟩) k
def bn(x:Option (Rv×H))(k:V->H->Out):Out:=bk x (λ_ _=>none) k
@[simp] def E.st(x:E)(i:Nat)(v:V):E:=⟨x.l.set i v,x.lt,x.lv⟩
end Go.Zf
