import Derived.Test.YtbkmdnmncaakdaaGreatPfZFast
set_option linter.unusedVariables false
set_option linter.unusedSimpArgs false
namespace Go.Zf
@[simp] theorem wY{α β:Type}(v:α)(k:α->Option β):bd (some v) k=k v:=id rfl
@[simp] theorem cD{α β:Type}(k:α->Option β):bd none k=none:=id rfl
@[simp] theorem cC{β:Type}(v:V)(h:H)(k:V->H->Option β):bf (some (v,h)) k=k v h:=id rfl
@[simp] theorem kqy{β:Type}(v:V)(h:H)(pn k:V->H->Option β):bk (some (.ret v,h)) pn k=k v h:=id rfl
@[simp] theorem kqx{β:Type}(v:V)(h:H)(pn k:V->H->Option β):bk (some (.MZ v,h)) pn k=pn v h:=id rfl
@[simp] theorem kqw(keep ds:List Nat)(e:E)(v:V)(h:H)(k:V->H->Out):bc keep ds e (some (.ret v,h)) k=k v h:=id rfl
@[simp] theorem kqv(v:V)(h:H)(k:V->H->Out):bn (some (.ret v,h)) k=k v h:=id rfl
@[simp] theorem GV(e:E)(h:H)(k:E->H->Out):sq (some ⟨.nm,e,h⟩) k=k e h:=id rfl
@[simp] theorem cy(e:E)(h:H)(k:E->H->Out):sq (some ⟨.rt,e,h⟩) k=some ⟨.rt,e,h⟩:=id rfl
@[simp] theorem xqV(n:Nat)(e:E)(h:H)(k:E->H->Out):sq (some ⟨.ex n,e,h⟩) k=some ⟨.ex n,e,h⟩:=id rfl
@[simp] theorem Bqp(b:Bool)(x y:Out):br (.bool b) x y=if b then x else y:=by cases b<;>rfl
@[simp] theorem kqu(n:Nat)(e:E)(h:H):Y9 n (some ⟨.nm,e,h⟩)=some ⟨.nm,e,h⟩:=id rfl
@[simp] theorem kqt(n:Nat)(e:E)(h:H):Y9 n (some ⟨.rt,e,h⟩)=some ⟨.rt,e,h⟩:=id rfl
@[simp] theorem kqs(n m:Nat)(e:E)(h:H):Y9 n (some ⟨.ex m,e,h⟩)=if m=n then some ⟨.nm,e,h⟩else some ⟨.ex m,e,h⟩:=id rfl
@[simp] theorem E_s(keep l:List _)(lt:Nat)(lv:V)(t:Nat):E.s keep ⟨l,lt,lv⟩ t=if t=lt then lv else zZ keep l t:=rfl
@[simp] theorem wX(k:Nat)(ks:List Nat)(v:V)(vs:List V)(t:Nat):zZ (k::ks) (v::vs) t=if t=k then v else zZ ks vs t:=rfl
@[simp] theorem kqr(P:Program)(keep:List Nat)(rs:List ResultVar)(e:E)(h:H):fin P keep rs (some ⟨.nm,e,h⟩)=bd (SQ P (e.s keep) h rs) λvs=>some (.ret (Ib vs),h):=id rfl
@[simp] theorem kqq(P:Program)(keep:List Nat)(rs:List ResultVar)(e:E)(h:H):fin P keep rs (some ⟨.rt,e,h⟩)=bd (SQ P (e.s keep) h rs) λvs=>some (.ret (Ib vs),h):=id rfl
@[simp] theorem jK(P:Program)(s:Nat->V)(h:H):SQ P s h []=some []:=rfl
@[simp] theorem jJ(P:Program)(s:Nat->V)(h:H)(t:Nat)(rs:List ResultVar):SQ P s h (.tmp t::rs)=bd (SQ P s h rs) λvs=>some (s t::vs):=rfl
@[simp] theorem ct(v:V):Ib [v]=v:=rfl
@[simp] theorem cq:Ib []=.Zt []:=rfl
@[simp] theorem jI(a b:V)(l:List V):Ib (a::b::l)=.Zt (a::b::l):=rfl
theorem cn{x y:Out}{k:E->H->Out}(h:x=y):sq x k=sq y k:=by rw[h]
theorem cg{α β:Type}{x y:Option α}{k:α->Option β}(h:x=y):bd x k=bd y k:=by rw[h]
theorem bZ{β:Type}{x y:Option (V×H)}{k:V->H->Option β}(h:x=y):bf x k=bf y k:=by rw[h]
variable{y:Option (Rv×H)}
theorem bY{β:Type}{x:Option (Rv×H)}{pn k:V->H->Option β}(h:x=y):bk x pn k=bk y pn k:=by rw[h]
variable{k:V->H->Out}
theorem bX{keep ds:List Nat}{e e':E}{x:Option (Rv×H)}(he:e=e')(h:x=y):bc keep ds e x k=bc keep ds e' y k:=by rw[h,he]
theorem bW{x:Option (Rv×H)}(h:x=y):bn x k=bn y k:=by rw[h]
theorem bV{x y:V}{a b:Out}(h:x=y):br x a b=br y a b:=by rw[h]
attribute [congr] cn cg bZ bY bX bW bV
section ops
variable(kd:Nat)(k l:IntKind)(a b:Int)
@[simp] theorem bU:ZQ kd .add (.int k a) (.int k b)=some (.int k (k.wrap (a+b))):=by simp[ZQ,Sd]
@[simp] theorem bS:ZQ kd .sub (.int k a) (.int k b)=some (.int k (k.wrap (a-b))):=by simp[ZQ,Sd]
@[simp] theorem bQ:ZQ kd .mul (.int k a) (.int k b)=some (.int k (k.wrap (a*b))):=by simp[ZQ,Sd]
@[simp] theorem bP:ZQ kd .quo (.int k a) (.int k b)=if b=0 then none else some (.int k (k.wrap (a.tdiv b))):=by simp[ZQ,Sd]
@[simp] theorem bN:ZQ kd .rem (.int k a) (.int k b)=if b=0 then none else some (.int k (a.tmod b)):=by simp[ZQ,Sd]
@[simp] theorem bM:ZQ kd .eql (.int k a) (.int k b)=some (.bool (decide (a=b))):=by simp[ZQ,Sd,Gm];rfl
@[simp] theorem bL:ZQ kd .neq (.int k a) (.int k b)=some (.bool (!decide (a=b))):=by simp[ZQ,Sd,Gm];rfl
@[simp] theorem bK:ZQ kd .lss (.int k a) (.int k b)=some (.bool (decide (a<b))):=by simp[ZQ,Sd,Gm]
@[simp] theorem bJ:ZQ kd .leq (.int k a) (.int k b)=some (.bool (decide (a<=b))):=by simp[ZQ,Sd,Gm]
@[simp] theorem bI:ZQ kd .gtr (.int k a) (.int k b)=some (.bool (decide (b<a))):=by simp[ZQ,Sd,Gm]
@[simp] theorem bH:ZQ kd .geq (.int k a) (.int k b)=some (.bool (decide (b<=a))):=by simp[ZQ,Sd,Gm]
@[simp] theorem TD:ZQ kd .shl (.int k a) (.int l b)=if b<0 then none else some (.int k (k.wrap (a*2^(min b.toNat k.bits)))):=by simp[ZQ,bG]
@[simp] theorem XZ:ZQ kd .shr (.int k a) (.int l b)=if b<0 then none else some (.int k (a.fdiv (2^(min b.toNat k.bits)))):=by simp[ZQ,bG]
@[simp] theorem WC:ZQ kd .and (.int k a) (.int k b)=some (.int k (k.wrap (BitVec.ofInt k.bits a &&& BitVec.ofInt k.bits b).toNat)):=by simp[ZQ,Sd,LD]
@[simp] theorem S4:ZQ kd .or (.int k a) (.int k b)=some (.int k (k.wrap (BitVec.ofInt k.bits a ||| BitVec.ofInt k.bits b).toNat)):=by simp[ZQ,Sd,LD]
@[simp] theorem bF:ZQ kd .xor (.int k a) (.int k b)=some (.int k (k.wrap (BitVec.ofInt k.bits a ^^^ BitVec.ofInt k.bits b).toNat)):=by simp[ZQ,Sd,LD]
end ops
@[simp] theorem lX(b o:Nat):ZQ 2 .eql (.ptr b o) .Zh=some (.bool false):=rfl
@[simp] theorem lW(b o:Nat):ZQ 2 .neq (.ptr b o) .Zh=some (.bool true):=rfl
@[simp] theorem pJ:ZQ 2 .eql .Zh .Zh=some (.bool true):=rfl
@[simp] theorem pI:ZQ 2 .neq .Zh .Zh=some (.bool false):=rfl
@[simp] theorem jH(b o n:Nat)(c:J5):ZQ 3 .eql (.sl b o n c) .ZO=some (.bool false):=rfl
@[simp] theorem jG(b o n:Nat)(c:J5):ZQ 3 .neq (.sl b o n c) .ZO=some (.bool true):=rfl
@[simp] theorem pH:ZQ 3 .eql .ZO .ZO=some (.bool true):=rfl
@[simp] theorem pG:ZQ 3 .neq .ZO .ZO=some (.bool false):=rfl
@[simp] theorem Bqo(a b:Bool):ZQ 1 .eql (.bool a) (.bool b)=some (.bool (a==b)):=rfl
@[simp] theorem Bqn(a b:Bool):ZQ 1 .neq (.bool a) (.bool b)=some (.bool (!(a==b))):=rfl
@[simp] theorem kqp(b:Bool):UZ .not (.bool b)=some (.bool !b):=rfl
@[simp] theorem kqo(k:IntKind)(n:Int):UZ .neg (.int k n)=some (.int k (k.wrap (0-n))):=rfl
@[simp] theorem l5(k l:IntKind)(n:Int):cv k (.int l n)=some (.int k (k.wrap n)):=rfl
@[simp] theorem sr(c:Bool)(a b:V):pk (.bool c) a b=some (if c then a else b):=rfl
@[simp] theorem bE(b o:Nat):XC (.ptr b o)=some (.ptr b o):=rfl
@[simp] theorem kqn(f b o:Nat):fa f (.ptr b o)=some (.ptr b (o+f)):=rfl
@[simp] theorem kqm(h:H)(b o:Nat):ld h (.ptr b o)=h.Zp b o:=rfl
@[simp] theorem Bqm(n:Nat)(h:H)(b o:Nat):XM n h (.ptr b o)=(h.Ze b o n).bind λl=>some (.agg l):=rfl
@[simp] theorem Bql(off:Nat)(cs:List V):fd1 off (.agg cs)=cs[off]?:=rfl
@[simp] theorem Bqk(l:List V)(i:Nat):jF (.Zt l) i=l[i]?:=rfl
@[simp] theorem kql(b o n:Nat)(c:J5):Kc (.sl b o n c)=some (.int .i64 n):=rfl
@[simp] theorem Bqj:Kc .ZO=some (.int .i64 0):=rfl
@[simp] theorem kqk(s b o len:Nat)(c:J5)(k:IntKind)(n:Int):PY s (.sl b o len c) (.int k n)=if 0<=n/\n<len then some (.ptr b (o+n.toNat*s))else none:=rfl
theorem Io(h:H)(b o:Nat)(v:V)(hv:v.Zr=true):Zx 1 h (.ptr b o) v=(h.WO b o v).bind λh'=>some (.Wz,h'):=by
 cases v<;>first|rfl|(simp[V.Zr]at hv)
@[simp] theorem Bqi(h:H)(b o:Nat)(k:IntKind)(n:Int):Zx 1 h (.ptr b o) (.int k n)=(h.WO b o (.int k n)).bind λh'=>some (.Wz,h'):=rfl
@[simp] theorem bD(h:H)(b o:Nat)(x:Bool):Zx 1 h (.ptr b o) (.bool x)=(h.WO b o (.bool x)).bind λh'=>some (.Wz,h'):=rfl
@[simp] theorem Bqh(h:H)(b o c d:Nat):Zx 1 h (.ptr b o) (.ptr c d)=(h.WO b o (.ptr c d)).bind λh'=>some (.Wz,h'):=rfl
@[simp] theorem kqj(h:H)(b o c d n:Nat)(x:J5):Zx 1 h (.ptr b o) (.sl c d n x)=(h.WO b o (.sl c d n x)).bind λh'=>some (.Wz,h'):=rfl
@[simp] theorem bC(h:H)(b o:Nat):Zx 1 h (.ptr b o) .ZO=(h.WO b o .ZO).bind λh'=>some (.Wz,h'):=rfl
@[simp] theorem Qj(b want:Bool):WK (.bool b) want=some (b==want):=rfl
@[simp] theorem jE(want:Bool):WK .Wz want=some false:=rfl
@[simp] theorem Bqg(c:V)(want:Bool)(x:Option V)(h:WK c want=some true):gl c want x=x:=by simp[gl,h]
@[simp] theorem Bqf(b want:Bool)(x:Option V):gl (.bool b) want x=if b==want then x else some .Wz:=by unfold gl;simp only[Qj];cases b==want<;>rfl
@[simp] theorem kqi(want:Bool)(x:Option V):gl .Wz want x=some .Wz:=rfl
@[simp] theorem Bqe(b want:Bool)(h:H)(x:Option (Rv×H)):gk (.bool b) want h x=if b==want then x else some (.ret .Wz,h):=by unfold gk;simp only[Qj];cases b==want<;>rfl
@[simp] theorem kqh(want:Bool)(h:H)(x:Option (Rv×H)):gk .Wz want h x=some (.ret .Wz,h):=rfl
@[simp] theorem Bqd(b want:Bool)(h:H)(x:Option (V×H)):gf (.bool b) want h x=if b==want then x else some (.Wz,h):=by unfold gf;simp only[Qj];cases b==want<;>rfl
@[simp] theorem kqg(want:Bool)(h:H)(x:Option (V×H)):gf .Wz want h x=some (.Wz,h):=rfl
@[simp] theorem kqf{β:Type}(k:IntKind)(n:Int)(x:Option β):ck (some (.int k n)) (.int k n) x=x:=by simp[ck,V.same]
@[simp] theorem Bqc{β:Type}(b:Bool)(x:Option β):ck (some (.bool b)) (.bool b) x=x:=by simp[ck,V.same]
@[simp] theorem kqe{β:Type}(b o:Nat)(x:Option β):ck (some (.ptr b o)) (.ptr b o) x=x:=by simp[ck,V.same]
@[simp] theorem xqU{β:Type}(b o n:Nat)(c:J5)(x:Option β):ck (some (.sl b o n c)) (.sl b o n c) x=x:=by simp[ck,V.same]
@[simp] theorem Bqb{β:Type}(x:Option β):ck (some .ZO) .ZO x=x:=rfl
@[simp] theorem Bqa{β:Type}(x:Option β):ck (some .Zh) .Zh x=x:=rfl
@[simp] theorem Ba:V.Wz=.Zt []:=rfl
variable{h:H}{b o e:Nat}{c:List V}{ro:Bool}
theorem ZZ(hb:h.get b=some (.cells c e ro)):h.Zp b o=c[o]?:=by simp[H.Zp,hb]
theorem ZU{n:Nat}(hb:h.get b=some (.cells c e ro))(hl:o+n<=c.length):h.Ze b o n=some ((c.drop o).take n):=by simp[H.Ze,hb,hl]
theorem Zw(hb:h.get b=some (.cells c e false))(hl:o<c.length)(v:V):h.WO b o v=some (h.put b (.cells (c.set o v) e false)):=by simp[H.WO,hb,hl]
theorem ZF(hb:h.get b=some (.cells c e false)){vs:List V}(hl:o+vs.length<=c.length):h.X4 b o vs=some (h.put b (.cells (splice c o vs) e false)):=by simp[H.X4,hb,hl]
variable{x:WI}
theorem ZV(hb:b<h.n):(h.put b x).get b=some x:=by simp[H.WN,hb]
theorem ZX{c:Nat}(hc:c≠b):(h.put b x).get c=h.get c:=by simp[H.WN,hc]
theorem ZY:(h.new x).get h.n=some x:=by simp[H.Xo]
theorem ZR{c:Nat}(hc:c<h.n):(h.new x).get c=h.get c:=by simp[H.Xo];intro e;omega
end Go.Zf
