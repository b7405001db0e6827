import GoSem.Core.Program
import GoSem.Core.Region
import GoSem.Core.Sem
import GoSem.Op.Unary
import GoSem.Core.Layout
import GoSem.Op.Equal
set_option linter.unusedVariables false
set_option linter.unusedSimpArgs false
namespace Go.Zf
inductive J5 where
 |ex (c:Nat)
 |op (z:Nat)
 deriving DecidableEq
inductive V where
 |bool (b:Bool)
 |int (k:IntKind) (n:Int)
 |float (k:FloatKind) (bits:Nat)
 |str (s:List UInt8)
 |Zh
 |ptr (b o:Nat)
 |ZO
 |sl (b o len:Nat) (cap:J5)
 |Sz
 |map (b:Nat)
 |Tk
 |fn (f:Fn) (first captured:List V)
 |KM
 |iface (t:TypeId) (v:V)
 |agg (l:List V)
 |Zt (l:List V)
 |any
def V.Zr:V->Bool
 |.any|.agg _|.Zt _=>false
 |_=>true
def V.Wz:V:=.Zt []
def XE:Value->V
 |.bool b=>.bool b
 |.int k n=>.int k n
 |.float k b=>.float k b
 |.string s=>.str s.data.toList
 |.pointer none=>.Zh
 |.slice none 0 0=>.ZO
 |.map none=>.Sz
 |.nilFunc=>.Tk
 |.nilIface=>.KM
 |_=>.any
def Hl:Value->V
 |.agg cs=>if (cs.toList.map XE).all V.Zr then .agg (cs.toList.map XE)else .any
 |.tuple cs=>.Zt (cs.toList.map XE)
 |.iface t v=>.iface t (XE v)
 |v=>XE v
inductive WI where
 |cells (c:List V) (e:TypeId) (ro:Bool)
 |map (es:List (V×V))
 |dead
inductive T where
 |lf
 |nd (l:T) (v:Option WI) (r:T)
def T.get:T->Nat->Option WI
 |.lf,_=>none
 |.nd l v r,k=>if k=0 then v else if k%2=1 then l.get (k/2)else r.get (k/2-1)
def T.put:Nat->T->Nat->WI->T
 |0,t,_,_=>t
 |n+1,.lf,k,x=>if k=0 then .nd .lf (some x) .lf else if k%2=1 then .nd (T.put n .lf (k/2) x) none .lf else .nd .lf none (T.put n .lf (k/2-1) x)
 |n+1,.nd l v r,k,x=>if k=0 then .nd l (some x) r else if k%2=1 then .nd (T.put n l (k/2) x) v r else .nd l v (T.put n r (k/2-1) x)
theorem T.WN(n:Nat):∀(t:T) (k c:Nat) (x:WI),k<n->(T.put n t k x).get c=if c=k then some x else t.get c:=by
 induction n with
 |zero=>intro t k c x h;omega
 |succ n ih =>
   intro t k c x h;cases t with
   |lf =>
    simp only[T.put];by_cases k0:k=0
    . subst k0
      simp only[if_true,T.get];by_cases c0:c=0<;>simp[c0,T.get]
    . rw[if_neg k0]
      by_cases k1:k%2=1
      .rw[if_pos k1]
       simp only[T.get];by_cases c0:c=0
       .simp[c0];omega
       .rw[if_neg c0]
        by_cases c1:c%2=1
        .rw[if_pos c1,ih _ _ _ _ (by omega)]
         by_cases e:c/2=k/2
         .rw[if_pos e,if_pos (by omega)]
         .rw[if_neg e,if_neg (by intro h;subst h;exact e rfl)];rfl
        .rw[if_neg c1,if_neg (by intro h;subst h;exact c1 k1)]
      .rw[if_neg k1]
       simp only[T.get];by_cases c0:c=0
       .simp[c0];omega
       .rw[if_neg c0]
        by_cases c1:c%2=1
        .rw[if_pos c1,if_neg (by intro h;subst h;exact k1 c1)]
        .rw[if_neg c1,ih _ _ _ _ (by omega)]
         by_cases e:c/2-1=k/2-1
         .rw[if_pos e,if_pos (by omega)]
         .rw[if_neg e,if_neg (by intro h;subst h;exact e rfl)];rfl
   |nd l v r =>
    simp only[T.put];by_cases k0:k=0
    . subst k0
      simp only[if_true,T.get];by_cases c0:c=0<;>simp[c0]
    . rw[if_neg k0]
      by_cases k1:k%2=1
      .rw[if_pos k1]
       simp only[T.get];by_cases c0:c=0
       .simp[c0];omega
       .rw[if_neg c0,if_neg c0]
        by_cases c1:c%2=1
        .rw[if_pos c1,if_pos c1,ih _ _ _ _ (by omega)]
         by_cases e:c/2=k/2
         .rw[if_pos e,if_pos (by omega)]
         .rw[if_neg e,if_neg (by intro h;subst h;exact e rfl)]
        .rw[if_neg c1,if_neg c1,if_neg (by intro h;subst h;exact c1 k1)]
      .rw[if_neg k1]
       simp only[T.get];by_cases c0:c=0
       .simp[c0];omega
       .rw[if_neg c0,if_neg c0]
        by_cases c1:c%2=1
        .rw[if_pos c1,if_pos c1,if_neg (by intro h;subst h;exact k1 c1)]
        .rw[if_neg c1,if_neg c1,ih _ _ _ _ (by omega)]
         by_cases e:c/2-1=k/2-1
         .rw[if_pos e,if_pos (by omega)]
         .rw[if_neg e,if_neg (by intro h;subst h;exact e rfl)]
structure H where
 n:Nat
 t:T
def H.get(h:H)(b:Nat):Option WI:=if b<h.n then h.t.get b else none
def H.put(h:H)(b:Nat)(x:WI):H:=⟨h.n,T.put (b+1) h.t b x⟩
def H.new(h:H)(x:WI):H:=⟨h.n+1,T.put (h.n+1) h.t h.n x⟩
theorem H.ZW{h:H}{b:Nat}{x:WI}(e:h.get b=some x):b<h.n:=by
 unfold H.get at e;split at e<;>simp_all
theorem H.ZJ(h:H)(b:Nat)(x:WI):(h.put b x).n=h.n:=rfl
theorem H.ZP(h:H)(x:WI):(h.new x).n=h.n+1:=rfl
theorem H.WN(h:H)(b c:Nat)(x:WI):(h.put b x).get c=if c=b/\b<h.n then some x else h.get c:=by
 simp only[H.get,H.put,T.WN _ _ _ _ _ (Nat.lt_succ_self b)];by_cases e:c=b
 . subst e;by_cases l:c<h.n<;>simp[l]
 . simp[e]
theorem H.Xo(h:H)(c:Nat)(x:WI):(h.new x).get c=if c=h.n then some x else h.get c:=by
 simp only[H.get,H.new,T.WN _ _ _ _ _ (Nat.lt_succ_self h.n)];by_cases e:c=h.n
 . subst e;simp
 . by_cases l:c<h.n
   .simp[e,l,Nat.lt_succ_of_lt l]
   .simp[e,l];omega
def H.Zp(h:H)(b o:Nat):Option V :=
 match h.get b with
 |some (.cells c _ _)=>c[o]?
 |_=>none
def H.Ze(h:H)(b o n:Nat):Option (List V) :=
 match h.get b with
 |some (.cells c _ _)=>if o+n<=c.length then some ((c.drop o).take n)else none
 |_=>none
def H.WO(h:H)(b o:Nat)(v:V):Option H :=
 match h.get b with
 |some (.cells c e false)=>if o<c.length then some (h.put b (.cells (c.set o v) e false))else none
 |_=>none
def splice(c:List V)(o:Nat)(vs:List V):List V:=c.take o++(vs++c.drop (o+vs.length))
def H.X4(h:H)(b o:Nat)(vs:List V):Option H :=
 match h.get b with
 |some (.cells c e false)=>if o+vs.length<=c.length then some (h.put b (.cells (splice c o vs) e false))else none
 |_=>none
def V.cells:V->Option (List V)
 |.agg l=>some l
 |.any|.Zt _=>none
 |v=>some [v]
section types
variable(P:Program)
def Ve(t:TypeId):Option Bool:=match P.underlying t with|some (.struct _)|some (.array _ _)=>some true|some _=>some false|none=>none
def S8(t:TypeId):Option Nat:=(P.info? t).map (·.size)
def oP(t:TypeId):Option Nat:=(P.info? t).map (·.bytes)
def Ns(t:TypeId):Option (List V) :=
 match (P.info? t).bind (·.zero)with
 |some z=>let l:=z.cells.toList.map XE;if l.all V.Zr then some l else none
 |none=>none
def VA(t:TypeId)(size:Nat):Bool:=match (P.info? t).bind (·.zero)with|some z=>z.cells.size==size|none=>false
def qG(t:TypeId):Option TypeId:=match P.underlying t with|some (.slice e)=>some e|_=>none
end types
def KP(P:Program)(t:TypeId)(h:H):V->Option V
 |.ptr b o=>match Ve P t with
   |some true=>(S8 P t).bind λn=>(h.Ze b o n).bind λl=>some (.agg l)
   |some false=>h.Zp b o
   |none=>none
 |_=>none
def XC:V->Option V
 |.ptr b o=>some (.ptr b o)
 |.fn (.func f) x y=>some (.fn (.func f) x y)
 |_=>none
def Gm(op:BinOp)(x y:Int):Option V :=
 match op with
 |.eql=>some (.bool (x==y))
 |.neq=>some (.bool (x != y))
 |.lss=>some (.bool (x<y))
 |.leq=>some (.bool (x<=y))
 |.gtr=>some (.bool (x>y))
 |.geq=>some (.bool (x ≥ y))
 |_=>none
def LD(op:BinOp)(k:IntKind)(x y:Int):Option V :=
 let a:=BitVec.ofInt k.bits x
 let b:=BitVec.ofInt k.bits y
 match op with
 |.and=>some (.int k (k.wrap (a &&& b).toNat))
 |.or=>some (.int k (k.wrap (a ||| b).toNat))
 |.xor=>some (.int k (k.wrap (a ^^^ b).toNat))
 |.andNot=>some (.int k (k.wrap (a &&& ~~~b).toNat))
 |_=>none
def Sd(op:BinOp)(k:IntKind)(x y:Int):Option V :=
 match op with
 |.add=>some (.int k (k.wrap (x+y)))
 |.sub=>some (.int k (k.wrap (x-y)))
 |.mul=>some (.int k (k.wrap (x*y)))
 |.quo=>if y=0 then none else some (.int k (k.wrap (x.tdiv y)))
 |.rem=>if y=0 then none else some (.int k (x.tmod y))
 |.and|.or|.xor|.andNot=>LD op k x y
 |_=>Gm op x y
def bG(op:BinOp)(k:IntKind)(x y:Int):Option V :=
 if y<0 then none else
 match op with
 |.shl=>some (.int k (k.wrap (x*2^(min y.toNat k.bits))))
 |.shr=>some (.int k (x.fdiv (2^(min y.toNat k.bits))))
 |_=>none
def jh:V->V->Option Bool
 |.bool a,.bool b=>some (a==b)
 |.Zh,.Zh=>some true
 |.Zh,.ptr _ _|.ptr _ _,.Zh=>some false
 |.ZO,.ZO=>some true
 |.ZO,.sl _ _ _ _|.sl _ _ _ _,.ZO=>some false
 |.Sz,.Sz=>some true
 |.Sz,.map _|.map _,.Sz=>some false
 |.Tk,.Tk=>some true
 |.Tk,.fn _ _ _|.fn _ _ _,.Tk=>some false
 |_,_=>none
def kdT(P:Program)(t:TypeId):Nat :=
 match P.underlying t with
 |some .bool=>1
 |some (.pointer _)=>2
 |some (.slice _)=>3
 |some (.map _ _)=>4
 |some (.func _ _ _)=>5
 |_=>0
def eqT(k:Nat):V->Bool
 |.bool _=>k==1
 |.Zh|.ptr _ _=>k==2
 |.ZO|.sl _ _ _ _=>k==3
 |.Sz|.map _=>k==4
 |.Tk|.fn _ _ _=>k==5
 |_=>false
def ZQ(kd:Nat)(op:BinOp)(x y:V):Option V :=
 match x,y with
 |.int k a,.int k' b=>match op with
   |.shl|.shr=>bG op k a b
   |_=>if k=k' then Sd op k a b else none
 |_,_=>match op with
   |.eql=>if eqT kd x then (jh x y).bind λb=>some (.bool b)else none
   |.neq=>if eqT kd x then (jh x y).bind λb=>some (.bool (!b))else none
   |_=>none
inductive Lf where
 |b
 |i (k:IntKind)
def TX(P:Program)(f:TypeId->Option (List Lf)):List Field->Nat->Nat->Option (List Lf)
 |[],off,FA=>if off=FA then some []else none
 |x::r,off,FA=>if (x.name=="_"||decide (x.offset≠off))=true then none else (f x.type).bind λl=>(TX P f r (off+P.cellsOf x.type) FA).map (l++·)
def XH(P:Program):Nat->TypeId->Option (List Lf)
 |0,_=>none
 |n+1,t=>match P.underlying t with
   |some .bool=>if P.cellsOf t=1 then some [.b]else none
   |some (.int k)=>if P.cellsOf t=1 then some [.i k]else none
   |some (.struct fs)=>if P.stoodInHeld t=true then none else TX P (XH P n) fs.toList 0 (P.cellsOf t)
   |some (.array m e)=>(XH P n e).bind λl=>if P.cellsOf t=m*P.cellsOf e then some (List.replicate m l).flatten else none
   |_=>none
def Ky:Lf->V->Bool
 |.b,.bool _=>true
 |.i k,.int k' _=>k==k'
 |_,_=>false
def Yr:List Lf->List V->Bool
 |[],[]=>true
 |k::ks,x::xs=>Ky k x&&Yr ks xs
 |_,_=>false
def ui:V->V->Bool
 |.int _ a,.int _ b=>a==b
 |.bool a,.bool b=>a==b
 |_,_=>false
def WX:List V->List V->Bool
 |[],[]=>true
 |x::xs,y::ys=>ui x y&&WX xs ys
 |_,_=>false
def VO(ks:List Lf)(op:BinOp)(x y:V):Option V :=
 match x,y with
 |.agg xs,.agg ys=>if (Yr ks xs&&Yr ks ys)=true then (match op with|.eql=>some (.bool (WX xs ys))|.neq=>some (.bool (!WX xs ys))|_=>none)else none
 |_,_=>none
def FT(P:Program)(t:TypeId):Option (List Lf) :=
 match P.underlying t with
 |some (.struct _)|some (.array _ _)=>if P.eqGuardType P.depth t=true then none else XH P 20 t
 |_=>none
def kJ(P:Program)(op:BinOp)(t:TypeId)(x y:V):Option V :=
 match FT P t with
 |some ks=>VO ks op x y
 |none=>ZQ (kdT P t) op x y
def UZ(op:UnOp):V->Option V
 |.int k n=>match op with
   |.neg=>some (.int k (k.wrap (0-n)))
   |.xor=>LD .xor k (if k.signed then -1 else k.max) n
   |_=>none
 |.bool b=>match op with|.not=>some (.bool !b)|_=>none
 |_=>none
def cvV(P:Program)(src dst:TypeId)(x:V):Option V :=
 match x with
 |.int _ n=>match P.underlying src,P.underlying dst with
   |some (.int _),some (.int k)=>some (.int k (k.wrap n))
   |_,_=>none
 |_=>none
def Up(y:Nat):V->Option Nat
 |.int _ i=>if 0<=i/\i<=y then some i.toNat else none
 |_=>none
def XK(d:Option Nat)(f:V->Option Nat):Option V->Option Nat
 |some v=>f v
 |none=>d
def slV(P:Program)(t:TypeId)(x:V)(lo hi mx:Option V):Option V :=
 match P.underlying t with
 |some (.array n e)=>(S8 P e).bind λsize=>match x with
   |.ptr b o =>
    (XK (some n) (Up n) mx).bind λm =>
    (XK (if mx.isSome then none else some n) (Up m) hi).bind λu =>
    (XK (some 0) (Up u) lo).bind λl =>
    some (.sl b (if m=l then o else o+l*size) (u-l) (.ex (m-l)))
   |_=>none
 |some (.slice e)=>(S8 P e).bind λsize=>match x with
   |.ZO =>
    (XK (some 0) (Up 0) mx).bind λm =>
    (XK (if mx.isSome then none else some 0) (Up m) hi).bind λu =>
    (XK (some 0) (Up u) lo).bind λ_=>some .ZO
   |.sl b o len (.ex cap) =>
    (XK (some cap) (Up cap) mx).bind λm =>
    (XK (if mx.isSome then none else some len) (Up m) hi).bind λu =>
    (XK (some 0) (Up u) lo).bind λl =>
    some (.sl b (if m=l then o else o+l*size) (u-l) (.ex (m-l)))
   |.sl b o len (.op z)=>if size≠z then none else
    match mx with
    |some v=>(Up len v).bind λm =>
      (XK (none) (Up m) hi).bind λu =>
      (XK (some 0) (Up u) lo).bind λl =>
      some (.sl b (if m=l then o else o+l*size) (u-l) (.ex (m-l)))
    |none =>
      (XK (some len) (Up len) hi).bind λu =>
      (XK (some 0) (Up u) lo).bind λl =>
      some (.sl b (o+l*size) (u-l) (.op z))
   |_=>none
 |_=>none
def faV(P:Program)(s:TypeId)(x:V)(f:Nat):Option V :=
 match P.underlying s with
 |some (.struct fs)=>match fs[f]? with
   |some fd=>if S8 P fd.type=some 0\/S8 P fd.type=none then none else match x with
    |.ptr b o=>some (.ptr b (o+fd.offset))
    |_=>none
   |none=>none
 |_=>none
def U7(P:Program)(t:TypeId)(cs:List V)(off:Nat):Option V :=
 match Ve P t with
 |some true=>(S8 P t).bind λn=>if off+n<=cs.length then some (.agg ((cs.drop off).take n))else none
 |some false=>cs[off]?
 |none=>none
def fdV(P:Program)(t:TypeId)(x:V)(f:Nat):Option V :=
 match P.underlying t with
 |some (.struct fs)=>match fs[f]? with
   |some fd=>match x with
    |.agg cs=>U7 P fd.type cs fd.offset
    |_=>none
   |none=>none
 |_=>none
def iaV(P:Program)(t:TypeId)(x i:V):Option V :=
 match P.underlying t with
 |some (.slice e)=>match x,i with
   |.sl b o len _,.int _ n=>if 0<=n/\n<len then (S8 P e).bind λs=>some (.ptr b (o+n.toNat*s))else none
   |_,_=>none
 |some (.array len e)=>match x,i with
   |.ptr b o,.int _ n=>if 0<=n/\n<len then (S8 P e).bind λs=>some (.ptr b (o+n.toNat*s))else none
   |_,_=>none
 |_=>none
def ixV(P:Program)(t:TypeId)(x i:V):Option V :=
 match P.underlying t with
 |some (.array len e)=>match x,i with
   |.agg cs,.int _ n=>if 0<=n/\n<len then (S8 P e).bind λs=>U7 P e cs (n.toNat*s)else none
   |_,_=>none
 |some .string=>match x,i with
   |.str s,.int _ n=>if 0<=n then (s[n.toNat]?).bind λc=>some (.int .u8 c.toNat)else none
   |_,_=>none
 |_=>none
def jF(x:V)(i:Nat):Option V :=
 match x with
 |.Zt l=>l[i]?
 |_=>none
def kI(P:Program)(t:TypeId)(x:V):Option V :=
 match P.underlying t with
 |some .string=>match x with|.str s=>some (.int .i64 s.length)|_=>none
 |some (.array n _)=>some (.int .i64 n)
 |some (.slice _)=>match x with
   |.ZO=>some (.int .i64 0)
   |.sl _ _ n _=>some (.int .i64 n)
   |_=>none
 |_=>none
def kH(P:Program)(t:TypeId)(x:V):Option V :=
 match P.underlying t with
 |some (.array n _)=>some (.int .i64 n)
 |some (.slice _)=>match x with
   |.ZO=>some (.int .i64 0)
   |.sl _ _ _ (.ex n)=>some (.int .i64 n)
   |_=>none
 |_=>none
def NR:V->V->Option V
 |.int k x,.int k' y=>if k=k' then some (.int k (if y<x then y else x))else none
 |_,_=>none
def GS:V->V->Option V
 |.int k x,.int k' y=>if k=k' then some (.int k (if y>x then y else x))else none
 |_,_=>none
def SU(f:V->V->Option V):V->List V->Option V
 |x,[]=>some x
 |x,y::r=>(f x y).bind λv=>SU f v r
def Vx:List V->Option V
 |[]=>none
 |x::r=>SU NR x r
def Rg:List V->Option V
 |[]=>none
 |x::r=>SU GS x r
def YD(cells:List V):List (Option (Nat×Nat)×V)->Option (List V)
 |[]=>some cells
 |(some (off,size),v)::r=>match v.cells with
   |none=>none
   |some vs=>if vs.length=size/\off+size<=cells.length then YD (splice cells off vs) r else none
 |(none,_)::_=>none
def FP(place:Nat->Option (Nat×Nat))(cells:List V)(parts:List (Nat×V)):Option (List V):=YD cells (parts.map λp=>(place p.1,p.2))
def DS(P:Program)(fs:Array Field)(i:Nat):Option (Nat×Nat):=(fs[i]?).bind λf=>(S8 P f.type).bind λn=>some (f.offset,n)
def buV(P:Program)(t:TypeId)(parts:List (Nat×V)):Option V :=
 (Ns P t).bind λz =>
 match P.underlying t with
 |some (.struct fs)=>if fs.toList.all (λf=>(S8 P f.type).isSome)then (FP (DS P fs) z parts).bind λl=>some (.agg l)else none
 |some (.array _ e)=>(S8 P e).bind λsize=>(FP (λi=>some (i*size,size)) z parts).bind λl=>some (.agg l)
 |_=>none
def ev(s:Nat->V):Operand->V
 |.tmp t=>s t
 |.const v=>Hl v
 |.func f=>.fn (.func f) [] []
 |.global _=>.any
def mkI(P:Program)(t:TypeId)(x:V):Option V :=
 match P.underlying t with
 |some (.interface _)=>none
 |some _=>some (.iface t x)
 |none=>none
def light(P:Program)(s:Nat->V)(h:H):Op->Option V
 |.move x|.assign x=>some (ev s x)
 |.pick c a b=>match ev s c with|.bool x=>some (if x then ev s a else ev s b)|_=>none
 |.load t a=>KP P t h (ev s a)
 |.nilCheck x=>XC (ev s x)
 |.binOp op t x y _=>kJ P op t (ev s x) (ev s y)
 |.unOp op _ x=>UZ op (ev s x)
 |.convert a b x=>cvV P a b (ev s x)
 |.makeFunc f first captured=>some (.fn f (first.toList.map (ev s)) (captured.toList.map (ev s)))
 |.makeInterface t x=>mkI P t (ev s x)
 |.slice t x lo hi mx=>slV P t (ev s x) (lo.map (ev s)) (hi.map (ev s)) (mx.map (ev s))
 |.fieldAddr t x f=>faV P t (ev s x) f
 |.field t x f=>fdV P t (ev s x) f
 |.indexAddr t x i=>iaV P t (ev s x) (ev s i)
 |.index t x i=>ixV P t (ev s x) (ev s i)
 |.extract x i=>jF (ev s x) i
 |.build t parts=>buV P t (parts.toList.map λp=>(p.1,ev s p.2))
 |.call c=>match c.callee with
   |.builtin .len=>match c.args.toList,c.argTypes.toList with
    |[x],[t]=>kI P t (ev s x)
    |_,_=>none
   |.builtin .cap=>match c.args.toList,c.argTypes.toList with
    |[x],[t]=>kH P t (ev s x)
    |_,_=>none
   |.builtin .min=>Vx (c.args.toList.map (ev s))
   |.builtin .max=>Rg (c.args.toList.map (ev s))
   |_=>none
 |_=>none
def Vu:Nat->List V->List V
 |0,_=>[]
 |n+1,z=>z++Vu n z
def fresh(P:Program)(s:Nat->V)(h:H):Op->Option (V×H)
 |.alloc e=>(Ns P e).bind λz=>some (.ptr h.n 0,h.new (.cells z e false))
 |.box e x=>((ev s x).cells).bind λl=>some (.ptr h.n 0,h.new (.cells l e false))
 |.buildSlice t len parts=>(qG P t).bind λe=>(S8 P e).bind λsize=>if len*size>16777216\/VA P e size=false then none else
    (Ns P e).bind λz=>(FP (λi=>some (i*size,size)) (Vu len z) (parts.toList.map λp=>(p.1,ev s p.2))).bind λl =>
    some (.sl h.n 0 len (.ex len),h.new (.cells l e false))
 |.makeSlice t len cap=>(qG P t).bind λe=>(S8 P e).bind λsize=>(oP P e).bind λbytes=>match ev s len,ev s cap with
   |.int _ n,.int _ c=>if 0<=n/\n<=c/\(bytes:Int)*c<=140737488355328/\c<9223372036854775808/\VA P e size=true then
      (Ns P e).bind λz=>some (.sl h.n 0 n.toNat (.ex c.toNat),h.new (.cells (Vu c.toNat z) e false))else none
   |_,_=>none
 |_=>none
def XY(h:H)(size n:Nat):V->Option (List V)
 |.ZO=>some []
 |.sl b o _ _=>h.Ze b o (n*size)
 |.str s=>if size=1 then some ((s.take n).map λc=>.int .u8 c.toNat)else none
 |_=>none
def lenOf:V->Option Nat
 |.ZO=>some 0
 |.sl _ _ n _=>some n
 |.str s=>some s.length
 |_=>none
def Iu(e size bytes:Nat)(h:H)(x:V)(n:Nat)(new:List V):Option (V×H) :=
 match x with
 |.ZO=>if n=0 then some (.ZO,h)else
   if n*bytes<=140737488355328 then some (.sl h.n 0 n (.op size),h.new (.cells new e false))else none
 |.sl b o len (.ex cap) =>
   if len+n<=cap then (h.X4 b (o+len*size) new).bind λh'=>some (.sl b o (len+n) (.ex cap),h')
   else if (len+n)*bytes<=140737488355328 then
    (h.Ze b o (len*size)).bind λold=>some (.sl h.n 0 (len+n) (.op size),h.new (.cells (old++new) e false))
   else none
 |.sl b o len (.op z) =>
   if size≠z then none else
   if n=0 then some (.sl b o len (.op z),h)else
   if (len+n)*bytes<=140737488355328 then
    match h.get b with
    |some (.cells c e' false)=>if e'=e/\o+len*size<=c.length then
       some (.sl h.n 0 (len+n) (.op size),(h.put b .dead).new (.cells ((c.drop o).take (len*size)++new) e false))else none
    |_=>none
   else none
 |_=>none
def Vk(e size bytes:Nat)(h:H)(x y:V):Option (V×H) :=
 (lenOf y).bind λn=>(XY h size n y).bind λnew=>Iu e size bytes h x n new
def apM(z:List V)(e size bytes:Nat)(h:H)(x y:V):Option (V×H) :=
 match y with
 |.int _ l=>if 0<=l/\l*(bytes:Int)<=140737488355328 then Iu e size bytes h x l.toNat (Vu l.toNat z)else none
 |_=>none
def apV(P:Program)(h:H)(t:TypeId)(x y:V):Option (V×H) :=
 (qG P t).bind λe=>(S8 P e).bind λsize=>(oP P e).bind λbytes=>if size=0\/bytes=0\/VA P e size=false then none else Vk e size bytes h x y
def qW(P:Program)(h:H)(t:TypeId)(x y:V):Option (V×H) :=
 (qG P t).bind λe=>(S8 P e).bind λsize=>(oP P e).bind λbytes=>if size=0\/bytes=0\/VA P e size=false then none else (Ns P e).bind λz=>apM z e size bytes h x y
def cpZ(size:Nat)(h:H)(x y:V):Option (V×H) :=
 (lenOf y).bind λm =>
 match x with
 |.ZO=>some (.int .i64 0,h)
 |.sl b o len _=>(XY h size (min m len) y).bind λnew=>(h.X4 b o new).bind λh'=>some (.int .i64 (min m len:Nat),h')
 |_=>none
def copyV(P:Program)(h:H)(t:TypeId)(x y:V):Option (V×H) :=
 (qG P t).bind λe=>(S8 P e).bind λsize=>cpZ size h x y
def Zx(n:Nat)(h:H)(a v:V):Option (V×H) :=
 match a with
 |.ptr b o=>match v with
   |.agg l=>if n=l.length then (h.X4 b o l).bind λh'=>some (.Wz,h')else none
   |.any|.Zt _=>none
   |v=>if n=1 then (h.WO b o v).bind λh'=>some (.Wz,h')else none
 |_=>none
def stV(P:Program)(h:H)(t:TypeId)(a v:V):Option (V×H):=(S8 P t).bind λn=>Zx n h a v
def NG(ks:List Lf)(kc:List V):List (V×V)->Nat->Option (Option (Nat×V))
 |[],_=>some none
 |(.agg ac,v)::r,i=>if Yr ks ac=true then (if WX kc ac=true then some (some (i,v))else NG ks kc r (i+1))else none
 |_::_,_=>none
def fy(h:H):Option (V×H):=some (.map h.n,h.new (.map []))
def oe(ks:List Lf)(z:V)(ok:Bool)(h:H)(m k:V):Option (V×H) :=
 match m,k with
 |.map b,.agg kc=>if Yr ks kc=true then (match h.get b with
    |some (.map es)=>(NG ks kc es 0).bind λr=>match r with
       |some (_,v)=>some (if ok then .Zt [v,.bool true]else v,h)
       |none=>some (if ok then .Zt [z,.bool false]else z,h)
    |_=>none)else none
 |_,_=>none
def km(ks:List Lf)(h:H)(m k v:V):Option (V×H) :=
 match m,k with
 |.map b,.agg kc=>if Yr ks kc=true then (match h.get b with
    |some (.map es)=>(NG ks kc es 0).bind λr=>match r with
       |some (j,_)=>some (.Wz,h.put b (.map (es.set j (.agg kc,v))))
       |none=>some (.Wz,h.put b (.map (es++[(.agg kc,v)])))
    |_=>none)else none
 |_,_=>none
def qB(P:Program)(t:TypeId):Option (TypeId×List Lf) :=
 match P.underlying t with
 |some (.map kt et)=>(FT P kt).map λks=>(et,ks)
 |_=>none
def zvT(P:Program)(t:TypeId):Option V:=((P.info? t).bind (·.zero)).map XE
def ai(P:Program)(h:H)(t:TypeId)(m k:V)(ok:Bool):Option (V×H) :=
 (qB P t).bind λp=>(zvT P p.1).bind λz=>oe p.2 z ok h m k
def af(P:Program)(h:H)(t:TypeId)(m k v:V):Option (V×H) :=
 (qB P t).bind λp=>km p.2 h m k v
def WT(P:Program)(s:Nat->V)(h:H):Op->Option (V×H)
 |.makeMap _ none=>fy h
 |.lookup t m k ok=>ai P h t (ev s m) (ev s k) ok
 |.mapUpdate t m k x|.insert t m k x=>af P h t (ev s m) (ev s k) (ev s x)
 |.store t a v=>stV P h t (ev s a) (ev s v)
 |.call c=>match c.callee with
   |.builtin .append=>match c.args.toList,c.argTypes.toList with
    |[x,y],[t,u]=>match P.underlying u with|some (.int _)=>qW P h t (ev s x) (ev s y)|none=>none|_=>apV P h t (ev s x) (ev s y)
    |_,_=>none
   |.builtin .copy=>match c.args.toList,c.argTypes.toList with
    |[x,y],[t,_]=>copyV P h t (ev s x) (ev s y)
    |_,_=>none
   |_=>none
 |_=>none
inductive Rv where
 |ret (v:V)
 |MZ (v:V)
abbrev Zs:=FuncId->List V->H->Option (Rv×H)
def TB(K:Zs)(s:Nat->V)(h:H)(c:Call):Option (Rv×H) :=
 match c.callee with
 |.value f=>match ev s f with
   |.fn (.func g) first captured=>K g (first++(c.args.toList.map (ev s)++captured)) h
   |_=>none
 |_=>none
def lz(x:V)(h:H):Option (Rv×H) :=
 match x with
 |.iface t v=>some (.MZ (.iface t v),h)
 |_=>none
def SO(K:Zs)(s:Nat->V)(h:H):Op->Option (Rv×H)
 |.call c=>TB K s h c
 |.panic x=>lz (ev s x) h
 |_=>none
inductive Kd where
 |light|fresh|WT|call|none
 deriving DecidableEq
def kind:Op->Kd
 |.move _|.assign _|.pick ..|.load ..|.nilCheck _|.binOp ..|.unOp ..|.convert ..|.makeFunc ..|.makeInterface ..|.slice ..|.fieldAddr ..|.field ..|.indexAddr ..|.index ..|.extract ..|.build ..=>.light
 |.alloc _|.box ..|.buildSlice ..|.makeSlice ..=>.fresh
 |.store ..|.makeMap ..|.lookup ..|.mapUpdate ..|.insert ..=>.WT
 |.call c=>match c.callee with
   |.builtin .len|.builtin .cap|.builtin .min|.builtin .max=>.light
   |.builtin .append|.builtin .copy=>.WT
   |.builtin _=>.none
   |.value _=>.call
   |.invoke ..=>.none
 |.panic _=>.call
 |_=>.none
structure E where
 l:List V
 lt:Nat
 lv:V
inductive Ex where
 |nm
 |ex (id:Nat)
 |rt
 |pn (v:V)
structure St where
 x:Ex
 e:E
 h:H
abbrev Out:=Option St
def bd{α β:Type}(x:Option α)(k:α->Option β):Option β :=
 match x with
 |some v=>k v
 |none=>none
def bf{β:Type}(x:Option (V×H))(k:V->H->Option β):Option β :=
 match x with
 |some (v,h)=>k v h
 |none=>none
def bk{β:Type}(x:Option (Rv×H))(pn:V->H->Option β)(k:V->H->Option β):Option β :=
 match x with
 |some (.ret v,h)=>k v h
 |some (.MZ v,h)=>pn v h
 |none=>none
def WK(c:V)(want:Bool):Option Bool :=
 match c with
 |.bool b=>some (b==want)
 |.Zt []=>some false
 |_=>none
def gl(c:V)(want:Bool)(x:Option V):Option V :=
 match WK c want with
 |some true=>x
 |some false=>some .Wz
 |none=>none
def gf(c:V)(want:Bool)(h:H)(x:Option (V×H)):Option (V×H) :=
 match WK c want with
 |some true=>x
 |some false=>some (.Wz,h)
 |none=>none
def gk(c:V)(want:Bool)(h:H)(x:Option (Rv×H)):Option (Rv×H) :=
 match WK c want with
 |some true=>x
 |some false=>some (.ret .Wz,h)
 |none=>none
def WW(s:Nat->V)(d:Option Nat)(v:V):Nat->V :=
 match d with
 |some d=>λt=>if t=d then v else s t
 |none=>s
def Zm(ops:Array Oper)(s:Nat->V)(o:Oper):Option (V×Bool) :=
 match o.guard with
 |none=>none
 |some (j,want)=>match (ops[j]?).bind (·.dst)with
   |some d=>some (s d,want)
   |none=>some (.any,want)
def Yq(P:Program)(g:Option (V×Bool))(s:Nat->V)(h:H)(o:Op):Option V :=
 match g with
 |none=>light P s h o
 |some (c,want)=>gl c want (light P s h o)
def Qi(P:Program)(g:Option (V×Bool))(s:Nat->V)(h:H)(o:Op):Option (V×H) :=
 match g with
 |none=>fresh P s h o
 |some (c,want)=>gf c want h (fresh P s h o)
def Qh(P:Program)(g:Option (V×Bool))(s:Nat->V)(h:H)(o:Op):Option (V×H) :=
 match g with
 |none=>WT P s h o
 |some (c,want)=>gf c want h (WT P s h o)
def QM(K:Zs)(g:Option (V×Bool))(s:Nat->V)(h:H)(o:Op):Option (Rv×H) :=
 match g with
 |none=>SO K s h o
 |some (x,want)=>gk x want h (SO K s h o)
def tP(P:Program)(K:Zs)(ops:Array Oper)(o:Oper)(s:Nat->V)(h:H){β:Type}(pn:V->H->Option β)(k:(Nat->V)->H->Option β):Option β :=
 match kind o.op with
 |.light=>bd (Yq P (Zm ops s o) s h o.op) λv=>k (WW s o.dst v) h
 |.fresh=>bf (Qi P (Zm ops s o) s h o.op) λv h=>k (WW s o.dst v) h
 |.WT=>bf (Qh P (Zm ops s o) s h o.op) λv h=>k (WW s o.dst v) h
 |.call=>bk (QM K (Zm ops s o) s h o.op) pn λv h=>k (WW s o.dst v) h
 |.none=>none
def QR(P:Program)(K:Zs)(all:Array Oper)(pn:V->H->Out)(fin:(Nat->V)->H->Out):List Oper->(Nat->V)->H->Out
 |[],s,h=>fin s h
 |o::r,s,h=>tP P K all o s h pn λs h=>QR P K all pn fin r s h
mutual
def V.same:V->V->Bool
 |.bool a,.bool b=>a==b
 |.int k a,.int l b=>decide (k=l)&&decide (a=b)
 |.float k a,.float l b=>decide (k=l)&&decide (a=b)
 |.str a,.str b=>a==b
 |.Zh,.Zh|.ZO,.ZO|.Sz,.Sz|.Tk,.Tk|.KM,.KM=>true
 |.ptr a b,.ptr c d=>decide (a=c)&&decide (b=d)
 |.sl a b c d,.sl e f g i=>decide (a=e)&&decide (b=f)&&decide (c=g)&&decide (d=i)
 |.map a,.map b=>decide (a=b)
 |.fn f a b,.fn g c d=>decide (f=g)&&V.Xm a c&&V.Xm b d
 |.iface t a,.iface u b=>decide (t=u)&&V.same a b
 |.agg a,.agg b=>V.Xm a b
 |.Zt a,.Zt b=>V.Xm a b
 |_,_=>false
def V.Xm:List V->List V->Bool
 |[],[]=>true
 |a::x,b::y=>V.same a b&&V.Xm x y
 |_,_=>false
end
def ck{β:Type}(x:Option V)(v:V)(k:Option β):Option β :=
 match x with
 |some u=>if V.same u v then k else none
 |none=>none
structure vT where
 ord:List Nat
 win:List (Nat×List Nat)
def Y7(o:Op):Bool:=match kind o with|.WT|.call=>true|_=>false
def Wy(o:Op):Bool:=match kind o with|.fresh=>true|_=>false
def isNone(o:Op):Bool:=match kind o with|.none=>true|_=>false
def Uw(o:Op):Bool:=match o with|.load ..=>true|_=>false
def WS(ops:Array Oper)(f:Op->Bool)(i:Nat):Bool:=match ops[i]? with|some o=>f o.op|none=>false
def CP(ops:Array Oper)(b:Array Nat):List Nat :=
 let idx:=List.range ops.size
 let hv:=idx.filter (WS ops Y7)
 let r:=hv.foldl (λ(acc:List Nat×Nat) j =>
   let anc:=idx.filter λi=>(b.getD j 0).testBit i&&!acc.2.testBit i
   (acc.1++(anc++[j]),(anc++[j]).foldl (λm i=>m ||| 2^i) acc.2)) ([],0)
 r.1++idx.filter λi=>!r.2.testBit i
def Yz(b:Array Nat)(j i:Nat):Bool:=(b.getD j 0).testBit i
def wD(ops:Array Oper)(b:Array Nat)(ord:List Nat)(i:Nat):Nat:=(ord.filter λj=>WS ops Y7 j&&Yz b i j).length
def wE(ops:Array Oper)(b:Array Nat)(ord:List Nat)(i:Nat):Nat:=(ord.filter λj=>WS ops Y7 j&&!Yz b j i).length
def H0(ops:Array Oper)(b:Array Nat)(ord:List Nat):List (Nat×List Nat) :=
 ((List.range ops.size).filter (WS ops Uw)).map λi=>(i,(List.range (wE ops b ord i+1)).filter λk=>decide (wD ops b ord i<=k))
def looks(ops:Array Oper)(o:Oper):List Nat :=
 (o.op.operands.toList.filterMap λ| .tmp t=>some t|_=>none) ++
 (
  match o.guard with
  |some (g,_)=>((ops[g]?).bind (·.dst)).toList
  |none=>[])
def CU(ops:Array Oper)(ord:List Nat)(p:Nat):Bool :=
 match ord[p]? with|some j=>decide (j<ops.size)&&ord.idxOf j==p|none=>false
def CV(ops:Array Oper)(b:Array Nat)(ord:List Nat)(i:Nat):Bool :=
 match ops[i]? with
 |none=>false
 |some o=>ord.contains i&&!isNone o.op&&(!Uw o.op||(match o.dst with|some d=>!(looks ops o).contains d|none=>true)) &&
   (match o.guard with|some (g,_)=>Yz b i g&&((ops[g]?).bind (·.dst)).isSome|none=>true) &&
   o.after.toList.all λe=>!Region.binds .any e||(Yz b i e.on&&decide (e.on<ops.size))
def CW(ops:Array Oper)(b:Array Nat)(ord:List Nat)(i j:Nat):Bool :=
 match ops[i]?,ops[j]? with
 |some o,some p =>
   (!Yz b i j||(decide (ord.idxOf j<ord.idxOf i)&&o.after.toList.any λe=>Region.binds .any e&&(e.on==j||Yz b e.on j))) &&
   (i==j ||
    (
     (match o.dst with|some d=>p.dst != some d&&(!(looks ops p).contains d||Yz b j i||(Yz b i j&&!Uw p.op))|none=>true) &&
     (!Y7 o.op||!Y7 p.op||Yz b i j||Yz b j i) &&
     (!Wy o.op||!Y7 p.op||Yz b i j||Yz b j i||decide (ord.idxOf j<ord.idxOf i))))
 |_,_=>false
def Ej(ops:Array Oper)(b:Array Nat)(ord:List Nat):Bool :=
 ord.length==ops.size&&(List.range ops.size).all (CU ops ord)&&(List.range ops.size).all (CV ops b ord) &&
 (List.range ops.size).all λi=>(List.range ops.size).all (CW ops b ord i)
def plan(ops:Array Oper):Option vT :=
 let b:=Region.before ops
 let ord:=CP ops b
 if Ej ops b ord then some ⟨ord,H0 ops b ord⟩else none
def QT(P:Program)(K:Zs)(all:Array Oper)(fin:(Nat->V)->H->List H->Out):List Nat->(Nat->V)->H->List H->Out
 |[],s,h,hs=>fin s h hs
 |i::r,s,h,hs=>match all[i]? with
   |none=>none
   |some o=>tP P K all o s h (λ_ _=>none) λs h=>QT P K all fin r s h (if Y7 o.op then h::hs else hs)
def lO(P:Program)(all:Array Oper)(s:Nat->V)(hs:List H):List (Nat×List Nat)->Out->Out
 |[],k=>k
 |(i,ks)::r,k=>match all[i]? with
   |none=>none
   |some o=>match o.dst with
    |none=>none
    |some d=>ks.foldr (λn k=>match hs[n]? with
      |some h=>ck (Yq P (Zm all s o) s h o.op) (s d) k
      |none=>none) (lO P all s hs r k)
def SN(keep:List Nat)(last:Nat)(s:Nat->V):E:=⟨keep.map s,last,s last⟩
def zZ(keep:List Nat)(l:List V)(t:Nat):V :=
 match keep,l with
 |k::ks,v::vs=>if t=k then v else zZ ks vs t
 |_,_=>.any
def E.s(keep:List Nat)(e:E)(t:Nat):V:=if t=e.lt then e.lv else zZ keep e.l t
def fgL(ds:List Nat):List Nat->List V->List V
 |k::ks,v::vs=>(if ds.contains k then .any else v)::fgL ds ks vs
 |_,_=>[]
def Uc(keep ds:List Nat)(e:E):E:=⟨fgL ds keep e.l,e.lt,if ds.contains e.lt then .any else e.lv⟩
def RU(ops:List Oper):List Nat:=ops.filterMap (·.dst)
def Lw(ops:List Oper):Nat:=match ops.getLast? with|some o=>o.dst.getD 0|none=>0
def H3(o:Op):Bool:=match kind o with|.light=>true|_=>false
def kE(o:Op):Bool:=match kind o with|.call=>true|_=>false
def Gf(ops:Array Oper)(b:Array Nat)(ord:List Nat):Option Nat :=
 match ord.find? (WS ops Y7)with
 |none=>none
 |some j=>if WS ops kE j&&(match ops[j]? with|some o=>o.guard.isNone|none=>false)&&ord.all (λk=>k==j||Yz b k j||WS ops H3 k)then some j else none
def prun(P:Program)(K:Zs)(all:Array Oper)(sk:Nat->Bool)(j:Nat)(out:V->H->Out)(h:H):List Nat->(Nat->V)->Option (V×H)->Out->Out
 |[],_,r,_=>match r with|some (v,h')=>out v h'|none=>none
 |i::l,s,r,k=>match all[i]? with
   |none=>none
   |some o=>if i=j then (match r with
      |some _=>none
      |none=>tP P K all o s h (λv h'=>prun P K all sk j out h l (WW s o.dst .any) (some (v,h')) k) λ_ _=>k)
    else if sk i then prun P K all sk j out h l (WW s o.dst .any) r k
    else bd (Yq P (Zm all s o) s h o.op) λv=>prun P K all sk j out h l (WW s o.dst v) r k
def Ks(P:Program)(K:Zs)(keep:List Nat)(ops:Array Oper)(p:vT)(e:E)(h:H)(k:Out):Out :=
 match Gf ops (Region.before ops) p.ord with
 |none=>k
 |some j=>prun P K ops (λi=>Yz (Region.before ops) i j) j (λv h'=>some ⟨.pn v,Uc keep (RU ops.toList) e,h'⟩) h p.ord (e.s keep) none k
def FB(P:Program)(K:Zs)(keep:List Nat)(ops:Array Oper)(draw:Bool)(e:E)(h:H):Out :=
 if draw then
   match plan ops with
   |none=>none
   |some p=>Ks P K keep ops p e h (QT P K ops (λs h hs=>lO P ops s hs.reverse p.win (some ⟨.nm,SN keep (Lw ops.toList) s,h⟩)) p.ord (e.s keep) h [h])
 else QR P K ops (λv h=>some ⟨.pn v,Uc keep (RU ops.toList) e,h⟩) (λs h=>some ⟨.nm,SN keep (Lw ops.toList) s,h⟩) ops.toList (e.s keep) h
def sq(x:Out)(k:E->H->Out):Out :=
 match x with
 |some ⟨.nm,e,h⟩=>k e h
 |some r=>some r
 |none=>none
def br(c:V)(a b:Out):Out :=
 match c with
 |.bool true=>a
 |.bool false=>b
 |_=>none
def Y9(id:Nat)(x:Out):Out :=
 match x with
 |some ⟨.ex j,e,h⟩=>if j=id then some ⟨.nm,e,h⟩else some ⟨.ex j,e,h⟩
 |r=>r
abbrev Yy:=(E->H->Out)->E->H->Out
def den(P:Program)(K:Zs)(L:Yy)(keep:List Nat):Code->E->H->Out
 |.skip,e,h=>some ⟨.nm,e,h⟩
 |.region _ ops draw,e,h=>FB P K keep ops draw e h
 |.seq a b,e,h=>sq (den P K L keep a e h) λe h=>den P K L keep b e h
 |.cond c a b,e,h=>br (ev (e.s keep) c) (den P K L keep a e h) (den P K L keep b e h)
 |.block id c,e,h=>Y9 id (den P K L keep c e h)
 |.loop c,e,h=>L (λe h=>den P K L keep c e h) e h
 |.exit id,e,h=>some ⟨.ex id,e,h⟩
 |.scope c,e,h=>den P K L keep c e h
 |.label _,e,h=>some ⟨.nm,e,h⟩
 |.ret,e,h=>some ⟨.rt,e,h⟩
 |_,_,_=>none
def XR:Nat->Yy
 |0,_,_,_=>none
 |n+1,f,e,h=>sq (f e h) λe h=>XR n f e h
def Bq5(P:Program)(s:Nat->V)(h:H):ResultVar->Option V
 |.tmp t=>some (s t)
 |.cell a t=>KP P t h (s a)
def SQ(P:Program)(s:Nat->V)(h:H):List ResultVar->Option (List V)
 |[]=>some []
 |r::rs=>bd (Bq5 P s h r) λv=>bd (SQ P s h rs) λvs=>some (v::vs)
def Ib:List V->V
 |[v]=>v
 |vs=>.Zt vs
def fin(P:Program)(keep:List Nat)(rs:List ResultVar)(x:Out):Option (Rv×H) :=
 match x with
 |some ⟨.nm,e,h⟩|some ⟨.rt,e,h⟩=>bd (SQ P (e.s keep) h rs) λvs=>some (.ret (Ib vs),h)
 |some ⟨.pn v,_,h⟩=>some (.MZ v,h)
 |_=>none
def AQ(args:List V)(t:Nat):V:=if t<args.length then args.getD t .any else .Wz
def VC(keep:List Nat)(args:List V):E:=SN keep 0 (AQ args)
def Vo(n:Nat):Code->Bool
 |.region _ ops _=>ops.toList.all λo=>match o.dst with|some d=>decide (d<n)|none=>true
 |.seq a b=>Vo n a&&Vo n b
 |.cond _ a b=>Vo n a&&Vo n b
 |.block _ c|.loop c|.scope c=>Vo n c
 |_=>true
def lx(fn:Func):Bool:=fn.name != "runtime.NumGoroutine"&&(match fn.body with|some c=>Vo fn.ntmps c|none=>false)
def Nd(P:Program)(kp:FuncId->List Nat)(K:Zs)(L:Yy)(f:FuncId)(args:List V)(h:H):Option (Rv×H) :=
 match P.funcs[f]? with
 |some fn=>match fn.body with
   |some c=>if lx fn then fin P (kp f) fn.results.toList (den P K L (kp f) c (VC (kp f) args) h)else none
   |none=>none
 |none=>none
def Uj(P:Program)(kp:FuncId->List Nat):Nat->Zs
 |0,_,_,_=>none
 |n+1,f,args,h=>Nd P kp (Uj P kp n) (XR (n+1)) f args h
end Go.Zf
