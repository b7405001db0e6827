import GoSem.Core.Program
import GoSem.Core.Region
import GoSem.Core.Sem
import GoSem.Op.Unary
import GoSem.Core.Layout
import GoSem.Op.Equal
set_option linter.unusedVariables false
set_option linter.unusedSimpArgs false
namespace Go.Zf
inductive Cap where
 | ex (c:Nat)
 | op (z:Nat)
 deriving DecidableEq
inductive V where
 | bool (b:Bool)
 | int (k:IntKind) (n:Int)
 | float (k:FloatKind) (bits:Nat)
 | str (s:List UInt8)
 | nilp
 | ptr (b o:Nat)
 | nils
 | sl (b o len:Nat) (cap:Cap)
 | nilm
 | map (b:Nat)
 | nilf
 | fn (f:Fn) (first captured:List V)
 | nili
 | iface (t:TypeId) (v:V)
 | agg (l:List V)
 | tup (l:List V)
 | any
def V.isCell:V→Bool
 | .any | .agg _ | .tup _=>false
 | _=>true
def V.und:V:=.tup []
def ofAtom:Value→V
 | .bool b=>.bool b
 | .int k n=>.int k n
 | .float k b=>.float k b
 | .string s=>.str s.data.toList
 | .pointer none=>.nilp
 | .slice none 0 0=>.nils
 | .map none=>.nilm
 | .nilFunc=>.nilf
 | .nilIface=>.nili
 | _=>.any
def ofVal:Value→V
 | .agg cs=>if (cs.toList.map ofAtom).all V.isCell then .agg (cs.toList.map ofAtom) else .any
 | .tuple cs=>.tup (cs.toList.map ofAtom)
 | .iface t v=>.iface t (ofAtom v)
 | v=>ofAtom v
inductive Blk where
 | cells (c:List V) (e:TypeId) (ro:Bool)
 | map (es:List (V × V))
 | dead
inductive T where
 | lf
 | nd (l:T) (v:Option Blk) (r:T)
def T.get:T→Nat→Option Blk
 | .lf,_=>none
 | .nd l v r,k=>if k=0 then v else if k % 2=1 then l.get (k / 2) else r.get (k / 2 - 1)
def T.put:Nat→T→Nat→Blk→T
 | 0,t,_,_=>t
 | n+1,.lf,k,x=>if k=0 then .nd .lf (some x) .lf else if k % 2=1 then .nd (T.put n .lf (k / 2) x) none .lf else .nd .lf none (T.put n .lf (k / 2 - 1) x)
 | n+1,.nd l v r,k,x=>if k=0 then .nd l (some x) r else if k % 2=1 then .nd (T.put n l (k / 2) x) v r else .nd l v (T.put n r (k / 2 - 1) x)
theorem T.get_put (n:Nat):∀ (t:T) (k c:Nat) (x:Blk),k < n→(T.put n t k x).get c=if c=k then some x else t.get c:=by
 induction n with
 | zero=>intro t k c x h;omega
 | succ n ih =>
   intro t k c x h
   cases t with
   | lf =>
    simp only [T.put]
    by_cases k0:k=0
    · subst k0
      simp only [if_true,T.get]
      by_cases c0:c=0 <;> simp [c0,T.get]
    · rw [if_neg k0]
      by_cases k1:k % 2=1
      ·rw [if_pos k1]
       simp only [T.get]
       by_cases c0:c=0
       ·simp [c0];omega
       ·rw [if_neg c0]
        by_cases c1:c % 2=1
        ·rw [if_pos c1,ih _ _ _ _ (by omega)]
         by_cases e:c / 2=k / 2
         ·rw [if_pos e,if_pos (by omega)]
         ·rw [if_neg e,if_neg (by intro h;subst h;exact e rfl)];rfl
        ·rw [if_neg c1,if_neg (by intro h;subst h;exact c1 k1)]
      ·rw [if_neg k1]
       simp only [T.get]
       by_cases c0:c=0
       ·simp [c0];omega
       ·rw [if_neg c0]
        by_cases c1:c % 2=1
        ·rw [if_pos c1,if_neg (by intro h;subst h;exact k1 c1)]
        ·rw [if_neg c1,ih _ _ _ _ (by omega)]
         by_cases e:c / 2 - 1=k / 2 - 1
         ·rw [if_pos e,if_pos (by omega)]
         ·rw [if_neg e,if_neg (by intro h;subst h;exact e rfl)];rfl
   | nd l v r =>
    simp only [T.put]
    by_cases k0:k=0
    · subst k0
      simp only [if_true,T.get]
      by_cases c0:c=0 <;> simp [c0]
    · rw [if_neg k0]
      by_cases k1:k % 2=1
      ·rw [if_pos k1]
       simp only [T.get]
       by_cases c0:c=0
       ·simp [c0];omega
       ·rw [if_neg c0,if_neg c0]
        by_cases c1:c % 2=1
        ·rw [if_pos c1,if_pos c1,ih _ _ _ _ (by omega)]
         by_cases e:c / 2=k / 2
         ·rw [if_pos e,if_pos (by omega)]
         ·rw [if_neg e,if_neg (by intro h;subst h;exact e rfl)]
        ·rw [if_neg c1,if_neg c1,if_neg (by intro h;subst h;exact c1 k1)]
      ·rw [if_neg k1]
       simp only [T.get]
       by_cases c0:c=0
       ·simp [c0];omega
       ·rw [if_neg c0,if_neg c0]
        by_cases c1:c % 2=1
        ·rw [if_pos c1,if_pos c1,if_neg (by intro h;subst h;exact k1 c1)]
        ·rw [if_neg c1,if_neg c1,ih _ _ _ _ (by omega)]
         by_cases e:c / 2 - 1=k / 2 - 1
         ·rw [if_pos e,if_pos (by omega)]
         ·rw [if_neg e,if_neg (by intro h;subst h;exact e rfl)]
structure H where
 n:Nat
 t:T
def H.get (h:H) (b:Nat):Option Blk:=if b < h.n then h.t.get b else none
def H.put (h:H) (b:Nat) (x:Blk):H:=⟨h.n,T.put (b+1) h.t b x⟩
def H.new (h:H) (x:Blk):H:=⟨h.n+1,T.put (h.n+1) h.t h.n x⟩
theorem H.get_lt {h:H} {b:Nat} {x:Blk} (e:h.get b=some x):b < h.n:=by
 unfold H.get at e;split at e <;> simp_all
theorem H.n_put (h:H) (b:Nat) (x:Blk):(h.put b x).n=h.n:=rfl
theorem H.n_new (h:H) (x:Blk):(h.new x).n=h.n+1:=rfl
theorem H.get_put (h:H) (b c:Nat) (x:Blk):(h.put b x).get c=if c=b∧b < h.n then some x else h.get c:=by
 simp only [H.get,H.put,T.get_put _ _ _ _ _ (Nat.lt_succ_self b)]
 by_cases e:c=b
 · subst e;by_cases l:c < h.n <;> simp [l]
 · simp [e]
theorem H.get_new (h:H) (c:Nat) (x:Blk):(h.new x).get c=if c=h.n then some x else h.get c:=by
 simp only [H.get,H.new,T.get_put _ _ _ _ _ (Nat.lt_succ_self h.n)]
 by_cases e:c=h.n
 · subst e;simp
 · by_cases l:c < h.n
   ·simp [e,l,Nat.lt_succ_of_lt l]
   ·simp [e,l];omega
def H.rd1 (h:H) (b o:Nat):Option V :=
 match h.get b with
 | some (.cells c _ _)=>c[o]?
 | _=>none
def H.rdN (h:H) (b o n:Nat):Option (List V) :=
 match h.get b with
 | some (.cells c _ _)=>if o+n≤c.length then some ((c.drop o).take n) else none
 | _=>none
def H.wr1 (h:H) (b o:Nat) (v:V):Option H :=
 match h.get b with
 | some (.cells c e false)=>if o < c.length then some (h.put b (.cells (c.set o v) e false)) else none
 | _=>none
def splice (c:List V) (o:Nat) (vs:List V):List V:=c.take o ++ (vs ++ c.drop (o+vs.length))
def H.wrN (h:H) (b o:Nat) (vs:List V):Option H :=
 match h.get b with
 | some (.cells c e false)=>if o+vs.length≤c.length then some (h.put b (.cells (splice c o vs) e false)) else none
 | _=>none
def V.cells:V→Option (List V)
 | .agg l=>some l
 | .any | .tup _=>none
 | v=>some [v]
section types
variable (P:Program)
def isAggT (t:TypeId):Option Bool:=match P.underlying t with | some (.struct _) | some (.array _ _)=>some true | some _=>some false | none=>none
def szT (t:TypeId):Option Nat:=(P.info? t).map (·.size)
def byT (t:TypeId):Option Nat:=(P.info? t).map (·.bytes)
def zeroT (t:TypeId):Option (List V) :=
 match (P.info? t).bind (·.zero) with
 | some z=>let l:=z.cells.toList.map ofAtom;if l.all V.isCell then some l else none
 | none=>none
def zeroOk (t:TypeId) (size:Nat):Bool:=match (P.info? t).bind (·.zero) with | some z=>z.cells.size == size | none=>false
def elT (t:TypeId):Option TypeId:=match P.underlying t with | some (.slice e)=>some e | _=>none
end types
def ldV (P:Program) (t:TypeId) (h:H):V→Option V
 | .ptr b o=>match isAggT P t with
   | some true=>(szT P t).bind fun n=>(h.rdN b o n).bind fun l=>some (.agg l)
   | some false=>h.rd1 b o
   | none=>none
 | _=>none
def nilC:V→Option V
 | .ptr b o=>some (.ptr b o)
 | .fn (.func f) x y=>some (.fn (.func f) x y)
 | _=>none
def cmpI (op:BinOp) (x y:Int):Option V :=
 match op with
 | .eql=>some (.bool (x == y))
 | .neq=>some (.bool (x != y))
 | .lss=>some (.bool (x < y))
 | .leq=>some (.bool (x≤y))
 | .gtr=>some (.bool (x > y))
 | .geq=>some (.bool (x ≥ y))
 | _=>none
def bitsI (op:BinOp) (k:IntKind) (x y:Int):Option V :=
 let a:=BitVec.ofInt k.bits x
 let b:=BitVec.ofInt k.bits y
 match op with
 | .and=>some (.int k (k.wrap (a &&& b).toNat))
 | .or=>some (.int k (k.wrap (a ||| b).toNat))
 | .xor=>some (.int k (k.wrap (a ^^^ b).toNat))
 | .andNot=>some (.int k (k.wrap (a &&& ~~~b).toNat))
 | _=>none
def binI (op:BinOp) (k:IntKind) (x y:Int):Option V :=
 match op with
 | .add=>some (.int k (k.wrap (x+y)))
 | .sub=>some (.int k (k.wrap (x - y)))
 | .mul=>some (.int k (k.wrap (x*y)))
 | .quo=>if y=0 then none else some (.int k (k.wrap (x.tdiv y)))
 | .rem=>if y=0 then none else some (.int k (x.tmod y))
 | .and | .or | .xor | .andNot=>bitsI op k x y
 | _=>cmpI op x y
def shI (op:BinOp) (k:IntKind) (x y:Int):Option V :=
 if y < 0 then none else
 match op with
 | .shl=>some (.int k (k.wrap (x*2 ^ (min y.toNat k.bits))))
 | .shr=>some (.int k (x.fdiv (2 ^ (min y.toNat k.bits))))
 | _=>none
def eqA:V→V→Option Bool
 | .bool a,.bool b=>some (a == b)
 | .nilp,.nilp=>some true
 | .nilp,.ptr _ _ | .ptr _ _,.nilp=>some false
 | .nils,.nils=>some true
 | .nils,.sl _ _ _ _ | .sl _ _ _ _,.nils=>some false
 | .nilm,.nilm=>some true
 | .nilm,.map _ | .map _,.nilm=>some false
 | .nilf,.nilf=>some true
 | .nilf,.fn _ _ _ | .fn _ _ _,.nilf=>some false
 | _,_=>none
def kdT (P:Program) (t:TypeId):Nat :=
 match P.underlying t with
 | some .bool=>1
 | some (.pointer _)=>2
 | some (.slice _)=>3
 | some (.map _ _)=>4
 | some (.func _ _ _)=>5
 | _=>0
def eqT (k:Nat):V→Bool
 | .bool _=>k == 1
 | .nilp | .ptr _ _=>k == 2
 | .nils | .sl _ _ _ _=>k == 3
 | .nilm | .map _=>k == 4
 | .nilf | .fn _ _ _=>k == 5
 | _=>false
def binK (kd:Nat) (op:BinOp) (x y:V):Option V :=
 match x,y with
 | .int k a,.int k' b=>match op with
   | .shl | .shr=>shI op k a b
   | _=>if k=k' then binI op k a b else none
 | _,_=>match op with
   | .eql=>if eqT kd x then (eqA x y).bind fun b=>some (.bool b) else none
   | .neq=>if eqT kd x then (eqA x y).bind fun b=>some (.bool (!b)) else none
   | _=>none
inductive Lf where
 | b
 | i (k:IntKind)
def leafsF (P:Program) (f:TypeId→Option (List Lf)):List Field→Nat→Nat→Option (List Lf)
 | [],off,tot=>if off=tot then some [] else none
 | x :: r,off,tot=>if (x.name == "_" || decide (x.offset ≠ off))=true then none else (f x.type).bind fun l=>(leafsF P f r (off+P.cellsOf x.type) tot).map (l ++ ·)
def leafs (P:Program):Nat→TypeId→Option (List Lf)
 | 0,_=>none
 | n+1,t=>match P.underlying t with
   | some .bool=>if P.cellsOf t=1 then some [.b] else none
   | some (.int k)=>if P.cellsOf t=1 then some [.i k] else none
   | some (.struct fs)=>if P.stoodInHeld t=true then none else leafsF P (leafs P n) fs.toList 0 (P.cellsOf t)
   | some (.array m e)=>(leafs P n e).bind fun l=>if P.cellsOf t=m*P.cellsOf e then some (List.replicate m l).flatten else none
   | _=>none
def okLf:Lf→V→Bool
 | .b,.bool _=>true
 | .i k,.int k' _=>k == k'
 | _,_=>false
def okLs:List Lf→List V→Bool
 | [],[]=>true
 | k :: ks,x :: xs=>okLf k x && okLs ks xs
 | _,_=>false
def eq1:V→V→Bool
 | .int _ a,.int _ b=>a == b
 | .bool a,.bool b=>a == b
 | _,_=>false
def eqLs:List V→List V→Bool
 | [],[]=>true
 | x :: xs,y :: ys=>eq1 x y && eqLs xs ys
 | _,_=>false
def binS (ks:List Lf) (op:BinOp) (x y:V):Option V :=
 match x,y with
 | .agg xs,.agg ys=>if (okLs ks xs && okLs ks ys)=true then (match op with | .eql=>some (.bool (eqLs xs ys)) | .neq=>some (.bool (!eqLs xs ys)) | _=>none) else none
 | _,_=>none
def aggLf (P:Program) (t:TypeId):Option (List Lf) :=
 match P.underlying t with
 | some (.struct _) | some (.array _ _)=>if P.eqGuardType P.depth t=true then none else leafs P 20 t
 | _=>none
def binV (P:Program) (op:BinOp) (t:TypeId) (x y:V):Option V :=
 match aggLf P t with
 | some ks=>binS ks op x y
 | none=>binK (kdT P t) op x y
def unV (op:UnOp):V→Option V
 | .int k n=>match op with
   | .neg=>some (.int k (k.wrap (0 - n)))
   | .xor=>bitsI .xor k (if k.signed then -1 else k.max) n
   | _=>none
 | .bool b=>match op with | .not=>some (.bool !b) | _=>none
 | _=>none
def cvV (P:Program) (src dst:TypeId) (x:V):Option V :=
 match x with
 | .int _ n=>match P.underlying src,P.underlying dst with
   | some (.int _),some (.int k)=>some (.int k (k.wrap n))
   | _,_=>none
 | _=>none
def sbV (y:Nat):V→Option Nat
 | .int _ i=>if 0≤i∧i≤y then some i.toNat else none
 | _=>none
def optB (d:Option Nat) (f:V→Option Nat):Option V→Option Nat
 | some v=>f v
 | none=>d
def slV (P:Program) (t:TypeId) (x:V) (lo hi mx:Option V):Option V :=
 match P.underlying t with
 | some (.array n e)=>(szT P e).bind fun size=>match x with
   | .ptr b o =>
    (optB (some n) (sbV n) mx).bind fun m =>
    (optB (if mx.isSome then none else some n) (sbV m) hi).bind fun u =>
    (optB (some 0) (sbV u) lo).bind fun l =>
    some (.sl b (if m=l then o else o+l*size) (u - l) (.ex (m - l)))
   | _=>none
 | some (.slice e)=>(szT P e).bind fun size=>match x with
   | .nils =>
    (optB (some 0) (sbV 0) mx).bind fun m =>
    (optB (if mx.isSome then none else some 0) (sbV m) hi).bind fun u =>
    (optB (some 0) (sbV u) lo).bind fun _=>some .nils
   | .sl b o len (.ex cap) =>
    (optB (some cap) (sbV cap) mx).bind fun m =>
    (optB (if mx.isSome then none else some len) (sbV m) hi).bind fun u =>
    (optB (some 0) (sbV u) lo).bind fun l =>
    some (.sl b (if m=l then o else o+l*size) (u - l) (.ex (m - l)))
   | .sl b o len (.op z)=>if size ≠ z then none else
    match mx with
    | some v=>(sbV len v).bind fun m =>
      (optB (none) (sbV m) hi).bind fun u =>
      (optB (some 0) (sbV u) lo).bind fun l =>
      some (.sl b (if m=l then o else o+l*size) (u - l) (.ex (m - l)))
    | none =>
      (optB (some len) (sbV len) hi).bind fun u =>
      (optB (some 0) (sbV u) lo).bind fun l =>
      some (.sl b (o+l*size) (u - l) (.op z))
   | _=>none
 | _=>none
def faV (P:Program) (s:TypeId) (x:V) (f:Nat):Option V :=
 match P.underlying s with
 | some (.struct fs)=>match fs[f]? with
   | some fd=>if szT P fd.type=some 0∨szT P fd.type=none then none else match x with
    | .ptr b o=>some (.ptr b (o+fd.offset))
    | _=>none
   | none=>none
 | _=>none
def partV (P:Program) (t:TypeId) (cs:List V) (off:Nat):Option V :=
 match isAggT P t with
 | some true=>(szT P t).bind fun n=>if off+n≤cs.length then some (.agg ((cs.drop off).take n)) else none
 | some false=>cs[off]?
 | none=>none
def fdV (P:Program) (t:TypeId) (x:V) (f:Nat):Option V :=
 match P.underlying t with
 | some (.struct fs)=>match fs[f]? with
   | some fd=>match x with
    | .agg cs=>partV P fd.type cs fd.offset
    | _=>none
   | none=>none
 | _=>none
def iaV (P:Program) (t:TypeId) (x i:V):Option V :=
 match P.underlying t with
 | some (.slice e)=>match x,i with
   | .sl b o len _,.int _ n=>if 0≤n∧n < len then (szT P e).bind fun s=>some (.ptr b (o+n.toNat*s)) else none
   | _,_=>none
 | some (.array len e)=>match x,i with
   | .ptr b o,.int _ n=>if 0≤n∧n < len then (szT P e).bind fun s=>some (.ptr b (o+n.toNat*s)) else none
   | _,_=>none
 | _=>none
def ixV (P:Program) (t:TypeId) (x i:V):Option V :=
 match P.underlying t with
 | some (.array len e)=>match x,i with
   | .agg cs,.int _ n=>if 0≤n∧n < len then (szT P e).bind fun s=>partV P e cs (n.toNat*s) else none
   | _,_=>none
 | some .string=>match x,i with
   | .str s,.int _ n=>if 0≤n then (s[n.toNat]?).bind fun c=>some (.int .u8 c.toNat) else none
   | _,_=>none
 | _=>none
def exV (x:V) (i:Nat):Option V :=
 match x with
 | .tup l=>l[i]?
 | _=>none
def lenV (P:Program) (t:TypeId) (x:V):Option V :=
 match P.underlying t with
 | some .string=>match x with | .str s=>some (.int .i64 s.length) | _=>none
 | some (.array n _)=>some (.int .i64 n)
 | some (.slice _)=>match x with
   | .nils=>some (.int .i64 0)
   | .sl _ _ n _=>some (.int .i64 n)
   | _=>none
 | _=>none
def capV (P:Program) (t:TypeId) (x:V):Option V :=
 match P.underlying t with
 | some (.array n _)=>some (.int .i64 n)
 | some (.slice _)=>match x with
   | .nils=>some (.int .i64 0)
   | .sl _ _ _ (.ex n)=>some (.int .i64 n)
   | _=>none
 | _=>none
def min2V:V→V→Option V
 | .int k x,.int k' y=>if k=k' then some (.int k (if y < x then y else x)) else none
 | _,_=>none
def max2V:V→V→Option V
 | .int k x,.int k' y=>if k=k' then some (.int k (if y > x then y else x)) else none
 | _,_=>none
def foldV (f:V→V→Option V):V→List V→Option V
 | x,[]=>some x
 | x,y :: r=>(f x y).bind fun v=>foldV f v r
def minV:List V→Option V
 | []=>none
 | x :: r=>foldV min2V x r
def maxV:List V→Option V
 | []=>none
 | x :: r=>foldV max2V x r
def fillW (cells:List V):List (Option (Nat × Nat) × V)→Option (List V)
 | []=>some cells
 | (some (off,size),v) :: r=>match v.cells with
   | none=>none
   | some vs=>if vs.length=size∧off+size≤cells.length then fillW (splice cells off vs) r else none
 | (none,_) :: _=>none
def fillV (place:Nat→Option (Nat × Nat)) (cells:List V) (parts:List (Nat × V)):Option (List V):=fillW cells (parts.map fun p=>(place p.1,p.2))
def placeS (P:Program) (fs:Array Field) (i:Nat):Option (Nat × Nat):=(fs[i]?).bind fun f=>(szT P f.type).bind fun n=>some (f.offset,n)
def buV (P:Program) (t:TypeId) (parts:List (Nat × V)):Option V :=
 (zeroT P t).bind fun z =>
 match P.underlying t with
 | some (.struct fs)=>if fs.toList.all (fun f=>(szT P f.type).isSome) then (fillV (placeS P fs) z parts).bind fun l=>some (.agg l) else none
 | some (.array _ e)=>(szT P e).bind fun size=>(fillV (fun i=>some (i*size,size)) z parts).bind fun l=>some (.agg l)
 | _=>none
def ev (s:Nat→V):Operand→V
 | .tmp t=>s t
 | .const v=>ofVal v
 | .func f=>.fn (.func f) [] []
 | .global _=>.any
def mkI (P:Program) (t:TypeId) (x:V):Option V :=
 match P.underlying t with
 | some (.interface _)=>none
 | some _=>some (.iface t x)
 | none=>none
def light (P:Program) (s:Nat→V) (h:H):Op→Option V
 | .move x | .assign x=>some (ev s x)
 | .pick c a b=>match ev s c with | .bool x=>some (if x then ev s a else ev s b) | _=>none
 | .load t a=>ldV P t h (ev s a)
 | .nilCheck x=>nilC (ev s x)
 | .binOp op t x y _=>binV P op t (ev s x) (ev s y)
 | .unOp op _ x=>unV op (ev s x)
 | .convert a b x=>cvV P a b (ev s x)
 | .makeFunc f first captured=>some (.fn f (first.toList.map (ev s)) (captured.toList.map (ev s)))
 | .makeInterface t x=>mkI P t (ev s x)
 | .slice t x lo hi mx=>slV P t (ev s x) (lo.map (ev s)) (hi.map (ev s)) (mx.map (ev s))
 | .fieldAddr t x f=>faV P t (ev s x) f
 | .field t x f=>fdV P t (ev s x) f
 | .indexAddr t x i=>iaV P t (ev s x) (ev s i)
 | .index t x i=>ixV P t (ev s x) (ev s i)
 | .extract x i=>exV (ev s x) i
 | .build t parts=>buV P t (parts.toList.map fun p=>(p.1,ev s p.2))
 | .call c=>match c.callee with
   | .builtin .len=>match c.args.toList,c.argTypes.toList with
    | [x],[t]=>lenV P t (ev s x)
    | _,_=>none
   | .builtin .cap=>match c.args.toList,c.argTypes.toList with
    | [x],[t]=>capV P t (ev s x)
    | _,_=>none
   | .builtin .min=>minV (c.args.toList.map (ev s))
   | .builtin .max=>maxV (c.args.toList.map (ev s))
   | _=>none
 | _=>none
def reps:Nat→List V→List V
 | 0,_=>[]
 | n+1,z=>z ++ reps n z
def fresh (P:Program) (s:Nat→V) (h:H):Op→Option (V × H)
 | .alloc e=>(zeroT P e).bind fun z=>some (.ptr h.n 0,h.new (.cells z e false))
 | .box e x=>((ev s x).cells).bind fun l=>some (.ptr h.n 0,h.new (.cells l e false))
 | .buildSlice t len parts=>(elT P t).bind fun e=>(szT P e).bind fun size=>if len*size > 16777216∨zeroOk P e size=false then none else
    (zeroT P e).bind fun z=>(fillV (fun i=>some (i*size,size)) (reps len z) (parts.toList.map fun p=>(p.1,ev s p.2))).bind fun l =>
    some (.sl h.n 0 len (.ex len),h.new (.cells l e false))
 | .makeSlice t len cap=>(elT P t).bind fun e=>(szT P e).bind fun size=>(byT P e).bind fun bytes=>match ev s len,ev s cap with
   | .int _ n,.int _ c=>if 0≤n∧n≤c∧(bytes:Int)*c≤140737488355328∧c < 9223372036854775808∧zeroOk P e size=true then
      (zeroT P e).bind fun z=>some (.sl h.n 0 n.toNat (.ex c.toNat),h.new (.cells (reps c.toNat z) e false)) else none
   | _,_=>none
 | _=>none
def firstV (h:H) (size n:Nat):V→Option (List V)
 | .nils=>some []
 | .sl b o _ _=>h.rdN b o (n*size)
 | .str s=>if size=1 then some ((s.take n).map fun c=>.int .u8 c.toNat) else none
 | _=>none
def lenOf:V→Option Nat
 | .nils=>some 0
 | .sl _ _ n _=>some n
 | .str s=>some s.length
 | _=>none
def apN (e size bytes:Nat) (h:H) (x:V) (n:Nat) (new:List V):Option (V × H) :=
 match x with
 | .nils=>if n=0 then some (.nils,h) else
   if n*bytes≤140737488355328 then some (.sl h.n 0 n (.op size),h.new (.cells new e false)) else none
 | .sl b o len (.ex cap) =>
   if len+n≤cap then (h.wrN b (o+len*size) new).bind fun h'=>some (.sl b o (len+n) (.ex cap),h')
   else if (len+n)*bytes≤140737488355328 then
    (h.rdN b o (len*size)).bind fun old=>some (.sl h.n 0 (len+n) (.op size),h.new (.cells (old ++ new) e false))
   else none
 | .sl b o len (.op z) =>
   if size ≠ z then none else
   if n=0 then some (.sl b o len (.op z),h) else
   if (len+n)*bytes≤140737488355328 then
    match h.get b with
    | some (.cells c e' false)=>if e'=e∧o+len*size≤c.length then
       some (.sl h.n 0 (len+n) (.op size),(h.put b .dead).new (.cells ((c.drop o).take (len*size) ++ new) e false)) else none
    | _=>none
   else none
 | _=>none
def apZ (e size bytes:Nat) (h:H) (x y:V):Option (V × H) :=
 (lenOf y).bind fun n=>(firstV h size n y).bind fun new=>apN e size bytes h x n new
def apM (z:List V) (e size bytes:Nat) (h:H) (x y:V):Option (V × H) :=
 match y with
 | .int _ l=>if 0≤l∧l*(bytes:Int)≤140737488355328 then apN e size bytes h x l.toNat (reps l.toNat z) else none
 | _=>none
def apV (P:Program) (h:H) (t:TypeId) (x y:V):Option (V × H) :=
 (elT P t).bind fun e=>(szT P e).bind fun size=>(byT P e).bind fun bytes=>if size=0∨bytes=0∨zeroOk P e size=false then none else apZ e size bytes h x y
def apMV (P:Program) (h:H) (t:TypeId) (x y:V):Option (V × H) :=
 (elT P t).bind fun e=>(szT P e).bind fun size=>(byT P e).bind fun bytes=>if size=0∨bytes=0∨zeroOk P e size=false then none else (zeroT P e).bind fun z=>apM z e size bytes h x y
def cpZ (size:Nat) (h:H) (x y:V):Option (V × H) :=
 (lenOf y).bind fun m =>
 match x with
 | .nils=>some (.int .i64 0,h)
 | .sl b o len _=>(firstV h size (min m len) y).bind fun new=>(h.wrN b o new).bind fun h'=>some (.int .i64 (min m len:Nat),h')
 | _=>none
def copyV (P:Program) (h:H) (t:TypeId) (x y:V):Option (V × H) :=
 (elT P t).bind fun e=>(szT P e).bind fun size=>cpZ size h x y
def stZ (n:Nat) (h:H) (a v:V):Option (V × H) :=
 match a with
 | .ptr b o=>match v with
   | .agg l=>if n=l.length then (h.wrN b o l).bind fun h'=>some (.und,h') else none
   | .any | .tup _=>none
   | v=>if n=1 then (h.wr1 b o v).bind fun h'=>some (.und,h') else none
 | _=>none
def stV (P:Program) (h:H) (t:TypeId) (a v:V):Option (V × H):=(szT P t).bind fun n=>stZ n h a v
def findI (ks:List Lf) (kc:List V):List (V × V)→Nat→Option (Option (Nat × V))
 | [],_=>some none
 | (.agg ac,v) :: r,i=>if okLs ks ac=true then (if eqLs kc ac=true then some (some (i,v)) else findI ks kc r (i+1)) else none
 | _ :: _,_=>none
def mkM (h:H):Option (V × H):=some (.map h.n,h.new (.map []))
def lkM (ks:List Lf) (z:V) (ok:Bool) (h:H) (m k:V):Option (V × H) :=
 match m,k with
 | .map b,.agg kc=>if okLs ks kc=true then (match h.get b with
    | some (.map es)=>(findI ks kc es 0).bind fun r=>match r with
       | some (_,v)=>some (if ok then .tup [v,.bool true] else v,h)
       | none=>some (if ok then .tup [z,.bool false] else z,h)
    | _=>none) else none
 | _,_=>none
def upM (ks:List Lf) (h:H) (m k v:V):Option (V × H) :=
 match m,k with
 | .map b,.agg kc=>if okLs ks kc=true then (match h.get b with
    | some (.map es)=>(findI ks kc es 0).bind fun r=>match r with
       | some (j,_)=>some (.und,h.put b (.map (es.set j (.agg kc,v))))
       | none=>some (.und,h.put b (.map (es ++ [(.agg kc,v)])))
    | _=>none) else none
 | _,_=>none
def keyT (P:Program) (t:TypeId):Option (TypeId × List Lf) :=
 match P.underlying t with
 | some (.map kt et)=>(aggLf P kt).map fun ks=>(et,ks)
 | _=>none
def zvT (P:Program) (t:TypeId):Option V:=((P.info? t).bind (·.zero)).map ofAtom
def lkV (P:Program) (h:H) (t:TypeId) (m k:V) (ok:Bool):Option (V × H) :=
 (keyT P t).bind fun p=>(zvT P p.1).bind fun z=>lkM p.2 z ok h m k
def upV (P:Program) (h:H) (t:TypeId) (m k v:V):Option (V × H) :=
 (keyT P t).bind fun p=>upM p.2 h m k v
def heavy (P:Program) (s:Nat→V) (h:H):Op→Option (V × H)
 | .makeMap _ none=>mkM h
 | .lookup t m k ok=>lkV P h t (ev s m) (ev s k) ok
 | .mapUpdate t m k x | .insert t m k x=>upV P h t (ev s m) (ev s k) (ev s x)
 | .store t a v=>stV P h t (ev s a) (ev s v)
 | .call c=>match c.callee with
   | .builtin .append=>match c.args.toList,c.argTypes.toList with
    | [x,y],[t,u]=>match P.underlying u with | some (.int _)=>apMV P h t (ev s x) (ev s y) | none=>none | _=>apV P h t (ev s x) (ev s y)
    | _,_=>none
   | .builtin .copy=>match c.args.toList,c.argTypes.toList with
    | [x,y],[t,_]=>copyV P h t (ev s x) (ev s y)
    | _,_=>none
   | _=>none
 | _=>none
inductive Rv where
 | ret (v:V)
 | pan (v:V)
abbrev Oracle:=FuncId→List V→H→Option (Rv × H)
def callV (K:Oracle) (s:Nat→V) (h:H) (c:Call):Option (Rv × H) :=
 match c.callee with
 | .value f=>match ev s f with
   | .fn (.func g) first captured=>K g (first ++ (c.args.toList.map (ev s) ++ captured)) h
   | _=>none
 | _=>none
def panV (x:V) (h:H):Option (Rv × H) :=
 match x with
 | .iface t v=>some (.pan (.iface t v),h)
 | _=>none
def callO (K:Oracle) (s:Nat→V) (h:H):Op→Option (Rv × H)
 | .call c=>callV K s h c
 | .panic x=>panV (ev s x) h
 | _=>none
inductive Kd where
 | light | fresh | heavy | call | none
 deriving DecidableEq
def kind:Op→Kd
 | .move _ | .assign _ | .pick .. | .load .. | .nilCheck _ | .binOp .. | .unOp .. | .convert .. | .makeFunc .. | .makeInterface .. | .slice .. | .fieldAddr .. | .field .. | .indexAddr .. | .index .. | .extract .. | .build ..=>.light
 | .alloc _ | .box .. | .buildSlice .. | .makeSlice ..=>.fresh
 | .store .. | .makeMap .. | .lookup .. | .mapUpdate .. | .insert ..=>.heavy
 | .call c=>match c.callee with
   | .builtin .len | .builtin .cap | .builtin .min | .builtin .max=>.light
   | .builtin .append | .builtin .copy=>.heavy
   | .builtin _=>.none
   | .value _=>.call
   | .invoke ..=>.none
 | .panic _=>.call
 | _=>.none
structure E where
 l:List V
 lt:Nat
 lv:V
inductive Ex where
 | nm
 | ex (id:Nat)
 | rt
 | pn (v:V)
structure St where
 x:Ex
 e:E
 h:H
abbrev Out:=Option St
def bd {α β:Type} (x:Option α) (k:α→Option β):Option β :=
 match x with
 | some v=>k v
 | none=>none
def bf {β:Type} (x:Option (V × H)) (k:V→H→Option β):Option β :=
 match x with
 | some (v,h)=>k v h
 | none=>none
def bk {β:Type} (x:Option (Rv × H)) (pn:V→H→Option β) (k:V→H→Option β):Option β :=
 match x with
 | some (.ret v,h)=>k v h
 | some (.pan v,h)=>pn v h
 | none=>none
def wants (c:V) (want:Bool):Option Bool :=
 match c with
 | .bool b=>some (b == want)
 | .tup []=>some false
 | _=>none
def gl (c:V) (want:Bool) (x:Option V):Option V :=
 match wants c want with
 | some true=>x
 | some false=>some .und
 | none=>none
def gf (c:V) (want:Bool) (h:H) (x:Option (V × H)):Option (V × H) :=
 match wants c want with
 | some true=>x
 | some false=>some (.und,h)
 | none=>none
def gk (c:V) (want:Bool) (h:H) (x:Option (Rv × H)):Option (Rv × H) :=
 match wants c want with
 | some true=>x
 | some false=>some (.ret .und,h)
 | none=>none
def sput (s:Nat→V) (d:Option Nat) (v:V):Nat→V :=
 match d with
 | some d=>fun t=>if t=d then v else s t
 | none=>s
def guardV (ops:Array Oper) (s:Nat→V) (o:Oper):Option (V × Bool) :=
 match o.guard with
 | none=>none
 | some (j,want)=>match (ops[j]?).bind (·.dst) with
   | some d=>some (s d,want)
   | none=>some (.any,want)
def lightG (P:Program) (g:Option (V × Bool)) (s:Nat→V) (h:H) (o:Op):Option V :=
 match g with
 | none=>light P s h o
 | some (c,want)=>gl c want (light P s h o)
def freshG (P:Program) (g:Option (V × Bool)) (s:Nat→V) (h:H) (o:Op):Option (V × H) :=
 match g with
 | none=>fresh P s h o
 | some (c,want)=>gf c want h (fresh P s h o)
def heavyG (P:Program) (g:Option (V × Bool)) (s:Nat→V) (h:H) (o:Op):Option (V × H) :=
 match g with
 | none=>heavy P s h o
 | some (c,want)=>gf c want h (heavy P s h o)
def callG (K:Oracle) (g:Option (V × Bool)) (s:Nat→V) (h:H) (o:Op):Option (Rv × H) :=
 match g with
 | none=>callO K s h o
 | some (x,want)=>gk x want h (callO K s h o)
def op1 (P:Program) (K:Oracle) (ops:Array Oper) (o:Oper) (s:Nat→V) (h:H) {β:Type} (pn:V→H→Option β) (k:(Nat→V)→H→Option β):Option β :=
 match kind o.op with
 | .light=>bd (lightG P (guardV ops s o) s h o.op) fun v=>k (sput s o.dst v) h
 | .fresh=>bf (freshG P (guardV ops s o) s h o.op) fun v h=>k (sput s o.dst v) h
 | .heavy=>bf (heavyG P (guardV ops s o) s h o.op) fun v h=>k (sput s o.dst v) h
 | .call=>bk (callG K (guardV ops s o) s h o.op) pn fun v h=>k (sput s o.dst v) h
 | .none=>none
def opsT (P:Program) (K:Oracle) (all:Array Oper) (pn:V→H→Out) (fin:(Nat→V)→H→Out):List Oper→(Nat→V)→H→Out
 | [],s,h=>fin s h
 | o :: r,s,h=>op1 P K all o s h pn fun s h=>opsT P K all pn fin r s h
mutual
def V.same:V→V→Bool
 | .bool a,.bool b=>a == b
 | .int k a,.int l b=>decide (k=l) && decide (a=b)
 | .float k a,.float l b=>decide (k=l) && decide (a=b)
 | .str a,.str b=>a == b
 | .nilp,.nilp | .nils,.nils | .nilm,.nilm | .nilf,.nilf | .nili,.nili=>true
 | .ptr a b,.ptr c d=>decide (a=c) && decide (b=d)
 | .sl a b c d,.sl e f g i=>decide (a=e) && decide (b=f) && decide (c=g) && decide (d=i)
 | .map a,.map b=>decide (a=b)
 | .fn f a b,.fn g c d=>decide (f=g) && V.sames a c && V.sames b d
 | .iface t a,.iface u b=>decide (t=u) && V.same a b
 | .agg a,.agg b=>V.sames a b
 | .tup a,.tup b=>V.sames a b
 | _,_=>false
def V.sames:List V→List V→Bool
 | [],[]=>true
 | a :: x,b :: y=>V.same a b && V.sames x y
 | _,_=>false
end
def ck {β:Type} (x:Option V) (v:V) (k:Option β):Option β :=
 match x with
 | some u=>if V.same u v then k else none
 | none=>none
structure Plan where
 ord:List Nat
 win:List (Nat × List Nat)
def isHeavy (o:Op):Bool:=match kind o with | .heavy | .call=>true | _=>false
def isFresh (o:Op):Bool:=match kind o with | .fresh=>true | _=>false
def isNone (o:Op):Bool:=match kind o with | .none=>true | _=>false
def isLoad (o:Op):Bool:=match o with | .load ..=>true | _=>false
def opAt (ops:Array Oper) (f:Op→Bool) (i:Nat):Bool:=match ops[i]? with | some o=>f o.op | none=>false
def planOrd (ops:Array Oper) (b:Array Nat):List Nat :=
 let idx:=List.range ops.size
 let hv:=idx.filter (opAt ops isHeavy)
 let r:=hv.foldl (fun (acc:List Nat × Nat) j =>
   let anc:=idx.filter fun i=>(b.getD j 0).testBit i && !acc.2.testBit i
   (acc.1 ++ (anc ++ [j]),(anc ++ [j]).foldl (fun m i=>m ||| 2 ^ i) acc.2)) ([],0)
 r.1 ++ idx.filter fun i=>!r.2.testBit i
def bitAt (b:Array Nat) (j i:Nat):Bool:=(b.getD j 0).testBit i
def winLo (ops:Array Oper) (b:Array Nat) (ord:List Nat) (i:Nat):Nat:=(ord.filter fun j=>opAt ops isHeavy j && bitAt b i j).length
def winHi (ops:Array Oper) (b:Array Nat) (ord:List Nat) (i:Nat):Nat:=(ord.filter fun j=>opAt ops isHeavy j && !bitAt b j i).length
def planWin (ops:Array Oper) (b:Array Nat) (ord:List Nat):List (Nat × List Nat) :=
 ((List.range ops.size).filter (opAt ops isLoad)).map fun i=>(i,(List.range (winHi ops b ord i+1)).filter fun k=>decide (winLo ops b ord i≤k))
def looks (ops:Array Oper) (o:Oper):List Nat :=
 (o.op.operands.toList.filterMap fun | .tmp t=>some t | _=>none) ++
 (
  match o.guard with
  | some (g,_)=>((ops[g]?).bind (·.dst)).toList
  | none=>[])
def planPos (ops:Array Oper) (ord:List Nat) (p:Nat):Bool :=
 match ord[p]? with | some j=>decide (j < ops.size) && ord.idxOf j == p | none=>false
def planOne (ops:Array Oper) (b:Array Nat) (ord:List Nat) (i:Nat):Bool :=
 match ops[i]? with
 | none=>false
 | some o=>ord.contains i && !isNone o.op && (!isLoad o.op || (match o.dst with | some d=>!(looks ops o).contains d | none=>true)) &&
   (match o.guard with | some (g,_)=>bitAt b i g && ((ops[g]?).bind (·.dst)).isSome | none=>true) &&
   o.after.toList.all fun e=>!Region.binds .any e || (bitAt b i e.on && decide (e.on < ops.size))
def planTwo (ops:Array Oper) (b:Array Nat) (ord:List Nat) (i j:Nat):Bool :=
 match ops[i]?,ops[j]? with
 | some o,some p =>
   (!bitAt b i j || (decide (ord.idxOf j < ord.idxOf i) && o.after.toList.any fun e=>Region.binds .any e && (e.on == j || bitAt b e.on j))) &&
   (i == j ||
    (
     (match o.dst with | some d=>p.dst != some d && (!(looks ops p).contains d || bitAt b j i || (bitAt b i j && !isLoad p.op)) | none=>true) &&
     (!isHeavy o.op || !isHeavy p.op || bitAt b i j || bitAt b j i) &&
     (!isFresh o.op || !isHeavy p.op || bitAt b i j || bitAt b j i || decide (ord.idxOf j < ord.idxOf i))))
 | _,_=>false
def planOk (ops:Array Oper) (b:Array Nat) (ord:List Nat):Bool :=
 ord.length == ops.size && (List.range ops.size).all (planPos ops ord) && (List.range ops.size).all (planOne ops b ord) &&
 (List.range ops.size).all fun i=>(List.range ops.size).all (planTwo ops b ord i)
def plan (ops:Array Oper):Option Plan :=
 let b:=Region.before ops
 let ord:=planOrd ops b
 if planOk ops b ord then some ⟨ord,planWin ops b ord⟩ else none
def opsD (P:Program) (K:Oracle) (all:Array Oper) (fin:(Nat→V)→H→List H→Out):List Nat→(Nat→V)→H→List H→Out
 | [],s,h,hs=>fin s h hs
 | i :: r,s,h,hs=>match all[i]? with
   | none=>none
   | some o=>op1 P K all o s h (fun _ _=>none) fun s h=>opsD P K all fin r s h (if isHeavy o.op then h :: hs else hs)
def cks (P:Program) (all:Array Oper) (s:Nat→V) (hs:List H):List (Nat × List Nat)→Out→Out
 | [],k=>k
 | (i,ks) :: r,k=>match all[i]? with
   | none=>none
   | some o=>match o.dst with
    | none=>none
    | some d=>ks.foldr (fun n k=>match hs[n]? with
      | some h=>ck (lightG P (guardV all s o) s h o.op) (s d) k
      | none=>none) (cks P all s hs r k)
def keepE (keep:List Nat) (last:Nat) (s:Nat→V):E:=⟨keep.map s,last,s last⟩
def lkE (keep:List Nat) (l:List V) (t:Nat):V :=
 match keep,l with
 | k :: ks,v :: vs=>if t=k then v else lkE ks vs t
 | _,_=>.any
def E.s (keep:List Nat) (e:E) (t:Nat):V:=if t=e.lt then e.lv else lkE keep e.l t
def fgL (ds:List Nat):List Nat→List V→List V
 | k :: ks,v :: vs=>(if ds.contains k then .any else v) :: fgL ds ks vs
 | _,_=>[]
def fgE (keep ds:List Nat) (e:E):E:=⟨fgL ds keep e.l,e.lt,if ds.contains e.lt then .any else e.lv⟩
def dsts (ops:List Oper):List Nat:=ops.filterMap (·.dst)
def lastD (ops:List Oper):Nat:=match ops.getLast? with | some o=>o.dst.getD 0 | none=>0
def isLight (o:Op):Bool:=match kind o with | .light=>true | _=>false
def isCall (o:Op):Bool:=match kind o with | .call=>true | _=>false
def panAt (ops:Array Oper) (b:Array Nat) (ord:List Nat):Option Nat :=
 match ord.find? (opAt ops isHeavy) with
 | none=>none
 | some j=>if opAt ops isCall j && (match ops[j]? with | some o=>o.guard.isNone | none=>false) && ord.all (fun k=>k == j || bitAt b k j || opAt ops isLight k) then some j else none
def prun (P:Program) (K:Oracle) (all:Array Oper) (sk:Nat→Bool) (j:Nat) (out:V→H→Out) (h:H):List Nat→(Nat→V)→Option (V × H)→Out→Out
 | [],_,r,_=>match r with | some (v,h')=>out v h' | none=>none
 | i :: l,s,r,k=>match all[i]? with
   | none=>none
   | some o=>if i=j then (match r with
      | some _=>none
      | none=>op1 P K all o s h (fun v h'=>prun P K all sk j out h l (sput s o.dst .any) (some (v,h')) k) fun _ _=>k)
    else if sk i then prun P K all sk j out h l (sput s o.dst .any) r k
    else bd (lightG P (guardV all s o) s h o.op) fun v=>prun P K all sk j out h l (sput s o.dst v) r k
def panW (P:Program) (K:Oracle) (keep:List Nat) (ops:Array Oper) (p:Plan) (e:E) (h:H) (k:Out):Out :=
 match panAt ops (Region.before ops) p.ord with
 | none=>k
 | some j=>prun P K ops (fun i=>bitAt (Region.before ops) i j) j (fun v h'=>some ⟨.pn v,fgE keep (dsts ops.toList) e,h'⟩) h p.ord (e.s keep) none k
def rgn (P:Program) (K:Oracle) (keep:List Nat) (ops:Array Oper) (draw:Bool) (e:E) (h:H):Out :=
 if draw then
   match plan ops with
   | none=>none
   | some p=>panW P K keep ops p e h (opsD P K ops (fun s h hs=>cks P ops s hs.reverse p.win (some ⟨.nm,keepE keep (lastD ops.toList) s,h⟩)) p.ord (e.s keep) h [h])
 else opsT P K ops (fun v h=>some ⟨.pn v,fgE keep (dsts ops.toList) e,h⟩) (fun s h=>some ⟨.nm,keepE keep (lastD ops.toList) s,h⟩) ops.toList (e.s keep) h
def sq (x:Out) (k:E→H→Out):Out :=
 match x with
 | some ⟨.nm,e,h⟩=>k e h
 | some r=>some r
 | none=>none
def br (c:V) (a b:Out):Out :=
 match c with
 | .bool true=>a
 | .bool false=>b
 | _=>none
def blk (id:Nat) (x:Out):Out :=
 match x with
 | some ⟨.ex j,e,h⟩=>if j=id then some ⟨.nm,e,h⟩ else some ⟨.ex j,e,h⟩
 | r=>r
abbrev Looper:=(E→H→Out)→E→H→Out
def den (P:Program) (K:Oracle) (L:Looper) (keep:List Nat):Code→E→H→Out
 | .skip,e,h=>some ⟨.nm,e,h⟩
 | .region _ ops draw,e,h=>rgn P K keep ops draw e h
 | .seq a b,e,h=>sq (den P K L keep a e h) fun e h=>den P K L keep b e h
 | .cond c a b,e,h=>br (ev (e.s keep) c) (den P K L keep a e h) (den P K L keep b e h)
 | .block id c,e,h=>blk id (den P K L keep c e h)
 | .loop c,e,h=>L (fun e h=>den P K L keep c e h) e h
 | .exit id,e,h=>some ⟨.ex id,e,h⟩
 | .scope c,e,h=>den P K L keep c e h
 | .label _,e,h=>some ⟨.nm,e,h⟩
 | .ret,e,h=>some ⟨.rt,e,h⟩
 | _,_,_=>none
def loopN:Nat→Looper
 | 0,_,_,_=>none
 | n+1,f,e,h=>sq (f e h) fun e h=>loopN n f e h
def resV (P:Program) (s:Nat→V) (h:H):ResultVar→Option V
 | .tmp t=>some (s t)
 | .cell a t=>ldV P t h (s a)
def resVs (P:Program) (s:Nat→V) (h:H):List ResultVar→Option (List V)
 | []=>some []
 | r :: rs=>bd (resV P s h r) fun v=>bd (resVs P s h rs) fun vs=>some (v :: vs)
def fin1:List V→V
 | [v]=>v
 | vs=>.tup vs
def fin (P:Program) (keep:List Nat) (rs:List ResultVar) (x:Out):Option (Rv × H) :=
 match x with
 | some ⟨.nm,e,h⟩ | some ⟨.rt,e,h⟩=>bd (resVs P (e.s keep) h rs) fun vs=>some (.ret (fin1 vs),h)
 | some ⟨.pn v,_,h⟩=>some (.pan v,h)
 | _=>none
def argE (args:List V) (t:Nat):V:=if t < args.length then args.getD t .any else .und
def entE (keep:List Nat) (args:List V):E:=keepE keep 0 (argE args)
def dstOk (n:Nat):Code→Bool
 | .region _ ops _=>ops.toList.all fun o=>match o.dst with | some d=>decide (d < n) | none=>true
 | .seq a b=>dstOk n a && dstOk n b
 | .cond _ a b=>dstOk n a && dstOk n b
 | .block _ c | .loop c | .scope c=>dstOk n c
 | _=>true
def isGo (fn:Func):Bool:=fn.name != "runtime.NumGoroutine" && (match fn.body with | some c=>dstOk fn.ntmps c | none=>false)
def runF (P:Program) (kp:FuncId→List Nat) (K:Oracle) (L:Looper) (f:FuncId) (args:List V) (h:H):Option (Rv × H) :=
 match P.funcs[f]? with
 | some fn=>match fn.body with
   | some c=>if isGo fn then fin P (kp f) fn.results.toList (den P K L (kp f) c (entE (kp f) args) h) else none
   | none=>none
 | none=>none
def runZ (P:Program) (kp:FuncId→List Nat):Nat→Oracle
 | 0,_,_,_=>none
 | n+1,f,args,h=>runF P kp (runZ P kp n) (loopN (n+1)) f args h
end Go.Zf
