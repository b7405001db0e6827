import Derived.Test.YtbkmdnmncaakdaaGreatPbZFast
set_option linter.unusedVariables false
set_option linter.unusedSimpArgs false
namespace Go.Zf
@[simp] theorem bd_some1 {α β:Type} (v:α) (k:α→Option β):bd (some v) k=k v:=id rfl
@[simp] theorem bd_none1 {α β:Type} (k:α→Option β):bd none k=none:=id rfl
@[simp] theorem bf_some1 {β:Type} (v:V) (h:H) (k:V→H→Option β):bf (some (v,h)) k=k v h:=id rfl
@[simp] theorem bk_ret {β:Type} (v:V) (h:H) (pn k:V→H→Option β):bk (some (.ret v,h)) pn k=k v h:=id rfl
@[simp] theorem bk_pan {β:Type} (v:V) (h:H) (pn k:V→H→Option β):bk (some (.pan v,h)) pn k=pn v h:=id rfl
@[simp] theorem bc_ret (keep ds:List Nat) (e:E) (v:V) (h:H) (k:V→H→Out):bc keep ds e (some (.ret v,h)) k=k v h:=id rfl
@[simp] theorem bn_ret (v:V) (h:H) (k:V→H→Out):bn (some (.ret v,h)) k=k v h:=id rfl
@[simp] theorem sq_nm (e:E) (h:H) (k:E→H→Out):sq (some ⟨.nm,e,h⟩) k=k e h:=id rfl
@[simp] theorem sq_rt (e:E) (h:H) (k:E→H→Out):sq (some ⟨.rt,e,h⟩) k=some ⟨.rt,e,h⟩:=id rfl
@[simp] theorem sq_ex (n:Nat) (e:E) (h:H) (k:E→H→Out):sq (some ⟨.ex n,e,h⟩) k=some ⟨.ex n,e,h⟩:=id rfl
@[simp] theorem br_bool (b:Bool) (x y:Out):br (.bool b) x y=if b then x else y:=by cases b <;> rfl
@[simp] theorem blk_nm (n:Nat) (e:E) (h:H):blk n (some ⟨.nm,e,h⟩)=some ⟨.nm,e,h⟩:=id rfl
@[simp] theorem blk_rt (n:Nat) (e:E) (h:H):blk n (some ⟨.rt,e,h⟩)=some ⟨.rt,e,h⟩:=id rfl
@[simp] theorem blk_ex (n m:Nat) (e:E) (h:H):blk n (some ⟨.ex m,e,h⟩)=if m=n then some ⟨.nm,e,h⟩ else some ⟨.ex m,e,h⟩:=id rfl
@[simp] theorem E_s (keep l:List _) (lt:Nat) (lv:V) (t:Nat):E.s keep ⟨l,lt,lv⟩ t=if t=lt then lv else lkE keep l t:=rfl
@[simp] theorem lkE_cons (k:Nat) (ks:List Nat) (v:V) (vs:List V) (t:Nat):lkE (k :: ks) (v :: vs) t=if t=k then v else lkE ks vs t:=rfl
@[simp] theorem fin_nm (P:Program) (keep:List Nat) (rs:List ResultVar) (e:E) (h:H):fin P keep rs (some ⟨.nm,e,h⟩)=bd (resVs P (e.s keep) h rs) fun vs=>some (.ret (fin1 vs),h):=id rfl
@[simp] theorem fin_rt (P:Program) (keep:List Nat) (rs:List ResultVar) (e:E) (h:H):fin P keep rs (some ⟨.rt,e,h⟩)=bd (resVs P (e.s keep) h rs) fun vs=>some (.ret (fin1 vs),h):=id rfl
@[simp] theorem resVs_nil (P:Program) (s:Nat→V) (h:H):resVs P s h []=some []:=rfl
@[simp] theorem resVs_tmp (P:Program) (s:Nat→V) (h:H) (t:Nat) (rs:List ResultVar):resVs P s h (.tmp t :: rs)=bd (resVs P s h rs) fun vs=>some (s t :: vs):=rfl
@[simp] theorem fin1_one (v:V):fin1 [v]=v:=rfl
@[simp] theorem fin1_nil:fin1 []=.tup []:=rfl
@[simp] theorem fin1_more (a b:V) (l:List V):fin1 (a :: b :: l)=.tup (a :: b :: l):=rfl
theorem sq_cg {x y:Out} {k:E→H→Out} (h:x=y):sq x k=sq y k:=by rw [h]
theorem bd_cg {α β:Type} {x y:Option α} {k:α→Option β} (h:x=y):bd x k=bd y k:=by rw [h]
theorem bf_cg {β:Type} {x y:Option (V × H)} {k:V→H→Option β} (h:x=y):bf x k=bf y k:=by rw [h]
theorem bk_cg {β:Type} {x y:Option (Rv × H)} {pn k:V→H→Option β} (h:x=y):bk x pn k=bk y pn k:=by rw [h]
theorem bc_cg {keep ds:List Nat} {e e':E} {x y:Option (Rv × H)} {k:V→H→Out} (he:e=e') (h:x=y):bc keep ds e x k=bc keep ds e' y k:=by rw [h,he]
theorem bn_cg {x y:Option (Rv × H)} {k:V→H→Out} (h:x=y):bn x k=bn y k:=by rw [h]
theorem br_cg {x y:V} {a b:Out} (h:x=y):br x a b=br y a b:=by rw [h]
attribute [congr] sq_cg bd_cg bf_cg bk_cg bc_cg bn_cg br_cg
section ops
variable (kd:Nat) (k l:IntKind) (a b:Int)
@[simp] theorem binK_add:binK kd .add (.int k a) (.int k b)=some (.int k (k.wrap (a+b))):=by simp [binK,binI]
@[simp] theorem binK_sub:binK kd .sub (.int k a) (.int k b)=some (.int k (k.wrap (a - b))):=by simp [binK,binI]
@[simp] theorem binK_mul:binK kd .mul (.int k a) (.int k b)=some (.int k (k.wrap (a*b))):=by simp [binK,binI]
@[simp] theorem binK_quo:binK kd .quo (.int k a) (.int k b)=if b=0 then none else some (.int k (k.wrap (a.tdiv b))):=by simp [binK,binI]
@[simp] theorem binK_rem:binK kd .rem (.int k a) (.int k b)=if b=0 then none else some (.int k (a.tmod b)):=by simp [binK,binI]
@[simp] theorem binK_eql:binK kd .eql (.int k a) (.int k b)=some (.bool (decide (a=b))):=by simp [binK,binI,cmpI];rfl
@[simp] theorem binK_neq:binK kd .neq (.int k a) (.int k b)=some (.bool (!decide (a=b))):=by simp [binK,binI,cmpI];rfl
@[simp] theorem binK_lss:binK kd .lss (.int k a) (.int k b)=some (.bool (decide (a < b))):=by simp [binK,binI,cmpI]
@[simp] theorem binK_leq:binK kd .leq (.int k a) (.int k b)=some (.bool (decide (a≤b))):=by simp [binK,binI,cmpI]
@[simp] theorem binK_gtr:binK kd .gtr (.int k a) (.int k b)=some (.bool (decide (b < a))):=by simp [binK,binI,cmpI]
@[simp] theorem binK_geq:binK kd .geq (.int k a) (.int k b)=some (.bool (decide (b≤a))):=by simp [binK,binI,cmpI]
@[simp] theorem binK_shl:binK kd .shl (.int k a) (.int l b)=if b < 0 then none else some (.int k (k.wrap (a*2 ^ (min b.toNat k.bits)))):=by simp [binK,shI]
@[simp] theorem binK_shr:binK kd .shr (.int k a) (.int l b)=if b < 0 then none else some (.int k (a.fdiv (2 ^ (min b.toNat k.bits)))):=by simp [binK,shI]
@[simp] theorem binK_and:binK kd .and (.int k a) (.int k b)=some (.int k (k.wrap (BitVec.ofInt k.bits a &&& BitVec.ofInt k.bits b).toNat)):=by simp [binK,binI,bitsI]
@[simp] theorem binK_or:binK kd .or (.int k a) (.int k b)=some (.int k (k.wrap (BitVec.ofInt k.bits a ||| BitVec.ofInt k.bits b).toNat)):=by simp [binK,binI,bitsI]
@[simp] theorem binK_xor:binK kd .xor (.int k a) (.int k b)=some (.int k (k.wrap (BitVec.ofInt k.bits a ^^^ BitVec.ofInt k.bits b).toNat)):=by simp [binK,binI,bitsI]
end ops
@[simp] theorem eq_ptr_nil (b o:Nat):binK 2 .eql (.ptr b o) .nilp=some (.bool false):=rfl
@[simp] theorem ne_ptr_nil (b o:Nat):binK 2 .neq (.ptr b o) .nilp=some (.bool true):=rfl
@[simp] theorem eq_nilp_nil:binK 2 .eql .nilp .nilp=some (.bool true):=rfl
@[simp] theorem ne_nilp_nil:binK 2 .neq .nilp .nilp=some (.bool false):=rfl
@[simp] theorem eq_sl_nil (b o n:Nat) (c:Cap):binK 3 .eql (.sl b o n c) .nils=some (.bool false):=rfl
@[simp] theorem ne_sl_nil (b o n:Nat) (c:Cap):binK 3 .neq (.sl b o n c) .nils=some (.bool true):=rfl
@[simp] theorem eq_nils_nil:binK 3 .eql .nils .nils=some (.bool true):=rfl
@[simp] theorem ne_nils_nil:binK 3 .neq .nils .nils=some (.bool false):=rfl
@[simp] theorem eq_bool (a b:Bool):binK 1 .eql (.bool a) (.bool b)=some (.bool (a == b)):=rfl
@[simp] theorem ne_bool (a b:Bool):binK 1 .neq (.bool a) (.bool b)=some (.bool (!(a == b))):=rfl
@[simp] theorem un_not (b:Bool):unV .not (.bool b)=some (.bool !b):=rfl
@[simp] theorem un_neg (k:IntKind) (n:Int):unV .neg (.int k n)=some (.int k (k.wrap (0 - n))):=rfl
@[simp] theorem cv_int (k l:IntKind) (n:Int):cv k (.int l n)=some (.int k (k.wrap n)):=rfl
@[simp] theorem pk_bool (c:Bool) (a b:V):pk (.bool c) a b=some (if c then a else b):=rfl
@[simp] theorem nilC_ptr (b o:Nat):nilC (.ptr b o)=some (.ptr b o):=rfl
@[simp] theorem fa_ptr (f b o:Nat):fa f (.ptr b o)=some (.ptr b (o+f)):=rfl
@[simp] theorem ld_ptr (h:H) (b o:Nat):ld h (.ptr b o)=h.rd1 b o:=rfl
@[simp] theorem ldn_ptr (n:Nat) (h:H) (b o:Nat):ldn n h (.ptr b o)=(h.rdN b o n).bind fun l=>some (.agg l):=rfl
@[simp] theorem fd1_agg (off:Nat) (cs:List V):fd1 off (.agg cs)=cs[off]?:=rfl
@[simp] theorem exV_tup (l:List V) (i:Nat):exV (.tup l) i=l[i]?:=rfl
@[simp] theorem lnS_sl (b o n:Nat) (c:Cap):lnS (.sl b o n c)=some (.int .i64 n):=rfl
@[simp] theorem lnS_nil:lnS .nils=some (.int .i64 0):=rfl
@[simp] theorem iaS_sl (s b o len:Nat) (c:Cap) (k:IntKind) (n:Int):iaS s (.sl b o len c) (.int k n)=if 0≤n∧n < len then some (.ptr b (o+n.toNat*s)) else none:=rfl
theorem stZ_one (h:H) (b o:Nat) (v:V) (hv:v.isCell=true):stZ 1 h (.ptr b o) v=(h.wr1 b o v).bind fun h'=>some (.und,h'):=by
 cases v <;> first | rfl | (simp [V.isCell] at hv)
@[simp] theorem stZ_int (h:H) (b o:Nat) (k:IntKind) (n:Int):stZ 1 h (.ptr b o) (.int k n)=(h.wr1 b o (.int k n)).bind fun h'=>some (.und,h'):=rfl
@[simp] theorem stZ_bool (h:H) (b o:Nat) (x:Bool):stZ 1 h (.ptr b o) (.bool x)=(h.wr1 b o (.bool x)).bind fun h'=>some (.und,h'):=rfl
@[simp] theorem stZ_ptr (h:H) (b o c d:Nat):stZ 1 h (.ptr b o) (.ptr c d)=(h.wr1 b o (.ptr c d)).bind fun h'=>some (.und,h'):=rfl
@[simp] theorem stZ_sl (h:H) (b o c d n:Nat) (x:Cap):stZ 1 h (.ptr b o) (.sl c d n x)=(h.wr1 b o (.sl c d n x)).bind fun h'=>some (.und,h'):=rfl
@[simp] theorem stZ_nils (h:H) (b o:Nat):stZ 1 h (.ptr b o) .nils=(h.wr1 b o .nils).bind fun h'=>some (.und,h'):=rfl
@[simp] theorem wants_bool (b want:Bool):wants (.bool b) want=some (b == want):=rfl
@[simp] theorem wants_und (want:Bool):wants .und want=some false:=rfl
@[simp] theorem gl_true (c:V) (want:Bool) (x:Option V) (h:wants c want=some true):gl c want x=x:=by simp [gl,h]
@[simp] theorem gl_bool (b want:Bool) (x:Option V):gl (.bool b) want x=if b == want then x else some .und:=by unfold gl;simp only [wants_bool];cases b == want <;> rfl
@[simp] theorem gl_und (want:Bool) (x:Option V):gl .und want x=some .und:=rfl
@[simp] theorem gk_bool (b want:Bool) (h:H) (x:Option (Rv × H)):gk (.bool b) want h x=if b == want then x else some (.ret .und,h):=by unfold gk;simp only [wants_bool];cases b == want <;> rfl
@[simp] theorem gk_und (want:Bool) (h:H) (x:Option (Rv × H)):gk .und want h x=some (.ret .und,h):=rfl
@[simp] theorem gf_bool (b want:Bool) (h:H) (x:Option (V × H)):gf (.bool b) want h x=if b == want then x else some (.und,h):=by unfold gf;simp only [wants_bool];cases b == want <;> rfl
@[simp] theorem gf_und (want:Bool) (h:H) (x:Option (V × H)):gf .und want h x=some (.und,h):=rfl
@[simp] theorem ck_int {β:Type} (k:IntKind) (n:Int) (x:Option β):ck (some (.int k n)) (.int k n) x=x:=by simp [ck,V.same]
@[simp] theorem ck_bool {β:Type} (b:Bool) (x:Option β):ck (some (.bool b)) (.bool b) x=x:=by simp [ck,V.same]
@[simp] theorem ck_ptr {β:Type} (b o:Nat) (x:Option β):ck (some (.ptr b o)) (.ptr b o) x=x:=by simp [ck,V.same]
@[simp] theorem ck_sl {β:Type} (b o n:Nat) (c:Cap) (x:Option β):ck (some (.sl b o n c)) (.sl b o n c) x=x:=by simp [ck,V.same]
@[simp] theorem ck_nils {β:Type} (x:Option β):ck (some .nils) .nils x=x:=rfl
@[simp] theorem ck_nilp {β:Type} (x:Option β):ck (some .nilp) .nilp x=x:=rfl
@[simp] theorem V_und_tup:V.und=.tup []:=rfl
theorem rd1_of {h:H} {b o:Nat} {c:List V} {e:Nat} {ro:Bool} (hb:h.get b=some (.cells c e ro)):h.rd1 b o=c[o]?:=by simp [H.rd1,hb]
theorem rdN_of {h:H} {b o n:Nat} {c:List V} {e:Nat} {ro:Bool} (hb:h.get b=some (.cells c e ro)) (hl:o+n≤c.length):h.rdN b o n=some ((c.drop o).take n):=by simp [H.rdN,hb,hl]
theorem wr1_of {h:H} {b o:Nat} {c:List V} {e:Nat} (hb:h.get b=some (.cells c e false)) (hl:o < c.length) (v:V):h.wr1 b o v=some (h.put b (.cells (c.set o v) e false)):=by simp [H.wr1,hb,hl]
theorem wrN_of {h:H} {b o:Nat} {c:List V} {e:Nat} (hb:h.get b=some (.cells c e false)) {vs:List V} (hl:o+vs.length≤c.length):h.wrN b o vs=some (h.put b (.cells (splice c o vs) e false)):=by simp [H.wrN,hb,hl]
theorem get_put_same {h:H} {b:Nat} {x:Blk} (hb:b < h.n):(h.put b x).get b=some x:=by simp [H.get_put,hb]
theorem get_put_ne {h:H} {b c:Nat} {x:Blk} (hc:c ≠ b):(h.put b x).get c=h.get c:=by simp [H.get_put,hc]
theorem get_new_same {h:H} {x:Blk}:(h.new x).get h.n=some x:=by simp [H.get_new]
theorem get_new_lt {h:H} {c:Nat} {x:Blk} (hc:c < h.n):(h.new x).get c=h.get c:=by simp [H.get_new];intro e;omega
end Go.Zf
