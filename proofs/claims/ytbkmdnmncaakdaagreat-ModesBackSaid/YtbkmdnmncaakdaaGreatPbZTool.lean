import Derived.Test.YtbkmdnmncaakdaaGreatPbZSimp
import Derived.Test.YtbkmdnmncaakdaaGreatPbZLimW
set_option linter.unusedVariables false
set_option linter.unusedSimpArgs false
namespace Go.Zf
structure Ext (h h':H):Prop where
 n:h.n≤h'.n
 get:∀ c,c < h.n→h'.get c=h.get c
theorem Ext.refl (h:H):Ext h h:=⟨Nat.le_refl _,fun _ _=>rfl⟩
theorem Ext.trans {a b c:H} (x:Ext a b) (y:Ext b c):Ext a c:=⟨Nat.le_trans x.n y.n,fun i hi=>(y.get i (Nat.lt_of_lt_of_le hi x.n)).trans (x.get i hi)⟩
theorem Ext.new {h h':H} (x:Ext h h') (b:Blk):Ext h (h'.new b):=⟨by rw [H.n_new];have:=x.n;omega,fun c hc=>by rw [get_new_lt (Nat.lt_of_lt_of_le hc x.n),x.get c hc]⟩
theorem Ext.put {h h':H} (x:Ext h h') {i:Nat} (hi:h.n≤i) (b:Blk):Ext h (h'.put i b):=⟨by rw [H.n_put];exact x.n,fun c hc=>by rw [get_put_ne (by omega),x.get c hc]⟩
structure ExtX (p q:Nat) (h h':H):Prop where
 n:h.n≤h'.n
 get:∀ c,c < p∨q≤c→c < h.n→h'.get c=h.get c
theorem Ext.x {h h':H} (x:Ext h h') (p q:Nat):ExtX p q h h':=⟨x.n,fun c _ hc=>x.get c hc⟩
theorem ExtX.refl (p q:Nat) (h:H):ExtX p q h h:=⟨Nat.le_refl _,fun _ _ _=>rfl⟩
theorem ExtX.trans {p q:Nat} {a b c:H} (x:ExtX p q a b) (y:ExtX p q b c):ExtX p q a c:=⟨Nat.le_trans x.n y.n,fun i h1 hi=>(y.get i h1 (Nat.lt_of_lt_of_le hi x.n)).trans (x.get i h1 hi)⟩
theorem ExtX.mono {p q p' q':Nat} {a b:H} (x:ExtX p' q' a b) (h1:p≤p') (h2:q'≤q):ExtX p q a b:=⟨x.n,fun i h1 hi=>x.get i (by omega) hi⟩
theorem ExtX.new {p q:Nat} {h h':H} (x:ExtX p q h h') (b:Blk):ExtX p q h (h'.new b):=⟨by rw [H.n_new];have:=x.n;omega,fun c h1 hc=>by rw [get_new_lt (Nat.lt_of_lt_of_le hc x.n),x.get c h1 hc]⟩
theorem ExtX.put {p q:Nat} {h h':H} (x:ExtX p q h h') {i:Nat} (hi:(p≤i∧i < q)∨h.n≤i) (b:Blk):ExtX p q h (h'.put i b):=⟨by rw [H.n_put];exact x.n,fun c h1 hc=>by rw [get_put_ne (by omega),x.get c h1 hc]⟩
theorem get_new_eq {h:H} {c:Nat} {x:Blk} (e:c=h.n):(h.new x).get c=some x:=by subst e;exact get_new_same
def RT (Q:V→H→Prop):Option (Rv × H)→Prop
 | some (.ret v,h)=>Q v h
 | _=>False
theorem RT_cg {Q:V→H→Prop} {x y:Option (Rv × H)} (h:x=y):RT Q x=RT Q y:=by rw [h]
attribute [congr] RT_cg
theorem RT.elim {Q:V→H→Prop} {x:Option (Rv × H)} (h:RT Q x):∃ v h',x=some (.ret v,h')∧Q v h':=by
 unfold RT at h;split at h
 ·exact ⟨_,_,rfl,h⟩
 ·cases h
theorem RT.mono {Q R:V→H→Prop} {x:Option (Rv × H)} (h:RT Q x) (hq:∀ v h',Q v h'→R v h'):RT R x:=by
 obtain ⟨v,h',rfl,h2⟩:=h.elim;exact hq _ _ h2
def LS (Inv:Nat→E→H→Prop) (Post:St→Prop) (n:Nat):Out→Prop
 | some ⟨.nm,e,h⟩=>∃ m,m < n∧Inv m e h
 | some s=>Post s
 | none=>False
theorem LS_cg {Inv:Nat→E→H→Prop} {Post:St→Prop} {n:Nat} {x y:Out} (h:x=y):LS Inv Post n x=LS Inv Post n y:=by rw [h]
attribute [congr] LS_cg
theorem loop_run {body:E→H→Out} (Inv:Nat→E→H→Prop) (Post:St→Prop) (step:∀ n e h,Inv n e h→LS Inv Post n (body e h)) :
  ∀ n e h,Inv n e h→∃ s,loopZ body e h=some s∧Post s:=by
 intro n
 induction n using Nat.strongRecOn with
 | _ n ih =>
  intro e h hi
  have hs:=step n e h hi
  cases hb:body e h with
  | none=>rw [hb] at hs;exact hs.elim
  | some s =>
   obtain ⟨x,e',h'⟩:=s
   rw [hb] at hs
   cases x with
   | nm =>
    obtain ⟨m,h2,h3⟩:=hs
    obtain ⟨s,k1,k2⟩:=ih m h2 e' h' h3
    exact ⟨s,by rw [loopZ_eq,hb,sq_nm];exact k1,k2⟩
   | _=>exact ⟨_,by rw [loopZ_eq,hb];rfl,hs⟩
theorem loop_in {C:Out→Prop} {body:E→H→Out} {en:E} {g:H} (Inv:Nat→E→H→Prop) (Post:St→Prop) (step:∀ n e h,Inv n e h→LS Inv Post n (body e h)) (n:Nat) (hi:Inv n en g) (hk:∀ s,Post s→C (some s)):C (loopZ body en g):=by
 obtain ⟨s,h1,h2⟩:=loop_run Inv Post step n en g hi
 rw [h1];exact hk s h2
theorem reps_one (n:Nat) (v:V):reps n [v]=List.replicate n v:=by
 induction n with
 | zero=>rfl
 | succ n ih=>rw [reps,ih];rfl
theorem wi64 {n:Int} (h0 : -9223372036854775808≤n) (h1:n < 9223372036854775808):IntKind.i64.wrap n=n:=by
 unfold IntKind.wrap;simp [IntKind.bits,IntKind.signed];split <;> omega
theorem wu8 {n:Int} (h0:0≤n) (h1:n < 256):IntKind.u8.wrap n=n:=by
 unfold IntKind.wrap;simp [IntKind.bits,IntKind.signed];omega
theorem wu32 {n:Int} (h0:0≤n) (h1:n < 4294967296):IntKind.u32.wrap n=n:=by
 unfold IntKind.wrap;simp [IntKind.bits,IntKind.signed];omega
theorem wu16 {n:Int} (h0:0≤n) (h1:n < 65536):IntKind.u16.wrap n=n:=by
 unfold IntKind.wrap;simp [IntKind.bits,IntKind.signed];omega
theorem wu64 {n:Int} (h0:0≤n) (h1:n < 18446744073709551616):IntKind.u64.wrap n=n:=by
 unfold IntKind.wrap;simp [IntKind.bits,IntKind.signed];omega
@[simp] theorem iaA_ptr (len s b o:Nat) (k:IntKind) (n:Int):iaA len s (.ptr b o) (.int k n)=if 0≤n∧n < len then some (.ptr b (o+n.toNat*s)) else none:=rfl
@[simp] theorem fdn_agg (off n:Nat) (cs:List V):fdn off n (.agg cs)=if off+n≤cs.length then some (.agg ((cs.drop off).take n)) else none:=rfl
@[simp] theorem minV2 (k:IntKind) (a b:Int):minV [.int k a,.int k b]=some (.int k (if b < a then b else a)):=by simp [minV,foldV,min2V]
@[simp] theorem maxV2 (k:IntKind) (a b:Int):maxV [.int k a,.int k b]=some (.int k (if b > a then b else a)):=by simp [maxV,foldV,max2V]
@[simp] theorem cells_int (k:IntKind) (n:Int):V.cells (.int k n)=some [.int k n]:=rfl
@[simp] theorem cells_bool (b:Bool):V.cells (.bool b)=some [.bool b]:=rfl
@[simp] theorem cells_ptr (b o:Nat):V.cells (.ptr b o)=some [.ptr b o]:=rfl
@[simp] theorem cells_nilp:V.cells .nilp=some [.nilp]:=rfl
@[simp] theorem cells_sl (b o n:Nat) (c:Cap):V.cells (.sl b o n c)=some [.sl b o n c]:=rfl
@[simp] theorem cells_nils:V.cells .nils=some [.nils]:=rfl
@[simp] theorem cells_fn (f:Fn) (a b:List V):V.cells (.fn f a b)=some [.fn f a b]:=rfl
@[simp] theorem cells_nilf:V.cells .nilf=some [.nilf]:=rfl
@[simp] theorem cells_str (s:List UInt8):V.cells (.str s)=some [.str s]:=rfl
@[simp] theorem cells_agg (l:List V):V.cells (.agg l)=some l:=rfl
@[simp] theorem stZ_fn (h:H) (b o:Nat) (f:Fn) (x y:List V):stZ 1 h (.ptr b o) (.fn f x y)=(h.wr1 b o (.fn f x y)).bind fun h'=>some (.und,h'):=rfl
@[simp] theorem stZ_nilf (h:H) (b o:Nat):stZ 1 h (.ptr b o) .nilf=(h.wr1 b o .nilf).bind fun h'=>some (.und,h'):=rfl
@[simp] theorem stZ_nilp (h:H) (b o:Nat):stZ 1 h (.ptr b o) .nilp=(h.wr1 b o .nilp).bind fun h'=>some (.und,h'):=rfl
@[simp] theorem stZ_agg (n:Nat) (h:H) (b o:Nat) (l:List V):stZ n h (.ptr b o) (.agg l)=if n=l.length then (h.wrN b o l).bind fun h'=>some (.und,h') else none:=rfl
theorem ck_eq {β:Type} {x:Option V} {v:V} (k:Option β) (h:x=some v) (hs:V.same v v=true):ck x v k=k:=by simp [ck,h,hs]
theorem gl_t (want:Bool) (x:Option V):gl (.tup []) want x=some (.tup []):=id rfl
theorem gk_t (want:Bool) (h:H) (x:Option (Rv × H)):gk (.tup []) want h x=some (.ret (.tup []),h):=id rfl
theorem cdy_fn (K:Oracle) (g:Nat) (first captured args:List V) (h:H):cdy K (.fn (.func g) first captured) args h=K g (first ++ (args ++ captured)) h:=id rfl
@[simp] theorem fdiv_lit (a:Int) (n:Nat):a.fdiv (no_index (OfNat.ofNat n))=a / OfNat.ofNat n:=Int.fdiv_eq_ediv_of_nonneg _ (Int.natCast_nonneg n)
theorem mul_bd {a b A B:Int} (a0:0≤a) (a1:a≤A) (b0:0≤b) (b1:b≤B):0≤a*b∧a*b≤A*B :=
 ⟨Int.mul_nonneg a0 b0,Int.le_trans (Int.mul_le_mul_of_nonneg_right a1 b0) (Int.mul_le_mul_of_nonneg_left b1 (Int.le_trans a0 a1))⟩
theorem and_mask (x:Int) (k:Nat) (hk:k < 63):IntKind.i64.wrap ((BitVec.ofInt 64 x &&& BitVec.ofInt 64 (2 ^ k - 1)).toNat:Int)=x % 2 ^ k:=by
 have hp:(2:Nat) ^ k < 2 ^ 63:=Nat.pow_lt_pow_right (by omega) hk
 have hp0:0 < (2:Nat) ^ k:=Nat.two_pow_pos k
 have e2:(BitVec.ofInt 64 (2 ^ k - 1)).toNat=2 ^ k - 1:=by
  rw [BitVec.toNat_ofInt]
  have:((2:Int) ^ k - 1)=((2 ^ k - 1:Nat):Int):=by rw [Int.ofNat_sub hp0];simp
  rw [this,Int.emod_eq_of_lt (by omega) (by omega)]
  simp
 have e1:((BitVec.ofInt 64 x).toNat:Int)=x % 2 ^ 64:=by
  rw [BitVec.toNat_ofInt]
  have:0≤x % ((2 ^ 64:Nat):Int):=Int.emod_nonneg _ (by decide)
  rw [Int.toNat_of_nonneg this];rfl
 rw [BitVec.toNat_and,e2,Nat.and_two_pow_sub_one_eq_mod]
 have hd:(2 ^ k:Int) ∣ 2 ^ 64:=⟨2 ^ (64 - k),by rw [← Int.pow_add];congr 1;omega⟩
 have e3:(((BitVec.ofInt 64 x).toNat % 2 ^ k:Nat):Int)=x % 2 ^ k:=by
  rw [Int.natCast_emod,e1]
  simp only [Int.natCast_pow,Int.cast_ofNat_Int]
  exact Int.emod_emod_of_dvd x hd
 rw [e3]
 have hq:(0:Int) < 2 ^ k:=by exact_mod_cast hp0
 have h0:0≤x % 2 ^ k:=Int.emod_nonneg _ (by omega)
 have h1:x % 2 ^ k < 2 ^ k:=Int.emod_lt_of_pos _ hq
 have h2:(2:Int) ^ k < 2 ^ 63:=by exact_mod_cast hp
 exact wi64 (by omega) (by omega)
theorem binK_mask (kd:Nat) (x:Int) (k:Nat) (hk:k < 63):binK kd .and (.int .i64 x) (.int .i64 (2 ^ k - 1))=some (.int .i64 (x % 2 ^ k)):=by
 rw [binK_and];exact congrArg (fun x=>some (V.int .i64 x)) (and_mask x k hk)
end Go.Zf
