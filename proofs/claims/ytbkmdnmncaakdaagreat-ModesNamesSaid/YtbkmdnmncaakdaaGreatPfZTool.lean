import Derived.Test.YtbkmdnmncaakdaaGreatPfZSimp
import Derived.Test.YtbkmdnmncaakdaaGreatPfZLimW
set_option linter.unusedVariables false
set_option linter.unusedSimpArgs false
namespace Go.Zf
structure Ext(h h':H):Prop where
 n:h.n<=h'.n
 get:∀c,c<h.n->h'.get c=h.get c
theorem Ext.refl(h:H):Ext h h:=⟨Nat.le_refl _,λ_ _=>rfl⟩
variable{a b c:H}
theorem Ext.trans(x:Ext a b)(y:Ext b c):Ext a c:=⟨Nat.le_trans x.n y.n,λi hi=>(y.get i (Nat.lt_of_lt_of_le hi x.n)).trans (x.get i hi)⟩
variable{h h':H}
theorem Ext.new(x:Ext h h')(b:WI):Ext h (h'.new b):=⟨by rw[H.ZP];have:=x.n;omega,λc hc=>by rw[ZR (Nat.lt_of_lt_of_le hc x.n),x.get c hc]⟩
variable{i:Nat}
theorem Ext.put(x:Ext h h')(hi:h.n<=i)(b:WI):Ext h (h'.put i b):=⟨by rw[H.ZJ];exact x.n,λc hc=>by rw[ZX (by omega),x.get c hc]⟩
structure QZ(p q:Nat)(h h':H):Prop where
 n:h.n<=h'.n
 get:∀c,c<p\/q<=c->c<h.n->h'.get c=h.get c
theorem Ext.x(x:Ext h h')(p q:Nat):QZ p q h h':=⟨x.n,λc _ hc=>x.get c hc⟩
theorem QZ.refl(p q:Nat)(h:H):QZ p q h h:=⟨Nat.le_refl _,λ_ _ _=>rfl⟩
variable{p q:Nat}
theorem QZ.trans(x:QZ p q a b)(y:QZ p q b c):QZ p q a c:=⟨Nat.le_trans x.n y.n,λi h1 hi=>(y.get i h1 (Nat.lt_of_lt_of_le hi x.n)).trans (x.get i h1 hi)⟩
theorem QZ.mono{p' q':Nat}(x:QZ p' q' a b)(h1:p<=p')(h2:q'<=q):QZ p q a b:=⟨x.n,λi h1 hi=>x.get i (by omega) hi⟩
theorem QZ.new(x:QZ p q h h')(b:WI):QZ p q h (h'.new b):=⟨by rw[H.ZP];have:=x.n;omega,λc h1 hc=>by rw[ZR (Nat.lt_of_lt_of_le hc x.n),x.get c h1 hc]⟩
theorem QZ.put(x:QZ p q h h')(hi:(p<=i/\i<q)\/h.n<=i)(b:WI):QZ p q h (h'.put i b):=⟨by rw[H.ZJ];exact x.n,λc h1 hc=>by rw[ZX (by omega),x.get c h1 hc]⟩
theorem QA{c:Nat}{x:WI}(e:c=h.n):(h.new x).get c=some x:=by subst e;exact ZY
def RT(Q:V->H->Prop):Option (Rv×H)->Prop
 |some (.ret v,h)=>Q v h
 |_=>False
variable{Q:V->H->Prop}
theorem eZ{x y:Option (Rv×H)}(h:x=y):RT Q x=RT Q y:=by rw[h]
attribute [congr] eZ
theorem RT.elim{x:Option (Rv×H)}(h:RT Q x):∃v h',x=some (.ret v,h')/\Q v h':=by
 unfold RT at h;split at h
 .exact⟨_,_,rfl,h⟩
 .cases h
theorem RT.mono{R:V->H->Prop}{x:Option (Rv×H)}(h:RT Q x)(hq:∀v h',Q v h'->R v h'):RT R x:=by
 obtain⟨v,h',rfl,h2⟩:=h.elim;exact hq _ _ h2
def LS(Inv:Nat->E->H->Prop)(Yn:St->Prop)(n:Nat):Out->Prop
 |some ⟨.nm,e,h⟩=>∃m,m<n/\Inv m e h
 |some s=>Yn s
 |none=>False
theorem eY{Inv:Nat->E->H->Prop}{Yn:St->Prop}{n:Nat}{x y:Out}(h:x=y):LS Inv Yn n x=LS Inv Yn n y:=by rw[h]
attribute [congr] eY
variable{body:E->H->Out}
theorem Zd(Inv:Nat->E->H->Prop)(Yn:St->Prop)(step:∀n e h,Inv n e h->LS Inv Yn n (body e h)):
  ∀n e h,Inv n e h->∃s,ZI body e h=some s/\Yn s:=by
 intro n
 induction n using Nat.strongRecOn with
 |_ n ih =>
  intro e h hi;have hs:=step n e h hi;cases hb:body e h with
  |none=>rw[hb]at hs;exact hs.elim
  |some s =>
   obtain⟨x,e',h'⟩:=s;rw[hb]at hs;cases x with
   |nm =>
    obtain⟨m,h2,h3⟩:=hs;obtain⟨s,k1,k2⟩:=ih m h2 e' h' h3;exact⟨s,by rw[Zi,hb,GV];exact k1,k2⟩
   |_=>exact⟨_,by rw[Zi,hb];rfl,hs⟩
theorem XV{C:Out->Prop}{en:E}{g:H}(Inv:Nat->E->H->Prop)(Yn:St->Prop)(step:∀n e h,Inv n e h->LS Inv Yn n (body e h))(n:Nat)(hi:Inv n en g)(hk:∀s,Yn s->C (some s)):C (ZI body en g):=by
 obtain⟨s,h1,h2⟩:=Zd Inv Yn step n en g hi;rw[h1];exact hk s h2
theorem yK(n:Nat)(v:V):Vu n [v]=List.replicate n v:=by
 induction n with
 |zero=>rfl
 |succ n ih=>rw[Vu,ih];rfl
variable{n:Int}
theorem ZS(h0 : -9223372036854775808<=n)(h1:n<9223372036854775808):IntKind.i64.wrap n=n:=by
 unfold IntKind.wrap;simp[IntKind.bits,IntKind.signed];split<;>omega
theorem wu8(h0:0<=n)(h1:n<256):IntKind.u8.wrap n=n:=by
 unfold IntKind.wrap;simp[IntKind.bits,IntKind.signed];omega
theorem Sp(h0:0<=n)(h1:n<4294967296):IntKind.u32.wrap n=n:=by
 unfold IntKind.wrap;simp[IntKind.bits,IntKind.signed];omega
theorem GU(h0:0<=n)(h1:n<65536):IntKind.u16.wrap n=n:=by
 unfold IntKind.wrap;simp[IntKind.bits,IntKind.signed];omega
theorem eX(h0:0<=n)(h1:n<18446744073709551616):IntKind.u64.wrap n=n:=by
 unfold IntKind.wrap;simp[IntKind.bits,IntKind.signed];omega
@[simp] theorem Bqy(len s b o:Nat)(k:IntKind)(n:Int):Xb len s (.ptr b o) (.int k n)=if 0<=n/\n<len then some (.ptr b (o+n.toNat*s))else none:=rfl
@[simp] theorem Bqx(off n:Nat)(cs:List V):fdn off n (.agg cs)=if off+n<=cs.length then some (.agg ((cs.drop off).take n))else none:=rfl
@[simp] theorem zP(k:IntKind)(a b:Int):Vx [.int k a,.int k b]=some (.int k (if b<a then b else a)):=by simp[Vx,SU,NR]
@[simp] theorem PK(k:IntKind)(a b:Int):Rg [.int k a,.int k b]=some (.int k (if b>a then b else a)):=by simp[Rg,SU,GS]
@[simp] theorem J7(k:IntKind)(n:Int):V.cells (.int k n)=some [.int k n]:=rfl
@[simp] theorem nS(b:Bool):V.cells (.bool b)=some [.bool b]:=rfl
@[simp] theorem kg(b o:Nat):V.cells (.ptr b o)=some [.ptr b o]:=rfl
@[simp] theorem nR:V.cells .Zh=some [.Zh]:=rfl
@[simp] theorem eW(b o n:Nat)(c:J5):V.cells (.sl b o n c)=some [.sl b o n c]:=rfl
@[simp] theorem nQ:V.cells .ZO=some [.ZO]:=rfl
@[simp] theorem eV(f:Fn)(a b:List V):V.cells (.fn f a b)=some [.fn f a b]:=rfl
@[simp] theorem nO:V.cells .Tk=some [.Tk]:=rfl
@[simp] theorem kb(s:List UInt8):V.cells (.str s)=some [.str s]:=rfl
@[simp] theorem ka(l:List V):V.cells (.agg l)=some l:=rfl
@[simp] theorem kq9(h:H)(b o:Nat)(f:Fn)(x y:List V):Zx 1 h (.ptr b o) (.fn f x y)=(h.WO b o (.fn f x y)).bind λh'=>some (.Wz,h'):=rfl
@[simp] theorem eU(h:H)(b o:Nat):Zx 1 h (.ptr b o) .Tk=(h.WO b o .Tk).bind λh'=>some (.Wz,h'):=rfl
@[simp] theorem eT(h:H)(b o:Nat):Zx 1 h (.ptr b o) .Zh=(h.WO b o .Zh).bind λh'=>some (.Wz,h'):=rfl
@[simp] theorem Bqw(n:Nat)(h:H)(b o:Nat)(l:List V):Zx n h (.ptr b o) (.agg l)=if n=l.length then (h.X4 b o l).bind λh'=>some (.Wz,h')else none:=rfl
theorem Kk{β:Type}{x:Option V}{v:V}(k:Option β)(h:x=some v)(hs:V.same v v=true):ck x v k=k:=by simp[ck,h,hs]
theorem Vt(want:Bool)(x:Option V):gl (.Zt []) want x=some (.Zt []):=id rfl
theorem nN(want:Bool)(h:H)(x:Option (Rv×H)):gk (.Zt []) want h x=some (.ret (.Zt []),h):=id rfl
theorem Ww(K:Zs)(g:Nat)(first captured args:List V)(h:H):ti K (.fn (.func g) first captured) args h=K g (first++(args++captured)) h:=id rfl
@[simp] theorem eS(a:Int)(n:Nat):a.fdiv (no_index (OfNat.ofNat n))=a/OfNat.ofNat n:=Int.fdiv_eq_ediv_of_nonneg _ (Int.natCast_nonneg n)
theorem yJ{a b A B:Int}(a0:0<=a)(a1:a<=A)(b0:0<=b)(b1:b<=B):0<=a*b/\a*b<=A*B :=
 ⟨Int.mul_nonneg a0 b0,Int.le_trans (Int.mul_le_mul_of_nonneg_right a1 b0) (Int.mul_le_mul_of_nonneg_left b1 (Int.le_trans a0 a1))⟩
theorem yI(x:Int)(k:Nat)(hk:k<63):IntKind.i64.wrap ((BitVec.ofInt 64 x &&& BitVec.ofInt 64 (2^k-1)).toNat:Int)=x%2^k:=by
 have hp:(2:Nat)^k<2^63:=Nat.pow_lt_pow_right (by omega) hk;have sW:0<(2:Nat)^k:=Nat.two_pow_pos k;have e2:(BitVec.ofInt 64 (2^k-1)).toNat=2^k-1:=by
  rw[BitVec.toNat_ofInt];have:((2:Int)^k-1)=((2^k-1:Nat):Int):=by rw[Int.ofNat_sub sW];simp
  rw[this,Int.emod_eq_of_lt (by omega) (by omega)];simp
 have e1:((BitVec.ofInt 64 x).toNat:Int)=x%2^64:=by
  rw[BitVec.toNat_ofInt];have:0<=x%((2^64:Nat):Int):=Int.emod_nonneg _ (by decide);rw[Int.toNat_of_nonneg this];rfl
 rw[BitVec.toNat_and,e2,Nat.and_two_pow_sub_one_eq_mod];have hd:(2^k:Int) ∣ 2^64:=⟨2^(64-k),by rw[<-Int.pow_add];congr 1;omega⟩
 have e3:(((BitVec.ofInt 64 x).toNat%2^k:Nat):Int)=x%2^k:=by
  rw[Int.natCast_emod,e1];simp only[Int.natCast_pow,Int.cast_ofNat_Int];exact Int.emod_emod_of_dvd x hd
 rw[e3];have hq:(0:Int)<2^k:=by exact_mod_cast sW
 have h0:0<=x%2^k:=Int.emod_nonneg _ (by omega);have h1:x%2^k<2^k:=Int.emod_lt_of_pos _ hq;have h2:(2:Int)^k<2^63:=by exact_mod_cast hp
 exact ZS (by omega) (by omega)
theorem Oz(kd:Nat)(x:Int)(k:Nat)(hk:k<63):ZQ kd .and (.int .i64 x) (.int .i64 (2^k-1))=some (.int .i64 (x%2^k)):=by
 rw[WC];exact congrArg (λx=>some (V.int .i64 x)) (yI x k hk)
end Go.Zf
