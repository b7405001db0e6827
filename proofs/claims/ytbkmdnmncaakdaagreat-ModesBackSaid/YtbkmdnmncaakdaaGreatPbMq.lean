import Derived.Test.YtbkmdnmncaakdaaGreatPbMp
import Derived.Test.YtbkmdnmncaakdaaGreatPbZNest
set_option linter.unusedVariables false
set_option linter.unusedSimpArgs false
set_option maxRecDepth 20000
namespace Go.Proofs.YtbkmdnmncaakdaaGreat
open Go Go.Zf
open Go.Zf (wi64)
inductive Pr (α:Type) where
  | done (a:α)
  | stop
  | sym (k c:Nat) (v:Int) (f:Nat→Pr α)
  | num (n:Nat) (v:Int) (f:Nat→Pr α)
namespace Pr
variable {α β:Type}
def bind:Pr α→(α→Pr β)→Pr β
  | .done a,g=>g a
  | .stop,_=>.stop
  | .sym k c v f,g=>.sym k c v fun x=>(f x).bind g
  | .num n v f,g=>.num n v fun x=>(f x).bind g
def exec:Pr α→St→Option α × St
  | .done a,st=>(some a,st)
  | .stop,st=>(none,st)
  | .sym k c v f,st=>(f (st.symV k c v)).exec (st.sym k c v)
  | .num n v f,st=>(f (st.numV n v.toNat)).exec (st.num n v.toNat)
theorem exec_bind (g:α→Pr β):∀ (p:Pr α) (st:St),(p.bind g).exec st=match p.exec st with
   | (some a,st')=>(g a).exec st'
   | (none,st')=>(none,st')
  | .done a,st=>rfl
  | .stop,st=>rfl
  | .sym k c v f,st=>exec_bind g (f (st.symV k c v)) (st.sym k c v)
  | .num n v f,st=>exec_bind g (f (st.numV n v.toNat)) (st.num n v.toNat)
theorem exec_num (n:Nat) (v:Int) (f:Nat→Pr α) (st:St):(Pr.num n v f).exec st=(f (st.numV n v.toNat)).exec (st.num n v.toNat):=rfl
theorem exec_sym (k c:Nat) (v:Int) (f:Nat→Pr α) (st:St):(Pr.sym k c v f).exec st=(f (st.symV k c v)).exec (st.sym k c v):=rfl
theorem exec_done (a:α) (st:St):(Pr.done a).exec st=(some a,st):=rfl
theorem exec_some {p:Pr α} {g:α→Pr β} {st st':St} {a:α} (h:p.exec st=(some a,st')):(p.bind g).exec st=(g a).exec st':=by rw [exec_bind,h]
theorem exec_none {p:Pr α} {g:α→Pr β} {st st':St} (h:p.exec st=(none,st')):(p.bind g).exec st=(none,st'):=by rw [exec_bind,h]
end Pr
def imin (a b:Int):Int:=if b < a then b else a
def imax (a b:Int):Int:=if b > a then b else a
theorem minV_i (k:IntKind) (a b:Int):minV [.int k a,.int k b]=some (.int k (imin a b)):=minV2 k a b
theorem maxV_i (k:IntKind) (a b:Int):maxV [.int k a,.int k b]=some (.int k (imax a b)):=maxV2 k a b
theorem imin_b (a b:Int):imin a b≤a∧imin a b≤b∧(imin a b=a∨imin a b=b):=by unfold imin;split <;> omega
theorem imax_b (a b:Int):a≤imax a b∧b≤imax a b∧(imax a b=a∨imax a b=b):=by unfold imax;split <;> omega
def flg (b:Bool):Int:=if b then 1 else 0
def iabs (a:Int):Int:=imax a (-a)
theorem iabs_b (a:Int):0≤iabs a∧(iabs a=a∨iabs a = -a)∧a≤iabs a ∧ -a≤iabs a:=by have:=imax_b a (-a);unfold iabs;omega
structure BD where
  size:Nat
  n:Nat
  colour:Nat
  sign:Nat
  ord:List Nat
  src:List Int
  wr:Bool
open Go.Zf (wi64)
theorem log2_of {x k:Nat} (h1:2 ^ k≤x) (h2:x < 2 ^ (k+1)):Nat.log2 x=k:=by
  have hx:x ≠ 0:=by have:=Nat.two_pow_pos k;omega
  have a:=(Nat.le_log2 hx (k:=k)).2 h1
  have b:=(Nat.log2_lt hx (k:=k+1)).2 h2
  omega
theorem log2_b {x:Nat} (hx:x ≠ 0):2 ^ Nat.log2 x≤x∧x < 2 ^ (Nat.log2 x+1):=⟨(Nat.le_log2 hx).1 (Nat.le_refl _),(Nat.log2_lt hx).1 (Nat.lt_succ_self _)⟩
theorem log2_div {x k:Nat} (h:2 ^ k≤x):Nat.log2 (x / 2 ^ k)+k=Nat.log2 x:=by
  have hx:x ≠ 0:=by have:=Nat.two_pow_pos k;omega
  have hp:=Nat.two_pow_pos k
  have hy:x / 2 ^ k ≠ 0:=by
   have:=(Nat.le_div_iff_mul_le hp (x:=1) (y:=x)).2 (by omega)
   omega
  have hb:=log2_b hy
  refine (log2_of ?_ ?_).symm
  ·rw [Nat.pow_add];exact (Nat.le_div_iff_mul_le hp).1 hb.1
  ·rw [show Nat.log2 (x / 2 ^ k)+k+1=(Nat.log2 (x / 2 ^ k)+1)+k by omega,Nat.pow_add];exact (Nat.div_lt_iff_lt_mul hp).1 hb.2
def lenL:List UInt8:=[0,1,2,2,3,3,3,3,4,4,4,4,4,4,4,4,5,5,5,5,5,5,5,5,5,5,5,5,5,5,5,5,6,6,6,6,6,6,6,6,6,6,6,6,6,6,6,6,6,6,6,6,6,6,6,6,6,6,6,6,6,6,6,6,7,7,7,7,7,7,7,7,7,7,7,7,7,7,7,7,7,7,7,7,7,7,7,7,7,7,7,7,7,7,7,7,7,7,7,7,7,7,7,7,7,7,7,7,7,7,7,7,7,7,7,7,7,7,7,7,7,7,7,7,7,7,7,7,8,8,8,8,8,8,8,8,8,8,8,8,8,8,8,8,8,8,8,8,8,8,8,8,8,8,8,8,8,8,8,8,8,8,8,8,8,8,8,8,8,8,8,8,8,8,8,8,8,8,8,8,8,8,8,8,8,8,8,8,8,8,8,8,8,8,8,8,8,8,8,8,8,8,8,8,8,8,8,8,8,8,8,8,8,8,8,8,8,8,8,8,8,8,8,8,8,8,8,8,8,8,8,8,8,8,8,8,8,8,8,8,8,8,8,8,8,8,8,8,8,8,8,8,8,8,8,8]
theorem lenL_map:lenL.map (fun c=>c.toNat)=(List.range 256).map (fun x=>if x=0 then 0 else Nat.log2 x+1):=by kernel_rfl
theorem lenL_at {x:Nat} (h0:x ≠ 0) (hx:x < 256):ixS (.str lenL) (.int .u8 (x:Nat))=some (.int .u8 (Nat.log2 x+1:Nat)):=by
  have h1:(lenL.map (fun c=>c.toNat))[x]?=some (Nat.log2 x+1):=by rw [lenL_map];simp [hx,h0]
  rw [List.getElem?_map] at h1
  obtain ⟨c,hc,h2⟩:=Option.map_eq_some_iff.1 h1
  simp [ixS,hc,h2]
theorem wu8n {n:Nat} (h:n < 256):IntKind.u8.wrap (n:Int)=n:=wu8 (by omega) (by omega)
noncomputable def s168' (K:Oracle) (L:Looper) (e:E) (h:H):Out :=
 sq (some ⟨.nm,⟨[(e.s k168 0),(.int .i64 0)],2,(.int .i64 0)⟩,h⟩) fun e h =>
 sq (sq (bd (binK 0 .geq (e.s k168 0) (.int .u64 4294967296)) fun t4 =>
 some ⟨.nm,ux168 e 4 t4,h⟩) fun e h =>
 br (e.s k168 4) (sq (bd (binK 0 .shr (e.s k168 0) (.int .u64 32)) fun t6 =>
 some ⟨.nm,⟨[t6,(e.s k168 2)],0,t6⟩,h⟩) fun e h =>
 some ⟨.nm,⟨[(e.s k168 0),(.int .i64 32)],2,(.int .i64 32)⟩,h⟩)
 (some ⟨.nm,e,h⟩)) fun e h =>
 sq (sq (bd (binK 0 .geq (e.s k168 0) (.int .u64 65536)) fun t8 =>
 some ⟨.nm,ux168 e 8 t8,h⟩) fun e h =>
 br (e.s k168 8) (sq (bd (binK 0 .shr (e.s k168 0) (.int .u64 16)) fun t10 =>
 some ⟨.nm,⟨[t10,(e.s k168 2)],0,t10⟩,h⟩) fun e h =>
 bd (binK 0 .add (e.s k168 2) (.int .i64 16)) fun t12 =>
 some ⟨.nm,⟨[(e.s k168 0),t12],2,t12⟩,h⟩)
 (some ⟨.nm,e,h⟩)) fun e h =>
 sq (sq (bd (binK 0 .geq (e.s k168 0) (.int .u64 256)) fun t14 =>
 some ⟨.nm,ux168 e 14 t14,h⟩) fun e h =>
 br (e.s k168 14) (sq (bd (binK 0 .shr (e.s k168 0) (.int .u64 8)) fun t16 =>
 some ⟨.nm,⟨[t16,(e.s k168 2)],0,t16⟩,h⟩) fun e h =>
 bd (binK 0 .add (e.s k168 2) (.int .i64 8)) fun t18 =>
 some ⟨.nm,⟨[(e.s k168 0),t18],2,t18⟩,h⟩)
 (some ⟨.nm,e,h⟩)) fun e h =>
 sq (bd (cv .u8 (e.s k168 0)) fun t21 =>
 bd (ixS (.str lenL) t21) fun t22 =>
 bd (cv .i64 t22) fun t23 =>
 bd (binK 0 .add (e.s k168 2) t23) fun t24 =>
 some ⟨.nm,⟨[(e.s k168 0),t24],2,t24⟩,h⟩) fun e h =>
 some ⟨.rt,e,h⟩
theorem s72_e:s168=s168':=by kernel_rfl
theorem len72_ok {x:Nat} (h0:x ≠ 0) (hx:x < 4294967296) (h:H):KW 168 [.int .u64 x] h=some (.ret (.int .i64 (Nat.log2 x+1:Nat)),h):=by
  have hl:Nat.log2 x < 32:=(Nat.log2_lt h0).2 hx
  have z:∀ m:Nat,m < 64→IntKind.i64.wrap ((m:Int))=m:=fun m hm=>wi64 (by omega) (by omega)
  rw [w168,f168,s72_e,s168']
  have key:∀ (x n:Nat) (e:Int),x ≠ 0→x < 256→n+Nat.log2 x < 64→e=n→IntKind.i64.wrap (e+IntKind.i64.wrap ((Nat.log2 x+1:Nat):Int))=((n+(Nat.log2 x+1):Nat):Int):=by
   intro x n e h0 h1 h2 he
   subst he
   have q:IntKind.i64.wrap ((Nat.log2 x+1:Nat):Int)=((Nat.log2 x+1:Nat):Int):=wi64 (by omega) (by omega)
   rw [q,wi64 (by omega) (by omega)]
   omega
  have tab:∀ x:Nat,x ≠ 0→x < 256→ixS (.str lenL) (.int .u8 (x:Nat))=some (.int .u8 (Nat.log2 x+1:Nat)):=fun x h0 hx=>lenL_at h0 hx
  have e0:decide ((4294967296:Int)≤(x:Int))=false:=by simp;omega
  by_cases c1:65536≤x
  ·have d1:(x:Int) / 65536=((x / 65536:Nat):Int):=by omega
   have l1:=log2_div (x:=x) (k:=16) c1
   have n1:x / 65536 ≠ 0:=by omega
   obtain ⟨y,hy⟩:∃ y,y=x / 65536:=⟨_,rfl⟩
   rw [← hy] at d1 n1
   have hy2:y < 65536:=by omega
   rw [show x / 2 ^ 16=y by rw [hy]] at l1
   by_cases c2:256≤y
   ·have d2:(y:Int) / 256=((y / 256:Nat):Int):=by omega
    have l2:=log2_div (x:=y) (k:=8) c2
    obtain ⟨u,hu⟩:∃ u,u=y / 256:=⟨_,rfl⟩
    rw [← hu] at d2
    rw [show y / 2 ^ 8=u by rw [hu]] at l2
    have hu0:u ≠ 0:=by omega
    have hu1:u < 256:=by omega
    have k1:=key u 24 24 hu0 hu1 (by omega) rfl
    have t1:=tab u hu0 hu1
    have w1:=wu8n hu1
    have z16:IntKind.i64.wrap (16:Int)=16:=by decide
    have z24:IntKind.i64.wrap (24:Int)=24:=by decide
    have fin:((24+(Nat.log2 u+1):Nat):Int)=((Nat.log2 x+1:Nat):Int):=by omega
    simp [e0,show (4294967296:Int)≤(x:Int) ↔ False by simp;omega,show (65536:Int)≤(x:Int) by omega,IntKind.bits,d1,show (256:Int)≤(y:Int) by omega,d2,w1,t1,z16,z24,-Int.natCast_add,k1,fin]
   ·have hy1:y < 256:=by omega
    have k1:=key y 16 16 n1 hy1 (by omega) rfl
    have t1:=tab y n1 hy1
    have w1:=wu8n hy1
    have z16:IntKind.i64.wrap (16:Int)=16:=by decide
    have fin:((16+(Nat.log2 y+1):Nat):Int)=((Nat.log2 x+1:Nat):Int):=by omega
    simp [e0,show (4294967296:Int)≤(x:Int) ↔ False by simp;omega,show (65536:Int)≤(x:Int) by omega,IntKind.bits,d1,show ¬ (256:Int)≤(y:Int) by omega,w1,t1,z16,-Int.natCast_add,k1,fin]
  ·by_cases c2:256≤x
   ·have d2:(x:Int) / 256=((x / 256:Nat):Int):=by omega
    have l2:=log2_div (x:=x) (k:=8) c2
    obtain ⟨u,hu⟩:∃ u,u=x / 256:=⟨_,rfl⟩
    rw [← hu] at d2
    rw [show x / 2 ^ 8=u by rw [hu]] at l2
    have hu0:u ≠ 0:=by omega
    have hu1:u < 256:=by omega
    have k1:=key u 8 8 hu0 hu1 (by omega) rfl
    have t1:=tab u hu0 hu1
    have w1:=wu8n hu1
    have z8:IntKind.i64.wrap (8:Int)=8:=by decide
    have fin:((8+(Nat.log2 u+1):Nat):Int)=((Nat.log2 x+1:Nat):Int):=by omega
    simp [e0,show (4294967296:Int)≤(x:Int) ↔ False by simp;omega,show ¬ (65536:Int)≤(x:Int) by omega,IntKind.bits,show (256:Int)≤(x:Int) by omega,d2,w1,t1,z8,-Int.natCast_add,k1,fin]
   ·have hy1:x < 256:=by omega
    have k1:IntKind.i64.wrap ((Nat.log2 x+1:Nat):Int)=((Nat.log2 x+1:Nat):Int):=wi64 (by omega) (by omega)
    have t1:=tab x h0 hy1
    have w1:=wu8n hy1
    have fin:((0+(Nat.log2 x+1):Nat):Int)=((Nat.log2 x+1:Nat):Int):=by omega
    simp [e0,show (4294967296:Int)≤(x:Int) ↔ False by simp;omega,show ¬ (65536:Int)≤(x:Int) by omega,IntKind.bits,show ¬ (256:Int)≤(x:Int) by omega,w1,t1,-Int.natCast_add,k1]
theorem len63_ok {x:Nat} (h0:x ≠ 0) (hx:x < 4294967296) (h:H):KW 143 [.int .u64 x] h=some (.ret (.int .i64 (Nat.log2 x+1:Nat)),h):=by
  rw [w143,f143,s143]
  simp [len72_ok h0 hx h]
theorem two_pow_cast (k:Nat):((2 ^ k:Nat):Int)=2 ^ k:=by simp
open Go.Zf (wi64)
def RP (ok:V→H→Prop) (bad:H→Prop):Option (Rv × H)→Prop
  | some (.ret v,h)=>ok v h
  | some (.pan v,h)=>v=.iface 88 (.agg [.int .i64 4])∧bad h
  | none=>False
theorem RP_cg {ok:V→H→Prop} {bad:H→Prop} {x y:Option (Rv × H)} (h:x=y):RP ok bad x=RP ok bad y:=by rw [h]
attribute [congr] RP_cg
section cd
variable {D0:Nat→Prop} {h0 h h':H} {q c ob L m:Nat} {vs:V} {B:BD} {st:St} {lv:List Int}
theorem Side.bits_writes:∀ (j v out:Nat) (sd:Side),(bits j v out sd).2.writes=sd.writes
  | 0,v,out,sd=>rfl
  | j+1,v,out,sd=>by rw [bits,Side.bits_writes];exact Side.code_writes _ _ _
theorem CoderAt.ok {D:Nat→Prop} {h:H} {p m:Nat} {st:St} (a:CoderAt D h p m st):SetOk st.S∧SideOk m st.sd∧0≤st.n∧st.n≤100*m:=by
  obtain ⟨vo,vi,vs,Ds,Dw,h1,h2,h3,h4,h5,h6,h7,h8,h9⟩:=a
  exact ⟨h6,h4,h7.1,h7.2⟩
theorem St.symV_lt {st:St} (ok:SetOk st.S) {k x:Nat} {v:Int} (hk:k < 32) (hx:x < cx k) (hv:st.sd.writes=true→0≤v∧v < vl k):st.symV k x v < vl k:=by
  obtain ⟨r,_,_,tok,tl⟩:=ok.get hk hx
  have:=(Side.val_may (v:=v) (sd:=st.sd) tok (by rw [tl];exact hv)).1
  rw [tl] at this;exact this
theorem St.numV_lt {st:St} {m:Nat} (ok:SideOk m st.sd) {n v:Nat} (hm:m+n < 100000000):st.numV n v < 2 ^ n:=by
  have:=(bits_ok n v 0 ok hm).2
  simpa [St.numV] using this
theorem bits_out (j:Nat):∀ (v out:Nat) (sd:Side),sd.writes=true→(bits j v out sd).1=out*2 ^ j+v % 2 ^ j:=by
  induction j with
  | zero=>intro v out sd hw;simp [bits];omega
  | succ j ih =>
   intro v out sd hw
   rw [bits,ih _ _ _ (by rw [Side.code_writes];exact hw)]
   have hb:sd.bit (v / 2 ^ j % 2)=v / 2 ^ j % 2:=by cases sd with | w=>rfl | r=>cases hw
   rw [hb]
   have h1:v % 2 ^ (j+1)=v % 2 ^ j+2 ^ j*(v / 2 ^ j % 2):=by rw [Nat.pow_succ,Nat.mod_mul]
   rw [h1,Nat.pow_succ,Nat.add_mul,Nat.mul_comm 2 out,Nat.mul_assoc,Nat.mul_comm 2 (2 ^ j),Nat.mul_comm (2 ^ j) (v / 2 ^ j % 2)]
   omega
theorem St.numV_w {st:St} (hw:st.sd.writes=true) (n v:Nat) (hv:v < 2 ^ n):st.numV n v=v:=by
  unfold St.numV;rw [bits_out n v 0 _ hw,Nat.mod_eq_of_lt hv];omega
theorem St.symV_w {st:St} (hw:st.sd.writes=true) (k x:Nat) (v:Int):st.symV k x v=v.toNat:=by
  unfold St.symV;generalize st.sd=sd at hw;cases sd with | w=>rfl | r=>cases hw
theorem St.sym_wr (st:St) (k x:Nat) (v:Int):(st.sym k x v).sd.writes=st.sd.writes:=Side.code_writes _ _ _
theorem St.num_wr (st:St) (n v:Nat):(st.num n v).sd.writes=st.sd.writes:=Side.bits_writes _ _ _ _
theorem writes26_ok {D:Nat→Prop} {h:H} {p m:Nat} {st:St} (a:CoderAt D h p m st):KW 42 [.ptr p 0] h=some (.ret (.bool st.sd.writes),h):=by
  obtain ⟨vo,vi,vs,Ds,Dw,h1,h2,h3,_⟩:=a
  exact writes14_ok h1 h3
end cd
namespace Pr
variable {α β:Type}
def ech:Pr α→Option α × List Op
  | .done a=>(some a,[])
  | .stop=>(none,[])
  | .sym k c v f=>((f v.toNat).ech.1,.sym k c v.toNat :: (f v.toNat).ech.2)
  | .num n v f=>((f v.toNat).ech.1,.num n v.toNat :: (f v.toNat).ech.2)
theorem ech_bind (g:α→Pr β):∀ p:Pr α,(p.bind g).ech=match p.ech.1 with
   | some a=>((g a).ech.1,p.ech.2 ++ (g a).ech.2)
   | none=>(none,p.ech.2)
  | .done a=>by simp [bind,ech]
  | .stop=>rfl
  | .sym k c v f=>by
   have:=ech_bind g (f v.toNat)
   simp only [bind,ech]
   rw [this]
   cases (f v.toNat).ech.1 <;> rfl
  | .num n v f=>by
   have:=ech_bind g (f v.toNat)
   simp only [bind,ech]
   rw [this]
   cases (f v.toNat).ech.1 <;> rfl
theorem ech_some {p:Pr α} {g:α→Pr β} {a:α} {l:List Op} (h:p.ech=(some a,l)):(p.bind g).ech=((g a).ech.1,l ++ (g a).ech.2):=by rw [ech_bind,h]
end Pr
theorem St.sym_w {st:St} {s:Sr} (hs:st.sd=wS s) (k c:Nat) (v:Int):st.sym k c v=st.sym k c (v.toNat:Nat)∧st.symV k c v=v.toNat:=by
  unfold St.sym St.symV
  rw [hs]
  simp only [Side.val,Int.toNat_natCast,and_self]
theorem St.sym_r {st:St} (hs:st.sd.writes=false) (k c:Nat) (v v':Int):st.sym k c v=st.sym k c v'∧st.symV k c v=st.symV k c v':=by
  unfold St.sym St.symV
  generalize st.sd=sd at hs
  cases sd with
  | w=>cases hs
  | r=>exact ⟨rfl,rfl⟩
theorem bits_r (j:Nat):∀ (v v' out:Nat) (sd:Side),sd.writes=false→bits j v out sd=bits j v' out sd:=by
  induction j with
  | zero=>intro v v' out sd hs;rfl
  | succ j ih =>
   intro v v' out sd hs
   cases sd with
   | w=>cases hs
   | r rest code rng=>simp only [bits,Side.bit];exact ih v v' _ _ rfl
theorem St.num_r {st:St} (hs:st.sd.writes=false) (n v v':Nat):st.num n v=st.num n v'∧st.numV n v=st.numV n v':=by
  unfold St.num St.numV
  rw [bits_r n v v' 0 st.sd hs]
  exact ⟨rfl,rfl⟩
namespace Pr
variable {α:Type}
theorem exec_w:∀ (p:Pr α) {st:St} {s:Sr},st.sd=wS s→SOk s→SetOk st.S→(∀ o ∈ p.ech.2,o.ok)→p.exec st=(p.ech.1,st.run p.ech.2)
  | .done a,st,s,hs,ok,so,ho=>rfl
  | .stop,st,s,hs,ok,so,ho=>rfl
  | .sym k c v f,st,s,hs,ok,so,ho=>by
   obtain ⟨s',h1,h2,h3,h4,_⟩:=step_w hs ok so (ho (.sym k c v.toNat) (by simp [ech]))
   have e:=St.sym_w hs k c v
   have ih:=exec_w (f v.toNat) h1 h2 h4 fun o h=>ho o (by simp [ech,h])
   rw [exec_sym,e.2,e.1]
   exact ih
  | .num n v f,st,s,hs,ok,so,ho=>by
   obtain ⟨s',h1,h2,h3,h4,_,_,h5⟩:=step_w hs ok so (ho (.num n v.toNat) (by simp [ech]))
   have ih:=exec_w (f v.toNat) h1 h2 h4 fun o h=>ho o (by simp [ech,h])
   have e:=(h5 s' h2 (Within.refl _ _ _)).2.2
   rw [exec_num,e]
   exact ih
end Pr
def Op.cost:Op→Nat
  | .num n _=>n
  | .sym _ _ _=>1
def costL (l:List Op):Nat:=(l.map Op.cost).sum
theorem run_n:∀ (l:List Op) (st:St),(st.run l).n=st.n+costL l
  | [],st=>by simp [St.run,costL]
  | o :: l,st=>by
   have:=run_n l (st.step o)
   have h1:(st.step o).n=st.n+o.cost:=by cases o <;> rfl
   have h2:costL (o :: l)=o.cost+costL l:=by simp [costL]
   show ((st.step o).run l).n=_
   rw [this,h1,h2];omega
open Go.Zf (wi64)
theorem St.num_zero (st:St) (v:Nat):st.num 0 v=st:=by
  obtain ⟨a,b,c,d⟩:=st
  simp [St.num,bits]
open Go.Zf (wi64)
theorem Wr.slb {h:H} {n:Nat} {v:V} {l:List Nat} (a:Wr h n v l):SlB h v l:=by
  obtain ⟨b,k,L,h1,h2,h3,h4,h5,h6⟩:=a
  exact .inr ⟨b,0,k,_,_,_,h1,h3,by simpa using h4,by rw [List.drop_zero];unfold bytesV;rw [← List.map_take,h5]⟩
theorem bytes_bound {m:Nat} {T:Sr} (so:SideOk m (wS T)):(bytes T.1 T.2.1).length < 140737488355329:=by
  have h2:T.1.length≤3*m:=so.2.1
  have h3:=so.2.2
  rw [bytes_len]
  have:=trimN_le (emits 4 T.1 T.2.1).1 (T.1.length+4)
  omega
open Go.Zf (wi64)
end Go.Proofs.YtbkmdnmncaakdaaGreat
