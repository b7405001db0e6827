import Derived.Test.YtbajipmhnoakeaaGreatPnGpb
set_option linter.unusedVariables false
set_option linter.unusedSimpArgs false
set_option maxRecDepth 20000
namespace Go.Proofs.YtbajipmhnoakeaaGreat
open Go Go.Zf
open Go.Zf (wi64)
inductive Pr (α:Type) where
  | done (a:α)
  | stop
  | sym (k c:Nat) (v:Int) (f:Nat→Pr α)
  | num (n:Nat) (v:Int) (f:Nat→Pr α)
namespace Pr
variable {α β:Type}
def bind:Pr α→(α→Pr β)→Pr β
  | .done a,g=>g a
  | .stop,_=>.stop
  | .sym k c v f,g=>.sym k c v fun x=>(f x).bind g
  | .num n v f,g=>.num n v fun x=>(f x).bind g
def exec:Pr α→St→Option α × St
  | .done a,st=>(some a,st)
  | .stop,st=>(none,st)
  | .sym k c v f,st=>(f (st.symV k c v)).exec (st.sym k c v)
  | .num n v f,st=>(f (st.numV n v.toNat)).exec (st.num n v.toNat)
theorem exec_bind (g:α→Pr β):∀ (p:Pr α) (st:St),(p.bind g).exec st=match p.exec st with
   | (some a,st')=>(g a).exec st'
   | (none,st')=>(none,st')
  | .done a,st=>rfl
  | .stop,st=>rfl
  | .sym k c v f,st=>exec_bind g (f (st.symV k c v)) (st.sym k c v)
  | .num n v f,st=>exec_bind g (f (st.numV n v.toNat)) (st.num n v.toNat)
theorem exec_num (n:Nat) (v:Int) (f:Nat→Pr α) (st:St):(Pr.num n v f).exec st=(f (st.numV n v.toNat)).exec (st.num n v.toNat):=rfl
theorem exec_sym (k c:Nat) (v:Int) (f:Nat→Pr α) (st:St):(Pr.sym k c v f).exec st=(f (st.symV k c v)).exec (st.sym k c v):=rfl
theorem exec_done (a:α) (st:St):(Pr.done a).exec st=(some a,st):=rfl
theorem exec_some {p:Pr α} {g:α→Pr β} {st st':St} {a:α} (h:p.exec st=(some a,st')):(p.bind g).exec st=(g a).exec st':=by rw [exec_bind,h]
theorem exec_none {p:Pr α} {g:α→Pr β} {st st':St} (h:p.exec st=(none,st')):(p.bind g).exec st=(none,st'):=by rw [exec_bind,h]
end Pr
def imin (a b:Int):Int:=if b < a then b else a
def imax (a b:Int):Int:=if b > a then b else a
theorem minV_i (k:IntKind) (a b:Int):minV [.int k a,.int k b]=some (.int k (imin a b)):=minV2 k a b
theorem maxV_i (k:IntKind) (a b:Int):maxV [.int k a,.int k b]=some (.int k (imax a b)):=maxV2 k a b
theorem imin_b (a b:Int):imin a b≤a∧imin a b≤b∧(imin a b=a∨imin a b=b):=by unfold imin;split <;> omega
theorem imax_b (a b:Int):a≤imax a b∧b≤imax a b∧(imax a b=a∨imax a b=b):=by unfold imax;split <;> omega
def iabs (a:Int):Int:=imax a (-a)
theorem iabs_b (a:Int):0≤iabs a∧(iabs a=a∨iabs a = -a)∧a≤iabs a ∧ -a≤iabs a:=by have:=imax_b a (-a);unfold iabs;omega
structure BD where
  size:Nat
  n:Nat
  colour:Nat
  sign:Nat
  ord:List Nat
  src:List Int
  wr:Bool
def ekP (size:Nat):Nat:=if size=4 then 23 else if size=8 then 24 else if size=16 then 25 else 26
def clsP (e:Nat):Nat:=if e=1 then 0 else Nat.log2 (e - 1)+1
def extP (e:Nat):Int:=if e=1 then 0 else (e:Int) - 2 ^ (clsP e - 1) - 1
def endTo (B:BD):Nat→Nat
  | 0=>0
  | i+1=>if B.src.getD (B.ord.getD i 0) 0 ≠ 0 then i+1 else endTo B i
def endP (B:BD):Pr Nat :=
  .sym 22 (2*B.colour+if 8 < B.size then 1 else 0) (if endTo B B.ord.length=0 then 1 else 0) fun z =>
  if z=1 then .done 0 else
  .sym (ekP B.size) B.colour (clsP (max (endTo B B.ord.length) 1)) fun c =>
  if c=0 then .done 1 else .num (c - 1) (extP (max (endTo B B.ord.length) 1)) fun x=>.done (2 ^ (c - 1)+1+x)
def cval (lv:List Int) (n at_:Nat) (each:Int) (d:Nat × Nat):Int :=
  if at_ / n+d.1 < n∧at_ % n+d.2 < n then
   let v:=lv.getD ((at_ / n+d.1)*n+(at_ % n+d.2)) 0
   if 0≤v then imin v each else -imax v (-each)
  else 0
def csum (lv:List Int) (n at_:Nat) (each:Int) (ds:List (Nat × Nat)):Int:=(ds.map (cval lv n at_ each)).sum
def ctxP (lv:List Int) (n at_:Nat) (each all:Int) (ds:List (Nat × Nat)):Int:=imin ((csum lv n at_ each ds+1) / 2) all
def baseDs:List (Nat × Nat):=[(0,1),(1,0),(1,1),(0,2),(2,0)]
def moreDs:List (Nat × Nat):=[(0,1),(1,0),(1,1)]
def baseP (lv:List Int) (n at_:Nat):Nat:=(ctxP lv n at_ 3 4 baseDs).toNat
def moreP (lv:List Int) (n at_:Nat):Nat:=(ctxP lv n at_ 15 6 moreDs).toNat
theorem cval_b (lv:List Int) (n at_:Nat) {each:Int} (he:0≤each) (d:Nat × Nat):0≤cval lv n at_ each d∧cval lv n at_ each d≤each:=by
  unfold cval
  simp only
  generalize lv.getD ((at_ / n+d.1)*n+(at_ % n+d.2)) 0=v
  have h1:=imin_b v each
  have h2:=imax_b v (-each)
  split
  ·split <;> omega
  ·omega
theorem csum_b (lv:List Int) (n at_:Nat) {each:Int} (he:0≤each):∀ ds:List (Nat × Nat),0≤csum lv n at_ each ds∧csum lv n at_ each ds≤each*ds.length
  | []=>by simp [csum]
  | d :: ds=>by
   have h1:=cval_b lv n at_ he d
   have h2:=csum_b lv n at_ he ds
   have h3:csum lv n at_ each (d :: ds)=cval lv n at_ each d+csum lv n at_ each ds:=rfl
   have h4:each*((d :: ds).length:Int)=each+each*ds.length:=by rw [List.length_cons,Int.natCast_succ,Int.mul_add];omega
   omega
theorem ctxP_b (lv:List Int) (n at_:Nat) {each all:Int} (he:0≤each) (ha:0≤all) (ds:List (Nat × Nat)):0≤ctxP lv n at_ each all ds∧ctxP lv n at_ each all ds≤all:=by
  have h1:=csum_b lv n at_ he ds
  have h2:=imin_b ((csum lv n at_ each ds+1) / 2) all
  unfold ctxP
  omega
theorem baseP_b (lv:List Int) (n at_:Nat):baseP lv n at_≤4∧(baseP lv n at_:Int)=ctxP lv n at_ 3 4 baseDs:=by
  have:=ctxP_b lv n at_ (each:=3) (all:=4) (by decide) (by decide) baseDs;unfold baseP;omega
theorem moreP_b (lv:List Int) (n at_:Nat):moreP lv n at_≤6∧(moreP lv n at_:Int)=ctxP lv n at_ 15 6 moreDs:=by
  have:=ctxP_b lv n at_ (each:=15) (all:=6) (by decide) (by decide) moreDs;unfold moreP;omega
def lenP (wr:Bool) (x:Nat):Nat→Nat→Pr Nat
  | 0,_=>.stop
  | f+1,k=>.num 1 (if k=Nat.log2 x then 1 else 0) fun b =>
   if b=0 then lenP wr x f (k+1) else .num k (if wr then (x:Int) - 2 ^ k else 0) fun v=>.done (2 ^ k+v - 1)
def amoP (B:BD) (a:Int) (more:Nat):Nat→Nat→Pr Nat
  | 0,sum=>(lenP B.wr ((imax (a - sum) 0).toNat+1) 21 0).bind fun v=>.done (sum+v)
  | j+1,sum=>.sym 29 (7*B.colour+more) (imin (imax (a - sum) 0) 3) fun s=>if s < 3 then .done (sum+s) else amoP B a more j (sum+s)
def amountP (B:BD) (lv:List Int) (at_ said:Nat):Pr Nat :=
  if said < 3 then .done said else amoP B (iabs (B.src.getD at_ 0)) (moreP lv B.n at_) 4 said
def saidP (B:BD) (en i:Nat) (lv:List Int):Pr Nat :=
  if i+1=en then .sym 27 B.colour (imax (imin (iabs (B.src.getD (B.ord.getD i 0) 0)) 3 - 1) 0) fun s=>.done (1+s)
  else .sym 28 (5*B.colour+baseP lv B.n (B.ord.getD i 0)) (imin (iabs (B.src.getD (B.ord.getD i 0) 0)) 3) fun s=>.done s
def amsP (B:BD) (en:Nat):Nat→List Int→Pr (List Int)
  | 0,lv=>.done lv
  | i+1,lv=>(saidP B en i lv).bind fun said=>(amountP B lv (B.ord.getD i 0) said).bind fun v=>amsP B en i (lv.set (B.ord.getD i 0) v)
def belowP (B:BD) (at_:Nat):Pr Nat :=
  if at_=0 then .sym 30 (3*B.colour+B.sign) (if B.src.getD at_ 0 < 0 then 1 else 0) fun b=>.done b
  else .num 1 (if B.src.getD at_ 0 < 0 then 1 else 0) fun b=>.done b
def sgsP (B:BD):List Nat→List Int→Pr (List Int)
  | [],lv=>.done lv
  | at_ :: r,lv=>if lv.getD at_ 0=0 then sgsP B r lv else (belowP B at_).bind fun b=>sgsP B r (if b=1 then lv.set at_ (-lv.getD at_ 0) else lv)
def codeP (B:BD):Pr (List Int) :=
  (endP B).bind fun en=>(amsP B en en (List.replicate (B.n*B.n) 0)).bind fun lv=>sgsP B (B.ord.take en) lv
open Go.Zf (wi64)
theorem log2_of {x k:Nat} (h1:2 ^ k≤x) (h2:x < 2 ^ (k+1)):Nat.log2 x=k:=by
  have hx:x ≠ 0:=by have:=Nat.two_pow_pos k;omega
  have a:=(Nat.le_log2 hx (k:=k)).2 h1
  have b:=(Nat.log2_lt hx (k:=k+1)).2 h2
  omega
theorem log2_b {x:Nat} (hx:x ≠ 0):2 ^ Nat.log2 x≤x∧x < 2 ^ (Nat.log2 x+1):=⟨(Nat.le_log2 hx).1 (Nat.le_refl _),(Nat.log2_lt hx).1 (Nat.lt_succ_self _)⟩
theorem log2_div {x k:Nat} (h:2 ^ k≤x):Nat.log2 (x / 2 ^ k)+k=Nat.log2 x:=by
  have hx:x ≠ 0:=by have:=Nat.two_pow_pos k;omega
  have hp:=Nat.two_pow_pos k
  have hy:x / 2 ^ k ≠ 0:=by
   have:=(Nat.le_div_iff_mul_le hp (x:=1) (y:=x)).2 (by omega)
   omega
  have hb:=log2_b hy
  refine (log2_of ?_ ?_).symm
  ·rw [Nat.pow_add];exact (Nat.le_div_iff_mul_le hp).1 hb.1
  ·rw [show Nat.log2 (x / 2 ^ k)+k+1=(Nat.log2 (x / 2 ^ k)+1)+k by omega,Nat.pow_add];exact (Nat.div_lt_iff_lt_mul hp).1 hb.2
def lenL:List UInt8:=[0,1,2,2,3,3,3,3,4,4,4,4,4,4,4,4,5,5,5,5,5,5,5,5,5,5,5,5,5,5,5,5,6,6,6,6,6,6,6,6,6,6,6,6,6,6,6,6,6,6,6,6,6,6,6,6,6,6,6,6,6,6,6,6,7,7,7,7,7,7,7,7,7,7,7,7,7,7,7,7,7,7,7,7,7,7,7,7,7,7,7,7,7,7,7,7,7,7,7,7,7,7,7,7,7,7,7,7,7,7,7,7,7,7,7,7,7,7,7,7,7,7,7,7,7,7,7,7,8,8,8,8,8,8,8,8,8,8,8,8,8,8,8,8,8,8,8,8,8,8,8,8,8,8,8,8,8,8,8,8,8,8,8,8,8,8,8,8,8,8,8,8,8,8,8,8,8,8,8,8,8,8,8,8,8,8,8,8,8,8,8,8,8,8,8,8,8,8,8,8,8,8,8,8,8,8,8,8,8,8,8,8,8,8,8,8,8,8,8,8,8,8,8,8,8,8,8,8,8,8,8,8,8,8,8,8,8,8,8,8,8,8,8,8,8,8,8,8,8,8,8,8,8,8,8,8]
theorem lenL_map:lenL.map (fun c=>c.toNat)=(List.range 256).map (fun x=>if x=0 then 0 else Nat.log2 x+1):=by kernel_rfl
theorem lenL_at {x:Nat} (h0:x ≠ 0) (hx:x < 256):ixS (.str lenL) (.int .u8 (x:Nat))=some (.int .u8 (Nat.log2 x+1:Nat)):=by
  have h1:(lenL.map (fun c=>c.toNat))[x]?=some (Nat.log2 x+1):=by rw [lenL_map];simp [hx,h0]
  rw [List.getElem?_map] at h1
  obtain ⟨c,hc,h2⟩:=Option.map_eq_some_iff.1 h1
  simp [ixS,hc,h2]
theorem wu8n {n:Nat} (h:n < 256):IntKind.u8.wrap (n:Int)=n:=wu8 (by omega) (by omega)
noncomputable def s122' (K:Oracle) (L:Looper) (e:E) (h:H):Out :=
 sq (some ⟨.nm,⟨[(e.s k122 0),(.int .i64 0)],2,(.int .i64 0)⟩,h⟩) fun e h =>
 sq (sq (bd (binK 0 .geq (e.s k122 0) (.int .u64 4294967296)) fun t4 =>
 some ⟨.nm,ux122 e 4 t4,h⟩) fun e h =>
 br (e.s k122 4) (sq (bd (binK 0 .shr (e.s k122 0) (.int .u64 32)) fun t6 =>
 some ⟨.nm,⟨[t6,(e.s k122 2)],0,t6⟩,h⟩) fun e h =>
 some ⟨.nm,⟨[(e.s k122 0),(.int .i64 32)],2,(.int .i64 32)⟩,h⟩)
 (some ⟨.nm,e,h⟩)) fun e h =>
 sq (sq (bd (binK 0 .geq (e.s k122 0) (.int .u64 65536)) fun t8 =>
 some ⟨.nm,ux122 e 8 t8,h⟩) fun e h =>
 br (e.s k122 8) (sq (bd (binK 0 .shr (e.s k122 0) (.int .u64 16)) fun t10 =>
 some ⟨.nm,⟨[t10,(e.s k122 2)],0,t10⟩,h⟩) fun e h =>
 bd (binK 0 .add (e.s k122 2) (.int .i64 16)) fun t12 =>
 some ⟨.nm,⟨[(e.s k122 0),t12],2,t12⟩,h⟩)
 (some ⟨.nm,e,h⟩)) fun e h =>
 sq (sq (bd (binK 0 .geq (e.s k122 0) (.int .u64 256)) fun t14 =>
 some ⟨.nm,ux122 e 14 t14,h⟩) fun e h =>
 br (e.s k122 14) (sq (bd (binK 0 .shr (e.s k122 0) (.int .u64 8)) fun t16 =>
 some ⟨.nm,⟨[t16,(e.s k122 2)],0,t16⟩,h⟩) fun e h =>
 bd (binK 0 .add (e.s k122 2) (.int .i64 8)) fun t18 =>
 some ⟨.nm,⟨[(e.s k122 0),t18],2,t18⟩,h⟩)
 (some ⟨.nm,e,h⟩)) fun e h =>
 sq (bd (cv .u8 (e.s k122 0)) fun t21 =>
 bd (ixS (.str lenL) t21) fun t22 =>
 bd (cv .i64 t22) fun t23 =>
 bd (binK 0 .add (e.s k122 2) t23) fun t24 =>
 some ⟨.nm,⟨[(e.s k122 0),t24],2,t24⟩,h⟩) fun e h =>
 some ⟨.rt,e,h⟩
theorem s72_e:s122=s122':=by kernel_rfl
theorem len72_ok {x:Nat} (h0:x ≠ 0) (hx:x < 4294967296) (h:H):KW 122 [.int .u64 x] h=some (.ret (.int .i64 (Nat.log2 x+1:Nat)),h):=by
  have hl:Nat.log2 x < 32:=(Nat.log2_lt h0).2 hx
  have z:∀ m:Nat,m < 64→IntKind.i64.wrap ((m:Int))=m:=fun m hm=>wi64 (by omega) (by omega)
  rw [w122,f122,s72_e,s122']
  have key:∀ (x n:Nat) (e:Int),x ≠ 0→x < 256→n+Nat.log2 x < 64→e=n→IntKind.i64.wrap (e+IntKind.i64.wrap ((Nat.log2 x+1:Nat):Int))=((n+(Nat.log2 x+1):Nat):Int):=by
   intro x n e h0 h1 h2 he
   subst he
   have q:IntKind.i64.wrap ((Nat.log2 x+1:Nat):Int)=((Nat.log2 x+1:Nat):Int):=wi64 (by omega) (by omega)
   rw [q,wi64 (by omega) (by omega)]
   omega
  have tab:∀ x:Nat,x ≠ 0→x < 256→ixS (.str lenL) (.int .u8 (x:Nat))=some (.int .u8 (Nat.log2 x+1:Nat)):=fun x h0 hx=>lenL_at h0 hx
  have e0:decide ((4294967296:Int)≤(x:Int))=false:=by simp;omega
  by_cases c1:65536≤x
  ·have d1:(x:Int) / 65536=((x / 65536:Nat):Int):=by omega
   have l1:=log2_div (x:=x) (k:=16) c1
   have n1:x / 65536 ≠ 0:=by omega
   obtain ⟨y,hy⟩:∃ y,y=x / 65536:=⟨_,rfl⟩
   rw [← hy] at d1 n1
   have hy2:y < 65536:=by omega
   rw [show x / 2 ^ 16=y by rw [hy]] at l1
   by_cases c2:256≤y
   ·have d2:(y:Int) / 256=((y / 256:Nat):Int):=by omega
    have l2:=log2_div (x:=y) (k:=8) c2
    obtain ⟨u,hu⟩:∃ u,u=y / 256:=⟨_,rfl⟩
    rw [← hu] at d2
    rw [show y / 2 ^ 8=u by rw [hu]] at l2
    have hu0:u ≠ 0:=by omega
    have hu1:u < 256:=by omega
    have k1:=key u 24 24 hu0 hu1 (by omega) rfl
    have t1:=tab u hu0 hu1
    have w1:=wu8n hu1
    have z16:IntKind.i64.wrap (16:Int)=16:=by decide
    have z24:IntKind.i64.wrap (24:Int)=24:=by decide
    have fin:((24+(Nat.log2 u+1):Nat):Int)=((Nat.log2 x+1:Nat):Int):=by omega
    simp [e0,show (4294967296:Int)≤(x:Int) ↔ False by simp;omega,show (65536:Int)≤(x:Int) by omega,IntKind.bits,d1,show (256:Int)≤(y:Int) by omega,d2,w1,t1,z16,z24,-Int.natCast_add,k1,fin]
   ·have hy1:y < 256:=by omega
    have k1:=key y 16 16 n1 hy1 (by omega) rfl
    have t1:=tab y n1 hy1
    have w1:=wu8n hy1
    have z16:IntKind.i64.wrap (16:Int)=16:=by decide
    have fin:((16+(Nat.log2 y+1):Nat):Int)=((Nat.log2 x+1:Nat):Int):=by omega
    simp [e0,show (4294967296:Int)≤(x:Int) ↔ False by simp;omega,show (65536:Int)≤(x:Int) by omega,IntKind.bits,d1,show ¬ (256:Int)≤(y:Int) by omega,w1,t1,z16,-Int.natCast_add,k1,fin]
  ·by_cases c2:256≤x
   ·have d2:(x:Int) / 256=((x / 256:Nat):Int):=by omega
    have l2:=log2_div (x:=x) (k:=8) c2
    obtain ⟨u,hu⟩:∃ u,u=x / 256:=⟨_,rfl⟩
    rw [← hu] at d2
    rw [show x / 2 ^ 8=u by rw [hu]] at l2
    have hu0:u ≠ 0:=by omega
    have hu1:u < 256:=by omega
    have k1:=key u 8 8 hu0 hu1 (by omega) rfl
    have t1:=tab u hu0 hu1
    have w1:=wu8n hu1
    have z8:IntKind.i64.wrap (8:Int)=8:=by decide
    have fin:((8+(Nat.log2 u+1):Nat):Int)=((Nat.log2 x+1:Nat):Int):=by omega
    simp [e0,show (4294967296:Int)≤(x:Int) ↔ False by simp;omega,show ¬ (65536:Int)≤(x:Int) by omega,IntKind.bits,show (256:Int)≤(x:Int) by omega,d2,w1,t1,z8,-Int.natCast_add,k1,fin]
   ·have hy1:x < 256:=by omega
    have k1:IntKind.i64.wrap ((Nat.log2 x+1:Nat):Int)=((Nat.log2 x+1:Nat):Int):=wi64 (by omega) (by omega)
    have t1:=tab x h0 hy1
    have w1:=wu8n hy1
    have fin:((0+(Nat.log2 x+1):Nat):Int)=((Nat.log2 x+1:Nat):Int):=by omega
    simp [e0,show (4294967296:Int)≤(x:Int) ↔ False by simp;omega,show ¬ (65536:Int)≤(x:Int) by omega,IntKind.bits,show ¬ (256:Int)≤(x:Int) by omega,w1,t1,-Int.natCast_add,k1]
theorem len63_ok {x:Nat} (h0:x ≠ 0) (hx:x < 4294967296) (h:H):KW 115 [.int .u64 x] h=some (.ret (.int .i64 (Nat.log2 x+1:Nat)),h):=by
  rw [w115,f115,s115]
  simp [len72_ok h0 hx h]
theorem flag51_ok (b:Bool) (h:H):KW 97 [.bool b] h=some (.ret (.int .i64 (if b then 1 else 0)),h):=by
  rw [w97,f97,s97]
  cases b <;> simp
theorem must61_ok (v:Int) (h:H):KW 114 [.int .i64 v,.int .i64 0] h=some (.ret (.int .i64 v),h):=by
  rw [w114,f114,s114]
  simp
theorem kind53_ok (s:Nat) (h:H):KW 99 [.int .i64 s] h=some (.ret (.int .i64 (ekP s)),h):=by
  rw [w99,f99,s99]
  unfold ekP
  by_cases h4:s=4
  ·subst h4;simp
  by_cases h8:s=8
  ·subst h8;simp
  by_cases h16:s=16
  ·subst h16;simp
  simp [h4,h8,h16,show ¬ (s:Int)=4 by omega,show ¬ (s:Int)=8 by omega,show ¬ (s:Int)=16 by omega]
theorem two_pow_cast (k:Nat):((2 ^ k:Nat):Int)=2 ^ k:=by simp
theorem class52_ok {e:Nat} (h0:1≤e) (h1:e≤1024) (h:H):∃ y,KW 98 [.int .i64 e] h=some (.ret (.tup [.int .i64 (clsP e),y,.int .i64 (extP e),.int .i64 0]),h):=by
  rw [w98,f98,s98]
  by_cases c:e=1
  ·subst c
   simp [clsP,extP]
  ·have hne:e - 1 ≠ 0:=by omega
   have hb:=log2_b hne
   have hl:Nat.log2 (e - 1) < 10:=(Nat.log2_lt hne).2 (by omega)
   obtain ⟨k,hk⟩:∃ k,k=Nat.log2 (e - 1):=⟨_,rfl⟩
   have e1:clsP e=k+1:=by unfold clsP;rw [if_neg c,hk]
   have e2:extP e=(e:Int) - 2 ^ k - 1:=by unfold extP;rw [if_neg c,e1];simp
   have a1:IntKind.i64.wrap ((e:Int) - 1)=((e - 1:Nat):Int):=by rw [wi64 (by omega) (by omega)];omega
   have a2:IntKind.u64.wrap (((e - 1:Nat):Int))=((e - 1:Nat):Int):=wu64 (by omega) (by omega)
   have l:=len63_ok hne (by omega) h
   rw [← hk] at l hb hl
   have a3:IntKind.i64.wrap (((k+1:Nat):Int) - 1)=(k:Int):=by rw [wi64 (by omega) (by omega)];omega
   have p1:(2:Nat) ^ k≤1024:=Nat.pow_le_pow_right (by decide) (by omega:k≤10)
   have p2:=two_pow_cast k
   have p0:=Nat.two_pow_pos k
   have a4:IntKind.i64.wrap ((2:Int) ^ k)=2 ^ k:=wi64 (by omega) (by omega)
   have a5:IntKind.i64.wrap ((e:Int) - 2 ^ k)=(e:Int) - 2 ^ k:=wi64 (by omega) (by omega)
   have a6:IntKind.i64.wrap ((e:Int) - 2 ^ k - 1)=(e:Int) - 2 ^ k - 1:=wi64 (by omega) (by omega)
   have mk:min k 64=k:=by omega
   rw [e1,e2]
   simp [show ¬ (e:Int) < 1 by omega,show ¬ (1024:Int) < (e:Int) by omega,show ¬ (e:Int)=1 by omega,show ¬ (k:Int) < 0 by omega,a1,a2,l,a3,IntKind.bits,mk,a4,a5,a6,-Int.natCast_add]
def sideP (s:Nat):Nat:=if s=64 then 32 else s
def sizeOk (s:Nat):Prop:=s=4∨s=8∨s=16∨s=32∨s=64
theorem side38_ok {s:Nat} (hs:sizeOk s) (h:H):KW 68 [.int .i64 s] h=some (.ret (.int .i64 (sideP s)),h):=by
  rw [w68,f68,s68]
  rcases hs with rfl | rfl | rfl | rfl | rfl <;> simp [sideP] <;> decide
theorem side38_no {s:Int} (hs:s ≠ 4∧s ≠ 8∧s ≠ 16∧s ≠ 32∧s ≠ 64) (h:H):KW 68 [.int .i64 s] h=some (.ret (.int .i64 0),h):=by
  rw [w68,f68,s68]
  simp [hs.1,hs.2.1,hs.2.2.1,hs.2.2.2.1,hs.2.2.2.2]
open Go.Zf (wi64)
def dsV (ds:List (Nat × Nat)):List V:=ds.flatMap fun d=>[.int .i64 (d.1:Nat),.int .i64 (d.2:Nat)]
theorem dsV_len (ds:List (Nat × Nat)):(dsV ds).length=2*ds.length:=by
  induction ds with
  | nil=>rfl
  | cons d ds ih=>simp only [dsV,List.flatMap_cons,List.length_append,List.length_cons,List.length_nil] at ih ⊢;omega
theorem dsV_at:∀ (ds:List (Nat × Nat)) (i:Nat) (d:Nat × Nat),ds[i]?=some d→((dsV ds).drop (i*2)).take 2=[.int .i64 (d.1:Nat),.int .i64 (d.2:Nat)]
  | x :: ds,0,d,h=>by simp at h;subst h;simp [dsV]
  | x :: ds,i+1,d,h=>by
   have:=dsV_at ds i d (by simpa using h)
   have e:(i+1)*2=i*2+1+1:=by omega
   rw [e]
   simpa [dsV] using this
structure LvAt (h:H) (L:Nat) (lv:List Int):Prop where
  get:h.get L=some (.cells (intsV lv) 3 false)
  b:∀ v ∈ lv,-4611686018427387904 < v∧v < 4611686018427387904
theorem LvAt.rd {h:H} {L:Nat} {lv:List Int} (a:LvAt h L lv) {i:Nat} (hi:i < lv.length):h.rd1 L i=some (.int .i64 (lv.getD i 0)):=by
  rw [rd1_of a.get,intsV_get _ _ hi]
theorem LvAt.bd {h:H} {L:Nat} {lv:List Int} (a:LvAt h L lv) (i:Nat) : -4611686018427387904 < lv.getD i 0∧lv.getD i 0 < 4611686018427387904:=by
  by_cases hi:i < lv.length
  ·have:lv.getD i 0=lv[i]:=by simp [List.getD,hi]
   rw [this];exact a.b _ (List.getElem_mem hi)
  ·have:lv.getD i 0=0:=by simp [List.getD,List.getElem?_eq_none (by omega:lv.length≤i)]
   rw [this];omega
theorem LvAt.ext {h h':H} {L:Nat} {lv:List Int} (a:LvAt h L lv) (x:Ext h h'):LvAt h' L lv:=⟨by rw [x.get _ (H.get_lt a.get),a.get],a.b⟩
theorem tmod_nat (a b:Nat):(a:Int).tmod (b:Int)=((a % b:Nat):Int):=rfl
abbrev K64:List Nat:=[0,1,2,3,4,5,12,13,14,15,17,18,19,20,43,44,45]
structure I64 (g0:H) (L A:Nat) (lv:List Int) (n at_:Nat) (each all:Int) (ds:List (Nat × Nat)) (j:Nat) (e:E) (g:H):Prop where
  hj:j≤ds.length
  x:Ext g0 g
  e0:e.s K64 0=.sl L 0 lv.length (.ex lv.length)
  e2:e.s K64 2=.int .i64 (at_:Nat)
  e3:e.s K64 3=.int .i64 each
  e4:e.s K64 4=.int .i64 all
  e14:e.s K64 14=.int .i64 (n:Nat)
  e15:e.s K64 15=.int .i64 (csum lv n at_ each (ds.take (ds.length - j)))
  e43:e.s K64 43=.sl A 0 ds.length (.ex ds.length)
  e44:e.s K64 44=.int .i64 (ds.length:Nat)
  e45:e.s K64 45=.int .i64 ((ds.length - j:Nat):Int)
theorem csum_take {lv:List Int} {n at_:Nat} {each:Int} {ds:List (Nat × Nat)} {i:Nat} {d:Nat × Nat} (h:ds[i]?=some d):csum lv n at_ each (ds.take (i+1))=csum lv n at_ each (ds.take i)+cval lv n at_ each d:=by
  unfold csum
  rw [List.take_add_one,h]
  simp
theorem loop64 {g0:H} {L A:Nat} {lv:List Int} {n at_:Nat} {each all:Int} {ds:List (Nat × Nat)} (hL:LvAt g0 L lv) (hA:g0.get A=some (.cells (dsV ds) 151 false)) (hlv:lv.length=n*n) (hn:0 < n) (hn2:n≤32) (ha:at_ < n*n) (he:0≤each) (he2:each≤100)
   (hds:ds.length≤8) (hd:∀ d ∈ ds,d.1≤2∧d.2≤2) {e:E} {g:H} (hi:I64 g0 L A lv n at_ each all ds ds.length e g) :
   ∃ e' g',loopZ (l116_0 KW loopZ) e g=some ⟨.ex 0,e',g'⟩∧I64 g0 L A lv n at_ each all ds 0 e' g':=by
  have loop:=loop_run (body:=l116_0 KW loopZ) (I64 g0 L A lv n at_ each all ds) (fun s=>s.x=.ex 0∧I64 g0 L A lv n at_ each all ds 0 s.e s.h)
   (fun j e g hi=>by
    obtain ⟨hj,x,e0,e2,e3,e4,e14,e15,e43,e44,e45⟩:=hi
    cases j with
    | zero =>
     rw [Nat.sub_zero] at e45
     simp [l116_0,e45,e44]
     exact ⟨rfl,hj,x,by simp [e0],by simp [e2],by simp [e3],by simp [e4],by simp [e14],by simp [e15],by simp [e43],by simp [e44],by simp [e45]⟩
    | succ j =>
     obtain ⟨i,hi⟩:∃ i,i=ds.length - (j+1):=⟨_,rfl⟩
     have hi2:ds.length - j=i+1:=by omega
     rw [← hi] at e45 e15
     have hil:i < ds.length:=by omega
     obtain ⟨d,hdi⟩:∃ d,ds[i]?=some d:=⟨_,List.getElem?_eq_getElem hil⟩
     have hd':=hd d (List.mem_of_getElem? hdi)
     have gA:g.get A=_:=(x.get _ (H.get_lt hA)).trans hA
     have rdA:g.rdN A (i*2) 2=some [.int .i64 (d.1:Nat),.int .i64 (d.2:Nat)]:=by
      rw [rdN_of gA (by rw [dsV_len];omega),dsV_at ds i d hdi]
     obtain ⟨g1,hg1⟩:∃ y,y=(g.new (.cells [.int .i64 0,.int .i64 0] 151 false)).put g.n (.cells [.int .i64 (d.1:Nat),.int .i64 (d.2:Nat)] 151 false):=⟨_,rfl⟩
     have x1:Ext g g1:=by rw [hg1];exact ((Ext.refl g).new _).put (Nat.le_refl _) _
     have r1:g1.get g.n=some (.cells [.int .i64 (d.1:Nat),.int .i64 (d.2:Nat)] 151 false):=by rw [hg1,get_put_same (by rw [H.n_new];omega)]
     have hst:(g.new (.cells [.int .i64 0,.int .i64 0] 151 false)).wrN g.n 0 [.int .i64 (d.1:Nat),.int .i64 (d.2:Nat)]=some g1:=by
      rw [wrN_of get_new_same (by simp),hg1];rfl
     have q0:g1.rd1 g.n 0=some (.int .i64 (d.1:Nat)):=by rw [rd1_of r1];rfl
     have q1:g1.rd1 g.n 1=some (.int .i64 (d.2:Nat)):=by rw [rd1_of r1];rfl
     obtain ⟨r,hr⟩:∃ r,r=at_ / n:=⟨_,rfl⟩
     obtain ⟨c,hc⟩:∃ c,c=at_ % n:=⟨_,rfl⟩
     have hrn:r < n:=by rw [hr];exact (Nat.div_lt_iff_lt_mul hn).2 ha
     have hcn:c < n:=by rw [hc];exact Nat.mod_lt _ hn
     have z1:IntKind.i64.wrap ((at_:Int) / n)=r:=by rw [← Int.natCast_ediv,← hr];exact wi64 (by omega) (by omega)
     have z2:(at_:Int).tmod n=c:=by rw [tmod_nat,← hc]
     have z3:IntKind.i64.wrap ((r:Int)+d.1)=((r+d.1:Nat):Int):=by rw [wi64 (by omega) (by omega)];omega
     have z4:IntKind.i64.wrap ((c:Int)+d.2)=((c+d.2:Nat):Int):=by rw [wi64 (by omega) (by omega)];omega
     obtain ⟨r',hr'⟩:∃ r',r'=r+d.1:=⟨_,rfl⟩
     obtain ⟨c',hc'⟩:∃ c',c'=c+d.2:=⟨_,rfl⟩
     rw [← hr'] at z3
     rw [← hc'] at z4
     have z9:IntKind.i64.wrap ((i:Int)+1)=((i+1:Nat):Int):=by rw [wi64 (by omega) (by omega)];omega
     have hn0:¬ n=0:=by omega
     have cs:=csum_take (lv:=lv) (n:=n) (at_:=at_) (each:=each) hdi
     have cb:=csum_b lv n at_ he (ds.take i)
     have cb2:each*((ds.take i).length:Int)≤800:=by
      have:(ds.take i).length≤8:=by rw [List.length_take];omega
      calc each*((ds.take i).length:Int)≤100*((ds.take i).length:Int):=Int.mul_le_mul_of_nonneg_right he2 (by omega)
       _≤800:=by omega
     have vb:=cval_b lv n at_ he d
     obtain ⟨S,hS⟩:∃ S,S=csum lv n at_ each (ds.take i):=⟨_,rfl⟩
     rw [← hS] at e15 cs cb
     by_cases co:r' < n∧c' < n
     ·obtain ⟨p,hp⟩:∃ p,p=r'*n+c':=⟨_,rfl⟩
      have hpl:p < n*n:=by
       have:r'*n+n≤n*n:=by rw [← Nat.succ_mul];exact Nat.mul_le_mul_right n (by omega)
       omega
      have hpm:r'*n≤1024:=by
       have:r'*n≤32*32:=Nat.mul_le_mul (by omega) hn2
       omega
      have z5:IntKind.i64.wrap ((r':Int)*n)=((r'*n:Nat):Int):=by rw [← Int.natCast_mul];exact wi64 (by omega) (by omega)
      have z6:IntKind.i64.wrap ((r':Int)*n+c')=(p:Int):=by rw [← Int.natCast_mul,wi64 (by omega) (by omega)];omega
      have rdl:=(hL.ext (x.trans x1)).rd (i:=p) (by omega)
      have vbd:=hL.bd p
      obtain ⟨v,hv⟩:∃ v,v=lv.getD p 0:=⟨_,rfl⟩
      rw [← hv] at rdl vbd
      have ev:cval lv n at_ each d=if 0≤v then imin v each else -imax v (-each):=by
       unfold cval
       rw [← hr,← hc,← hr',← hc',if_pos co,← hp,← hv]
      have hplv:p < lv.length:=by omega
      have m1:=imin_b v each
      have m2:=imax_b v (-each)
      have z7:IntKind.i64.wrap (0 - each) = -each:=by rw [wi64 (by omega) (by omega)];omega
      have z8:IntKind.i64.wrap (0 - imax v (-each)) = -imax v (-each):=by rw [wi64 (by omega) (by omega)];omega
      by_cases cv0:0≤v
      ·rw [if_pos cv0] at ev
       rw [ev] at cs vb
       have za:IntKind.i64.wrap (S+imin v each)=csum lv n at_ each (ds.take (i+1)):=by rw [wi64 (by omega) (by omega)];omega
       simp [l116_0,nw,e45,e44,show (i:Int) < ds.length by omega,e43,hil,rdA,hst,e2,e14,hn0,z1,z2,q0,q1,z3,z4,show ¬ (n:Int)≤(r':Int) by omega,show ¬ (n:Int)≤(c':Int) by omega,z5,z6,e0,hplv,rdl,cv0,e3,minV_i,-minV2,e15,za,z9,-Int.natCast_add,show i < ds.length by omega]
       exact ⟨j,by omega,by omega,x.trans x1,by simp [e0],by simp [e2],by simp [e3],by simp [e4],by simp [e14],by simp [hi2],by simp [e43],by simp [e44],by simp [hi2]⟩
      ·rw [if_neg cv0] at ev
       rw [ev] at cs vb
       have za:IntKind.i64.wrap (S + -imax v (-each))=csum lv n at_ each (ds.take (i+1)):=by rw [wi64 (by omega) (by omega)];omega
       simp [l116_0,nw,e45,e44,show (i:Int) < ds.length by omega,e43,hil,rdA,hst,e2,e14,hn0,z1,z2,q0,q1,z3,z4,show ¬ (n:Int)≤(r':Int) by omega,show ¬ (n:Int)≤(c':Int) by omega,z5,z6,e0,hplv,rdl,cv0,e3,maxV_i,-maxV2,e15,z7,z8,za,z9,-Int.natCast_add,-Int.zero_sub,show i < ds.length by omega]
       exact ⟨j,by omega,by omega,x.trans x1,by simp [e0],by simp [e2],by simp [e3],by simp [e4],by simp [e14],by simp [hi2],by simp [e43],by simp [e44],by simp [hi2]⟩
     ·have ev:cval lv n at_ each d=0:=by
       unfold cval
       rw [← hr,← hc,← hr',← hc',if_neg co]
      rw [ev,Int.add_zero] at cs
      by_cases c1:n≤r'
      ·simp [l116_0,nw,e45,e44,show (i:Int) < ds.length by omega,e43,hil,rdA,hst,e2,e14,hn0,z1,z2,q0,q1,z3,z4,show (n:Int)≤(r':Int) by omega,z9,-Int.natCast_add,show i < ds.length by omega]
       exact ⟨j,by omega,by omega,x.trans x1,by simp [e0],by simp [e2],by simp [e3],by simp [e4],by simp [e14],by simp [hi2,e15,cs],by simp [e43],by simp [e44],by simp [hi2]⟩
      ·simp [l116_0,nw,e45,e44,show (i:Int) < ds.length by omega,e43,hil,rdA,hst,e2,e14,hn0,z1,z2,q0,q1,z3,z4,show ¬ (n:Int)≤(r':Int) by omega,show (n:Int)≤(c':Int) by omega,z9,-Int.natCast_add,show i < ds.length by omega]
       exact ⟨j,by omega,by omega,x.trans x1,by simp [e0],by simp [e2],by simp [e3],by simp [e4],by simp [e14],by simp [hi2,e15,cs],by simp [e43],by simp [e44],by simp [hi2]⟩)
   ds.length e g hi
  obtain ⟨s,h1,h2,h3⟩:=loop
  obtain ⟨sx,se,sh⟩:=s
  exact ⟨se,sh,by rw [h1];simp only at h2;rw [h2],h3⟩
theorem sideP_b {s:Nat} (hs:sizeOk s):4≤sideP s∧sideP s≤32:=by
  unfold sideP
  rcases hs with rfl | rfl | rfl | rfl | rfl <;> decide
theorem ctx64_ok {g:H} {L A:Nat} {lv:List Int} {size at_:Nat} {each all:Int} {ds:List (Nat × Nat)} (hs:sizeOk size) (hL:LvAt g L lv) (hA:g.get A=some (.cells (dsV ds) 151 false)) (hlv:lv.length=sideP size*sideP size) (ha:at_ < sideP size*sideP size) (he:0≤each) (he2:each≤100)
   (hds:ds.length≤8) (hd:∀ d ∈ ds,d.1≤2∧d.2≤2) :
   RT (fun w h'=>w=.tup [.int .i64 (ctxP lv (sideP size) at_ each all ds),.int .i64 0]∧Ext g h') (KW 116 [.sl L 0 lv.length (.ex lv.length),.int .i64 size,.int .i64 at_,.int .i64 each,.int .i64 all,.sl A 0 ds.length (.ex ds.length)] g):=by
  have hb:=sideP_b hs
  have e38:=side38_ok hs g
  obtain ⟨n,hn⟩:∃ n,n=sideP size:=⟨_,rfl⟩
  rw [← hn] at hb e38 hlv ha ⊢
  have hnn:n*n≤1024:=by
   have:n*n≤32*32:=Nat.mul_le_mul hb.2 hb.2
   omega
  have z1:IntKind.i64.wrap ((n:Int)*n)=(n:Int)*n:=by rw [← Int.natCast_mul];exact wi64 (by omega) (by omega)
  have hlv2:(lv.length:Int)=(n:Int)*n:=by rw [← Int.natCast_mul,hlv]
  rw [w116,f116,s116]
  have cb:=csum_b lv n at_ he ds
  have cb2:each*(ds.length:Int)≤800:=by
   calc each*(ds.length:Int)≤100*(ds.length:Int):=Int.mul_le_mul_of_nonneg_right he2 (by omega)
    _≤800:=by omega
  have z2:IntKind.i64.wrap (csum lv n at_ each ds+1)=csum lv n at_ each ds+1:=wi64 (by omega) (by omega)
  have z3:IntKind.i64.wrap ((csum lv n at_ each ds+1) / 2)=(csum lv n at_ each ds+1) / 2:=wi64 (by omega) (by omega)
  have z4:(csum lv n at_ each ds+1).tdiv 2=(csum lv n at_ each ds+1) / 2:=Int.tdiv_eq_ediv_of_nonneg (by omega)
  have hn0:¬ n=0:=by omega
  have hat:¬ (lv.length:Int)≤(at_:Int):=by omega
  simp [e38,hn0,z1,hlv2,show ¬ (at_:Int) < 0 by omega,show ¬ (n:Int)*n≤(at_:Int) by omega]
  obtain ⟨e',g',r1,I⟩:=loop64 (g0:=g) (L:=L) (A:=A) (lv:=lv) (n:=n) (at_:=at_) (each:=each) (all:=all) (ds:=ds) hL hA hlv (by omega) hb.2 ha he he2 hds hd (e:=⟨[.sl L 0 lv.length (.ex lv.length),.int .i64 size,.int .i64 at_,.int .i64 each,.int .i64 all,.sl A 0 ds.length (.ex ds.length),.int .i64 0,.int .i64 0,.int .i64 n,.int .i64 0,.tup [],.tup [],.tup [],.tup [],.sl A 0 ds.length (.ex ds.length),.int .i64 ds.length,.int .i64 0],45,.int .i64 0⟩)
   ⟨Nat.le_refl _,Ext.refl _,by simp,by simp,by simp,by simp,by simp,by simp [csum],by simp,by simp,by simp⟩
  rw [r1]
  obtain ⟨_,x,e0,e2,e3,e4,e14,e15,e43,e44,e45⟩:=I
  rw [Nat.sub_zero,List.take_length] at e15
  simp only [K64] at e4 e15
  simp [e15,e4,z2,z4,z3,minV_i,-minV2]
  exact ⟨rfl,x⟩
theorem base55_ok {g:H} {L:Nat} {lv:List Int} {size at_:Nat} (hs:sizeOk size) (hL:LvAt g L lv) (hlv:lv.length=sideP size*sideP size) (ha:at_ < sideP size*sideP size) :
   RT (fun w h'=>w=.tup [.int .i64 (baseP lv (sideP size) at_),.int .i64 0]∧Ext g h') (KW 101 [.sl L 0 lv.length (.ex lv.length),.int .i64 size,.int .i64 at_] g):=by
  obtain ⟨g1,hg1⟩:∃ y,y=g.new (.cells (dsV baseDs) 151 false):=⟨_,rfl⟩
  have x1:Ext g g1:=by rw [hg1];exact (Ext.refl g).new _
  have r1:g1.get g.n=some (.cells (dsV baseDs) 151 false):=by rw [hg1,get_new_same]
  obtain ⟨w,h',e1,rfl,x2⟩:=(ctx64_ok (A:=g.n) (ds:=baseDs) (each:=3) (all:=4) hs (hL.ext x1) r1 hlv ha (by decide) (by decide) (by decide) (by decide)).elim
  rw [← (baseP_b lv (sideP size) at_).2] at e1
  have hds:dsV baseDs=[.int .i64 0,.int .i64 1,.int .i64 1,.int .i64 0,.int .i64 1,.int .i64 1,.int .i64 0,.int .i64 2,.int .i64 2,.int .i64 0]:=rfl
  rw [hds] at hg1
  have hl:baseDs.length=5:=rfl
  rw [hl] at e1
  rw [w101,f101,s101]
  simp [bl,bs,fillW,splice,← hg1,e1]
  exact ⟨rfl,x1.trans x2⟩
theorem more65_ok {g:H} {L:Nat} {lv:List Int} {size at_:Nat} (hs:sizeOk size) (hL:LvAt g L lv) (hlv:lv.length=sideP size*sideP size) (ha:at_ < sideP size*sideP size) :
   RT (fun w h'=>w=.tup [.int .i64 (moreP lv (sideP size) at_),.int .i64 0]∧Ext g h') (KW 117 [.sl L 0 lv.length (.ex lv.length),.int .i64 size,.int .i64 at_] g):=by
  obtain ⟨g1,hg1⟩:∃ y,y=g.new (.cells (dsV moreDs) 151 false):=⟨_,rfl⟩
  have x1:Ext g g1:=by rw [hg1];exact (Ext.refl g).new _
  have r1:g1.get g.n=some (.cells (dsV moreDs) 151 false):=by rw [hg1,get_new_same]
  obtain ⟨w,h',e1,rfl,x2⟩:=(ctx64_ok (A:=g.n) (ds:=moreDs) (each:=15) (all:=6) hs (hL.ext x1) r1 hlv ha (by decide) (by decide) (by decide) (by decide)).elim
  rw [← (moreP_b lv (sideP size) at_).2] at e1
  have hds:dsV moreDs=[.int .i64 0,.int .i64 1,.int .i64 1,.int .i64 0,.int .i64 1,.int .i64 1]:=rfl
  rw [hds] at hg1
  have hl:moreDs.length=3:=rfl
  rw [hl] at e1
  rw [w117,f117,s117]
  simp [bl,bs,fillW,splice,← hg1,e1]
  exact ⟨rfl,x1.trans x2⟩
open Go.Zf (wi64)
def rowF (n s r m:Nat):List Nat:=(List.range' r m).map fun r=>r*n+(s - r)
def rowL (n s:Nat):List Nat:=rowF n s (s+1 - n) (min n (s+1) - (s+1 - n))
def rowsF (n s m:Nat):List Nat:=(List.range' s m).flatMap (rowL n)
def ordN (n:Nat):List Nat:=rowsF n 0 (2*n - 1)
theorem rowF_succ (n s r m:Nat):rowF n s r (m+1)=(r*n+(s - r)) :: rowF n s (r+1) m:=by simp [rowF,List.range'_succ]
theorem rowsF_succ (n s m:Nat):rowsF n s (m+1)=rowL n s ++ rowsF n (s+1) m:=by simp [rowsF,List.range'_succ]
def ordC (acc:List Nat) (N:Nat):List V:=intsV (acc.map fun (x:Nat)=>(x:Int)) ++ List.replicate (N - acc.length) (.int .i64 0)
theorem ordC_len {acc:List Nat} {N:Nat} (h:acc.length≤N):(ordC acc N).length=N:=by simp [ordC,intsV];omega
theorem ordC_set {acc:List Nat} {N x:Nat} (h:acc.length < N):(ordC acc N).set acc.length (.int .i64 (x:Nat))=ordC (acc ++ [x]) N:=by
  unfold ordC
  obtain ⟨k,hk⟩:∃ k,N - acc.length=k+1:=⟨N - acc.length - 1,by omega⟩
  rw [hk,List.replicate_succ]
  have h1:(acc ++ [x]).length=acc.length+1:=by simp
  rw [h1,show N - (acc.length+1)=k by omega]
  simp [intsV,List.set_append]
theorem apZ_fit {h:H} {b len N:Nat} {cs:List V} {x:V} (hb:h.get b=some (.cells cs 3 false)) (hc:cs.length=N) (hl:len < N) :
   apZ 3 1 8 (h.new (.cells [x] 3 false)) (.sl b 0 len (.ex N)) (.sl h.n 0 1 (.ex 1))=some (.sl b 0 (len+1) (.ex N),(h.new (.cells [x] 3 false)).put b (.cells (cs.set len x) 3 false)):=by
  have hbn:=H.get_lt hb
  have g1:(h.new (.cells [x] 3 false)).get b=some (.cells cs 3 false):=by rw [get_new_lt hbn,hb]
  have g2:(h.new (.cells [x] 3 false)).rdN h.n 0 1=some [x]:=by rw [rdN_of get_new_same (by simp)];rfl
  have g3:(h.new (.cells [x] 3 false)).wrN b len [x]=some ((h.new (.cells [x] 3 false)).put b (.cells (splice cs len [x]) 3 false)):=wrN_of g1 (by simp;omega)
  have g4:splice cs len [x]=cs.set len x:=by
   rw [List.set_eq_take_append_cons_drop,if_pos (by omega)];simp [splice]
  simp [apZ,lenOf,firstV,g2,apN,show len+1≤N by omega,g3,g4]
abbrev K25:List Nat:=[0,2,3,4,5,6,7,8]
structure I25 (g0:H) (n b s:Nat) (acc rest:List Nat) (r:Nat) (e:E) (g:H):Prop where
  x:Ext g0 g
  hb:g0.n≤b
  get:g.get b=some (.cells (ordC acc (n*n)) 3 false)
  cut:ordN n=acc ++ rest
  e4:e.s K25 4=.int .i64 (n:Nat)
  e5:e.s K25 5=.sl b 0 acc.length (.ex (n*n))
  e6:e.s K25 6=.int .i64 (s:Nat)
structure J25 (g0:H) (n b s:Nat) (m:Nat) (e:E) (g:H):Prop where
  hm:m≤min n (s+1)
  lo:s+1 - n≤min n (s+1) - m
  I:∃ acc,I25 g0 n b s acc (rowF n s (min n (s+1) - m) m ++ rowsF n (s+1) (2*n - 1 - (s+1))) 0 e g
  e7:e.s K25 7=.int .i64 ((min n (s+1) - m:Nat):Int)
theorem diag25 {g0:H} {n b s:Nat} (hN:(ordN n).length=n*n) (hn:0 < n) (hn2:n≤32) (hs:s < 2*n - 1) {m:Nat} {e:E} {g:H} (hi:J25 g0 n b s m e g) :
   ∃ e' g',loopZ (l39_0 KW loopZ) e g=some ⟨.ex 1,e',g'⟩∧∃ acc,I25 g0 n b s acc (rowsF n (s+1) (2*n - 1 - (s+1))) 0 e' g':=by
  have loop:=loop_run (body:=l39_0 KW loopZ) (J25 g0 n b s) (fun st=>st.x=.ex 1∧∃ acc,I25 g0 n b s acc (rowsF n (s+1) (2*n - 1 - (s+1))) 0 st.e st.h)
   (fun m e g hi=>by
    obtain ⟨hm,lo,⟨acc,x,hb,get,cut,e4,e5,e6⟩,e7⟩:=hi
    obtain ⟨r,hr⟩:∃ r,r=min n (s+1) - m:=⟨_,rfl⟩
    rw [← hr] at e7 cut lo
    have hrn:r≤n:=by omega
    have z1:IntKind.i64.wrap ((s:Int) - r)=(s:Int) - r:=wi64 (by omega) (by omega)
    have z2:IntKind.i64.wrap (2*(n:Int))=2*(n:Int):=wi64 (by omega) (by omega)
    have z3:IntKind.i64.wrap (2*(n:Int) - 1)=2*(n:Int) - 1:=wi64 (by omega) (by omega)
    cases m with
    | zero =>
     have h0:rowF n s r 0=[]:=rfl
     rw [h0,List.nil_append] at cut
     have hr2:r=n∨(r=s+1∧r < n):=by omega
     rcases hr2 with h | ⟨h,h'⟩
     ·subst h
      have hne:¬ (s:Int)=2*(r:Int) - 1:=by omega
      simp [l39_0,e6,e7,z1,e4,z2,z3,hne]
      exact ⟨rfl,acc,x,hb,get,cut,by simp [e4],by simp [e5],by simp [e6]⟩
     ·have hne:¬ r=n:=by omega
      simp [l39_0,e6,e7,z1,e4,z2,z3,hne,show ¬ (r:Int)=(n:Int) by omega,show ((s:Int) - r) < 0 by omega]
      exact ⟨rfl,acc,x,hb,get,cut,by simp [e4],by simp [e5],by simp [e6]⟩
    | succ m =>
     rw [rowF_succ,List.cons_append] at cut
     have hrn2:r < n:=by omega
     have hrs:r≤s:=by omega
     have hlen:=congrArg List.length cut
     rw [hN,List.length_append,List.length_cons] at hlen
     have hne:¬ r=n:=by omega
     have hrm:r*n≤31*32:=Nat.mul_le_mul (by omega) hn2
     have z4:IntKind.i64.wrap ((r:Int)*n)=(r:Int)*n:=by rw [← Int.natCast_mul];exact wi64 (by omega) (by omega)
     have z5:IntKind.i64.wrap ((r:Int)*n+((s:Int) - r))=((r*n+(s - r):Nat):Int):=by rw [← Int.natCast_mul,wi64 (by omega) (by omega)];omega
     have z6:IntKind.i64.wrap ((r:Int)+1)=((r+1:Nat):Int):=by rw [wi64 (by omega) (by omega)];omega
     obtain ⟨p,hp⟩:∃ p,p=r*n+(s - r):=⟨_,rfl⟩
     rw [← hp] at z5 cut
     have ap:=apZ_fit (x:=.int .i64 (p:Nat)) (len:=acc.length) get (ordC_len (by omega)) (by omega)
     rw [ordC_set (by omega)] at ap
     obtain ⟨g1,hg1⟩:∃ y,y=(g.new (.cells [.int .i64 (p:Nat)] 3 false)).put b (.cells (ordC (acc ++ [p]) (n*n)) 3 false):=⟨_,rfl⟩
     rw [← hg1] at ap
     have hbg:=H.get_lt get
     simp [l39_0,e6,e7,z1,e4,z2,z3,hne,show ¬ (r:Int)=(n:Int) by omega,show ¬ ((s:Int) - r) < 0 by omega,z4,z5,bs,fillW,splice,e5,ap,z6,-Int.natCast_add]
     refine ⟨m,by omega,by omega,by omega,⟨acc ++ [p],?_,hb,?_,?_,by simp [e4],by simp [e5],by simp [e6]⟩,?_⟩
     ·rw [hg1];exact (x.new _).put hb _
     ·rw [hg1,get_put_same (by rw [H.n_new];omega)]
     ·rw [cut,show min n (s+1) - m=r+1 by omega];simp
     ·simp [show min n (s+1) - m=r+1 by omega])
   m e g hi
  obtain ⟨st,h1,h2,h3⟩:=loop
  obtain ⟨sx,se,sh⟩:=st
  exact ⟨se,sh,by rw [h1];simp only at h2;rw [h2],h3⟩
structure O25 (g0:H) (n b:Nat) (j:Nat) (e:E) (g:H):Prop where
  hj:j≤2*n - 1
  I:∃ acc,I25 g0 n b (2*n - 1 - j) acc (rowsF n (2*n - 1 - j) j) 0 e g
theorem order25_ok {size:Nat} (hs:sizeOk size) (hN:(ordN (sideP size)).length=sideP size*sideP size) (g:H) :
   RT (fun w h'=>∃ b,w=.tup [.sl b 0 (sideP size*sideP size) (.ex (sideP size*sideP size)),.int .i64 0]∧g.n≤b∧h'.get b=some (.cells (intsV ((ordN (sideP size)).map fun (x:Nat)=>(x:Int))) 3 false)∧Ext g h') (KW 39 [.int .i64 size] g):=by
  have hb:=sideP_b hs
  have e38:=side38_ok hs g
  obtain ⟨n,hn⟩:∃ n,n=sideP size:=⟨_,rfl⟩
  rw [← hn] at hb e38 hN ⊢
  have hnn:n*n≤1024:=by
   have:n*n≤32*32:=Nat.mul_le_mul hb.2 hb.2
   omega
  have z1:IntKind.i64.wrap ((n:Int)*n)=((n*n:Nat):Int):=by rw [← Int.natCast_mul];exact wi64 (by omega) (by omega)
  obtain ⟨g1,hg1⟩:∃ y,y=g.new (.cells (ordC [] (n*n)) 3 false):=⟨_,rfl⟩
  have x1:Ext g g1:=by rw [hg1];exact (Ext.refl g).new _
  have r1:g1.get g.n=some (.cells (ordC [] (n*n)) 3 false):=by rw [hg1,get_new_same]
  have hms:ms g 3 8 [.int .i64 0] (.int .i64 0) (.int .i64 ((n*n:Nat):Int))=some (.sl g.n 0 0 (.ex (n*n)),g1):=by
   have hm:ms g 3 8 [.int .i64 0] (.int .i64 0) (.int .i64 ((n*n:Nat):Int))=if (0:Int)≤0∧(0:Int)≤((n*n:Nat):Int)∧((8:Nat):Int)*((n*n:Nat):Int)≤140737488355328∧((n*n:Nat):Int) < 9223372036854775808∧true=true then some (.sl g.n 0 (0:Int).toNat (.ex ((n*n:Nat):Int).toNat),g.new (.cells (reps ((n*n:Nat):Int).toNat [.int .i64 0]) 3 false)) else none:=rfl
   rw [hm,if_pos ⟨by omega,by omega,by omega,by omega,rfl⟩,hg1,Int.toNat_natCast,reps_one]
   rfl
  have z2:IntKind.i64.wrap (0 - (n:Int)) = -(n:Int):=by rw [wi64 (by omega) (by omega)];omega
  rw [w39,f39,s39]
  simp only [E_s,k39]
  simp [e38,show ¬ n=0 by omega,z1,hms,-Int.natCast_mul]
  refine loop_in (C:=fun o=>RT _ (fin Tryz.prog _ _ (sq (blk 0 o) _))) (O25 g n g.n) (fun st=>st.x=.ex 0∧∃ acc,I25 g n g.n (2*n - 1) acc [] 0 st.e st.h) ?_ (2*n - 1) ?_ ?_
  ·intro j e g' hi
   obtain ⟨hj,acc,x,hb1,get,cut,e4,e5,e6⟩:=hi
   obtain ⟨s,hs'⟩:∃ s,s=2*n - 1 - j:=⟨_,rfl⟩
   rw [← hs'] at cut e6
   have z3:IntKind.i64.wrap ((s:Int) - n)=(s:Int) - n:=wi64 (by omega) (by omega)
   have z4:IntKind.i64.wrap ((s:Int) - n+1)=(s:Int) - n+1:=wi64 (by omega) (by omega)
   have z5:IntKind.i64.wrap ((s:Int)+1)=((s+1:Nat):Int):=by rw [wi64 (by omega) (by omega)];omega
   have z6:imax 0 ((s:Int) - n+1)=((s+1 - n:Nat):Int):=by unfold imax;split <;> omega
   cases j with
   | zero =>
    have hs2:s=2*n - 1:=by omega
    have z7:s+1 - n=n:=by omega
    rw [z7] at z6
    have z8:IntKind.i64.wrap ((s:Int) - n)=(s:Int) - n:=z3
    have z9:IntKind.i64.wrap (2*(n:Int))=2*(n:Int):=wi64 (by omega) (by omega)
    have z10:IntKind.i64.wrap (2*(n:Int) - 1)=2*(n:Int) - 1:=wi64 (by omega) (by omega)
    simp [l39_1,e6,e4,z3,z4,maxV_i,-maxV2,z6]
    rw [loopZ_eq]
    simp [l39_0,e6,e4,z3,z9,z10,show (s:Int)=2*(n:Int) - 1 by omega]
    refine ⟨rfl,acc,x,hb1,get,?_,by simp [e4],by simp [e5],?_⟩
    ·rw [cut];simp [rowsF]
    ·simp [e6];omega
   | succ j =>
    simp [l39_1,e6,e4,z3,z4,maxV_i,-maxV2,z6]
    have cut':ordN n=acc ++ (rowF n s (s+1 - n) (min n (s+1) - (s+1 - n)) ++ rowsF n (s+1) (2*n - 1 - (s+1))):=by
     rw [cut,rowsF_succ,show 2*n - 1 - (s+1)=j by omega];rfl
    have D:=diag25 (g0:=g) (n:=n) (b:=g.n) (s:=s) hN (by omega) hb.2 (by omega) (m:=min n (s+1) - (s+1 - n)) (e:=⟨[e.s K25 0,e.s K25 2,e.s K25 3,.int .i64 (n:Nat),e.s K25 5,.int .i64 (s:Nat),.int .i64 ((s+1 - n:Nat):Int),e.s K25 8],7,.int .i64 ((s+1 - n:Nat):Int)⟩) (g:=g')
     ⟨by omega,by omega,⟨acc,x,hb1,get,by rw [show min n (s+1) - (min n (s+1) - (s+1 - n))=s+1 - n by omega];exact cut',by simp,by simp [e5],by simp⟩,by simp;omega⟩
    obtain ⟨e',g'',l1,acc',x',hb',get',cut'',e4',e5',e6'⟩:=D
    rw [l1]
    simp only [K25] at e4' e5' e6'
    simp [e6',z5,-Int.natCast_add]
    refine ⟨j,by omega,by omega,acc',x',hb',get',?_,by simp [e4'],by simp [e5'],?_⟩
    ·rw [cut'',show 2*n - 1 - (s+1)=j by omega,show 2*n - 1 - j=s+1 by omega]
    ·simp [show 2*n - 1 - j=s+1 by omega]
  ·refine ⟨Nat.le_refl _,[],⟨x1,Nat.le_refl _,r1,?_,by simp,by simp,by simp⟩⟩
   rw [Nat.sub_self];rfl
  ·rintro ⟨sx,se,sh⟩ ⟨h1,acc,x,hb1,get,cut,e4,e5,e6⟩
   simp only at h1
   subst h1
   rw [List.append_nil] at cut
   have hl:acc.length=n*n:=by rw [← cut,hN]
   simp only [K25] at e5
   simp [e5,hl]
   refine ⟨g.n,rfl,hb1,?_,x⟩
   rw [get,cut];simp [ordC,hl]
structure OrdOk (n:Nat):Prop where
  len:(ordN n).length=n*n
  nod:(ordN n).Nodup
  lt:∀ x ∈ ordN n,x < n*n
  mem:∀ x,x < n*n→x ∈ ordN n
theorem mem_rowL {n s x:Nat}:x ∈ rowL n s ↔ ∃ r,s+1≤n+r∧r < n∧r≤s∧x=r*n+(s - r):=by
  unfold rowL rowF
  rw [List.mem_map]
  constructor
  ·rintro ⟨r,hr,rfl⟩
   rw [List.mem_range'_1] at hr
   exact ⟨r,by omega,by omega,by omega,rfl⟩
  ·rintro ⟨r,h1,h2,h3,rfl⟩
   exact ⟨r,by rw [List.mem_range'_1];omega,rfl⟩
theorem row_dm {n s r:Nat} (h1:s+1≤n+r) (h2:r < n) (h3:r≤s):(r*n+(s - r)) / n=r∧(r*n+(s - r)) % n=s - r:=by
  have hn:0 < n:=by omega
  have hs:s - r < n:=by omega
  constructor
  ·rw [Nat.mul_comm,Nat.mul_add_div hn,Nat.div_eq_of_lt hs];omega
  ·rw [Nat.mul_comm,Nat.mul_add_mod,Nat.mod_eq_of_lt hs]
theorem ord_lens {s:Nat} (hs:sizeOk s):(ordN (sideP s)).length=sideP s*sideP s:=by
  rcases hs with rfl | rfl | rfl | rfl | rfl <;> kernel_rfl
theorem ord_ok {s:Nat} (hs:sizeOk s):OrdOk (sideP s):=by
  have hb:=sideP_b hs
  have hl:=ord_lens hs
  obtain ⟨n,hn⟩:∃ n,n=sideP s:=⟨_,rfl⟩
  rw [← hn] at hb hl ⊢
  refine ⟨hl,?_,?_,?_⟩
  ·unfold ordN rowsF List.Nodup
   rw [List.pairwise_flatMap]
   constructor
   ·intro t ht
    unfold rowL rowF
    rw [List.pairwise_map]
    refine List.Pairwise.imp_of_mem ?_ (List.pairwise_lt_range' (s:=t+1 - n) (n:=min n (t+1) - (t+1 - n)) (step:=1) (by decide))
    intro a b ha hb' hab e
    rw [List.mem_range'_1] at ha hb'
    have d1:=row_dm (n:=n) (s:=t) (r:=a) (by omega) (by omega) (by omega)
    have d2:=row_dm (n:=n) (s:=t) (r:=b) (by omega) (by omega) (by omega)
    rw [e] at d1
    omega
   ·refine List.Pairwise.imp ?_ (List.pairwise_lt_range' (s:=0) (n:=2*n - 1) (step:=1) (by decide))
    intro a b hab x hx y hy e
    subst e
    obtain ⟨r,h1,h2,h3,h4⟩:=mem_rowL.1 hx
    obtain ⟨q,k1,k2,k3,k4⟩:=mem_rowL.1 hy
    have d1:=row_dm h1 h2 h3
    have d2:=row_dm k1 k2 k3
    rw [← h4] at d1
    rw [← k4] at d2
    omega
  ·intro x hx
   unfold ordN rowsF at hx
   rw [List.mem_flatMap] at hx
   obtain ⟨t,ht,hx⟩:=hx
   obtain ⟨r,h1,h2,h3,rfl⟩:=mem_rowL.1 hx
   have:(r+1)*n≤n*n:=Nat.mul_le_mul_right n (by omega)
   rw [Nat.succ_mul] at this
   omega
  ·intro x hx
   have hr:x / n < n:=(Nat.div_lt_iff_lt_mul (by omega)).2 hx
   have hc:x % n < n:=Nat.mod_lt _ (by omega)
   have hd:=Nat.div_add_mod x n
   rw [Nat.mul_comm] at hd
   unfold ordN rowsF
   rw [List.mem_flatMap]
   obtain ⟨r,hr'⟩:∃ r,r=x / n:=⟨_,rfl⟩
   obtain ⟨c,hc'⟩:∃ c,c=x % n:=⟨_,rfl⟩
   rw [← hr',← hc'] at hd
   rw [← hr'] at hr
   rw [← hc'] at hc
   refine ⟨r+c,by rw [List.mem_range'_1];omega,mem_rowL.2 ⟨r,by omega,hr,by omega,?_⟩⟩
   rw [Nat.add_sub_cancel_left,hd]
open Go.Zf (wi64)
theorem bc_pan (keep ds:List Nat) (e:E) (v:V) (h:H) (k:V→H→Out):bc keep ds e (some (.pan v,h)) k=some ⟨.pn v,fgE keep ds e,h⟩:=id rfl
theorem sq_pn (v:V) (e:E) (h:H) (k:E→H→Out):sq (some ⟨.pn v,e,h⟩) k=some ⟨.pn v,e,h⟩:=id rfl
theorem blk_pn (n:Nat) (v:V) (e:E) (h:H):blk n (some ⟨.pn v,e,h⟩)=some ⟨.pn v,e,h⟩:=id rfl
theorem fin_pn (P:Program) (keep:List Nat) (rs:List ResultVar) (v:V) (e:E) (h:H):fin P keep rs (some ⟨.pn v,e,h⟩)=some (.pan v,h):=id rfl
theorem panV_i (t:TypeId) (v:V) (h:H):panV (.iface t v) h=some (.pan (.iface t v),h):=id rfl
def RP (ok:V→H→Prop) (bad:H→Prop):Option (Rv × H)→Prop
  | some (.ret v,h)=>ok v h
  | some (.pan v,h)=>v=.iface 112 (.agg [.int .i64 4])∧bad h
  | none=>False
theorem RP_cg {ok:V→H→Prop} {bad:H→Prop} {x y:Option (Rv × H)} (h:x=y):RP ok bad x=RP ok bad y:=by rw [h]
attribute [congr] RP_cg
theorem RP.elim {ok:V→H→Prop} {bad:H→Prop} {x:Option (Rv × H)} (a:RP ok bad x):(∃ v h',x=some (.ret v,h')∧ok v h')∨(∃ h',x=some (.pan (.iface 112 (.agg [.int .i64 4])),h')∧bad h'):=by
  unfold RP at a
  split at a
  ·exact .inl ⟨_,_,rfl,a⟩
  ·obtain ⟨rfl,a⟩:=a;exact .inr ⟨_,rfl,a⟩
  ·exact a.elim
structure IntsX (X:Nat→Prop) (h:H) (v:V) (l:List Int):Prop where
  len:lnS v=some (.int .i64 l.length)
  at_:∀ (i:Nat) x,l[i]?=some x→∃ b o,iaS 1 v (.int .i64 (i:Nat))=some (.ptr b o)∧h.rd1 b o=some (.int .i64 x)∧¬ X b∧b < h.n
  cell:v.isCell=true
  same:V.same v v=true
  cells:V.cells v=some [v]
structure Base (D0:Nat→Prop) (h0:H) (q c ob:Nat) (vs:V) (L:Nat) (B:BD):Prop where
  hq:h0.get q=some (.cells [.ptr c 0,.int .i64 B.size,.int .i64 B.colour,.int .i64 B.sign,.sl ob 0 (B.n*B.n) (.ex (B.n*B.n)),vs,.sl L 0 (B.n*B.n) (.ex (B.n*B.n))] 87 false)
  ho:h0.get ob=some (.cells (intsV (B.ord.map fun (x:Nat)=>(x:Int))) 3 false)
  hs:IntsX (fun b=>D0 b∨b=L) h0 vs B.src
  nq:¬ D0 q∧q ≠ L
  no:¬ D0 ob∧ob ≠ L
  nl:¬ D0 L∧L < h0.n
  size:sizeOk B.size
  n:B.n=sideP B.size
  colour:B.colour≤1
  sign:B.sign≤2
  ord:B.ord=ordN B.n
  ordl:B.ord.length=B.n*B.n
  ordb:∀ x ∈ B.ord,x < B.n*B.n
  srcl:B.src.length=B.n*B.n
  srcb:∀ x ∈ B.src,-1048576≤x∧x≤1048576
  dn:∀ b,D0 b→b < h0.n
structure Cd (D0:Nat→Prop) (h0:H) (c L:Nat) (B:BD) (h:H) (m:Nat) (st:St) (lv:List Int):Prop where
  C:CoderAt (grow D0 h0 h) h c m st
  x:Mod (fun b=>D0 b∨b=L) h0 h
  l:LvAt h L lv
  ll:lv.length=B.n*B.n
  wr:st.sd.writes=B.wr
section cd
variable {D0:Nat→Prop} {h0 h h':H} {q c ob L m:Nat} {vs:V} {B:BD} {st:St} {lv:List Int}
theorem Base.nn (S:Base D0 h0 q c ob vs L B):4≤B.n∧B.n≤32∧16≤B.n*B.n∧B.n*B.n≤1024:=by
  have h1:=sideP_b S.size
  rw [← S.n] at h1
  have:B.n*B.n≤32*32:=Nat.mul_le_mul h1.2 h1.2
  have:4*4≤B.n*B.n:=Nat.mul_le_mul h1.1 h1.1
  omega
theorem Base.src (S:Base D0 h0 q c ob vs L B) (i:Nat) : -1048576≤B.src.getD i 0∧B.src.getD i 0≤1048576:=by
  by_cases hi:i < B.src.length
  ·have:B.src.getD i 0=B.src[i]:=by simp [List.getD,hi]
   rw [this];exact S.srcb _ (List.getElem_mem hi)
  ·have:B.src.getD i 0=0:=by simp [List.getD,List.getElem?_eq_none (by omega:B.src.length≤i)]
   rw [this];omega
theorem Cd.gq (S:Base D0 h0 q c ob vs L B) (a:Cd D0 h0 c L B h m st lv):h.get q=some (.cells [.ptr c 0,.int .i64 B.size,.int .i64 B.colour,.int .i64 B.sign,.sl ob 0 (B.n*B.n) (.ex (B.n*B.n)),vs,.sl L 0 (B.n*B.n) (.ex (B.n*B.n))] 87 false):=by
  rw [a.x.get _ (H.get_lt S.hq) (by rintro (e | e);exact S.nq.1 e;exact S.nq.2 e),S.hq]
theorem Cd.o (S:Base D0 h0 q c ob vs L B) (a:Cd D0 h0 c L B h m st lv) {i:Nat} (hi:i < B.n*B.n):h.rd1 ob i=some (.int .i64 (B.ord.getD i 0:Nat))∧B.ord.getD i 0 < B.n*B.n:=by
  have h1:h.get ob=_:=(a.x.get _ (H.get_lt S.ho) (by rintro (e | e);exact S.no.1 e;exact S.no.2 e)).trans S.ho
  have hi2:i < B.ord.length:=by rw [S.ordl];exact hi
  refine ⟨?_,?_⟩
  ·rw [rd1_of h1];simp [intsV,hi2]
  ·have:B.ord.getD i 0=B.ord[i]:=by simp [List.getD,hi2]
   rw [this];exact S.ordb _ (List.getElem_mem hi2)
theorem Cd.s (S:Base D0 h0 q c ob vs L B) (a:Cd D0 h0 c L B h m st lv) {i:Nat} (hi:i < B.n*B.n):∃ b o,iaS 1 vs (.int .i64 (i:Nat))=some (.ptr b o)∧h.rd1 b o=some (.int .i64 (B.src.getD i 0)):=by
  have hi2:i < B.src.length:=by rw [S.srcl];exact hi
  obtain ⟨b,o,h1,h2,h3,h4⟩:=S.hs.at_ i _ (List.getElem?_eq_getElem hi2)
  refine ⟨b,o,h1,?_⟩
  have:B.src.getD i 0=B.src[i]:=by simp [List.getD,hi2]
  rw [this,← h2]
  have hg:=a.x.get b h4 h3
  unfold H.rd1;rw [hg]
theorem Cd.step (S:Base D0 h0 q c ob vs L B) (a:Cd D0 h0 c L B h m st lv) {m':Nat} {st':St} (C':CoderAt (grow (grow D0 h0 h) h h') h' c m' st') (M:Mod (grow D0 h0 h) h h') (w:st'.sd.writes=st.sd.writes):Cd D0 h0 c L B h' m' st' lv:=by
  have hn:=a.x.n
  have nL:¬ grow D0 h0 h L:=by rintro (e | e);exact S.nl.1 e;have:=S.nl.2;omega
  refine ⟨C'.mono fun b hb hd=>?_,⟨by have:=M.n;omega,fun b hb hd=>?_⟩,⟨?_,a.l.b⟩,a.ll,by rw [w,a.wr]⟩
  ·rcases hd with (e | e) | e
   ·exact .inl e
   ·exact .inr ⟨e.1,hb⟩
   ·exact .inr ⟨by omega,hb⟩
  ·rw [M.get b (by omega) (by rintro (e | e);exact hd (.inl e);omega),a.x.get b hb hd]
  ·rw [M.get L (H.get_lt a.l.get) nL,a.l.get]
theorem Cd.ext (S:Base D0 h0 q c ob vs L B) (a:Cd D0 h0 c L B h m st lv) (x:Ext h h'):Cd D0 h0 c L B h' m st lv:=by
  have hn:=a.x.n
  have hx:=x.n
  refine ⟨(a.C.keep x.n fun b _ hb=>x.get b hb).mono fun b hb hd=>?_,⟨by omega,fun b hb hd=>by rw [x.get b (by omega),a.x.get b hb hd]⟩,a.l.ext x,a.ll,a.wr⟩
  rcases hd with e | e
  ·exact .inl e
  ·exact .inr ⟨e.1,hb⟩
theorem Cd.more (a:Cd D0 h0 c L B h m st lv) {m':Nat} (hm:m≤m') (hm':m' < 100000000):Cd D0 h0 c L B h m' st lv:=by
  obtain ⟨vo,vi,vs,Ds,Dw,h1,h2,h3,h4,h5,h6,h7,h8,h9⟩:=a.C
  refine ⟨⟨vo,vi,vs,Ds,Dw,h1,h2,h3,?_,h5,h6,⟨h7.1,by omega⟩,h8,h9⟩,a.x,a.l,a.ll,a.wr⟩
  generalize st.sd=sd at h4 ⊢
  cases sd with
  | w out low rng=>exact ⟨h4.1,by have:=h4.2.1;omega,hm'⟩
  | r rest code rng=>exact ⟨h4.1,h4.2.1,hm'⟩
theorem Cd.set (S:Base D0 h0 q c ob vs L B) (a:Cd D0 h0 c L B h m st lv) {i:Nat} {v:Int} (hi:i < B.n*B.n) (hv : -4611686018427387904 < v∧v < 4611686018427387904) :
   h.wr1 L i (.int .i64 v)=some (h.put L (.cells (intsV (lv.set i v)) 3 false))∧Cd D0 h0 c L B (h.put L (.cells (intsV (lv.set i v)) 3 false)) m st (lv.set i v):=by
  have hl:=H.get_lt a.l.get
  have hn:=a.x.n
  have nL:¬ grow D0 h0 h L:=by rintro (e | e);exact S.nl.1 e;have:=S.nl.2;omega
  have e1:(intsV lv).set i (.int .i64 v)=intsV (lv.set i v):=by simp [intsV,List.map_set]
  refine ⟨by rw [wr1_of a.l.get (by rw [intsV_length,a.ll];exact hi),e1],⟨(a.C.keep (by rw [H.n_put];exact Nat.le_refl _) fun b hb hb2=>get_put_ne (by rintro rfl;exact nL hb)).mono fun b hb hd=>?_,⟨by rw [H.n_put];exact hn,fun b hb hd=>?_⟩,⟨get_put_same hl,?_⟩,by rw [List.length_set];exact a.ll,a.wr⟩⟩
  ·rcases hd with e | e
   ·exact .inl e
   ·exact .inr ⟨e.1,by rw [H.n_put];exact e.2⟩
  ·rw [get_put_ne (by rintro rfl;exact hd (.inr rfl)),a.x.get b hb hd]
  ·intro x hx
   rcases List.mem_or_eq_of_mem_set hx with e | e
   ·exact a.l.b x e
   ·rw [e];exact hv
theorem Side.bits_writes:∀ (j v out:Nat) (sd:Side),(bits j v out sd).2.writes=sd.writes
  | 0,v,out,sd=>rfl
  | j+1,v,out,sd=>by rw [bits,Side.bits_writes];exact Side.code_writes _ _ _
theorem CoderAt.ok {D:Nat→Prop} {h:H} {p m:Nat} {st:St} (a:CoderAt D h p m st):SetOk st.S∧SideOk m st.sd∧0≤st.n∧st.n≤100*m:=by
  obtain ⟨vo,vi,vs,Ds,Dw,h1,h2,h3,h4,h5,h6,h7,h8,h9⟩:=a
  exact ⟨h6,h4,h7.1,h7.2⟩
theorem St.symV_lt {st:St} (ok:SetOk st.S) {k x:Nat} {v:Int} (hk:k < 32) (hx:x < cx k) (hv:st.sd.writes=true→0≤v∧v < vl k):st.symV k x v < vl k:=by
  obtain ⟨r,_,_,tok,tl⟩:=ok.get hk hx
  have:=(Side.val_may (v:=v) (sd:=st.sd) tok (by rw [tl];exact hv)).1
  rw [tl] at this;exact this
theorem St.numV_lt {st:St} {m:Nat} (ok:SideOk m st.sd) {n v:Nat} (hm:m+n < 100000000):st.numV n v < 2 ^ n:=by
  have:=(bits_ok n v 0 ok hm).2
  simpa [St.numV] using this
theorem bits_out (j:Nat):∀ (v out:Nat) (sd:Side),sd.writes=true→(bits j v out sd).1=out*2 ^ j+v % 2 ^ j:=by
  induction j with
  | zero=>intro v out sd hw;simp [bits];omega
  | succ j ih =>
   intro v out sd hw
   rw [bits,ih _ _ _ (by rw [Side.code_writes];exact hw)]
   have hb:sd.bit (v / 2 ^ j % 2)=v / 2 ^ j % 2:=by cases sd with | w=>rfl | r=>cases hw
   rw [hb]
   have h1:v % 2 ^ (j+1)=v % 2 ^ j+2 ^ j*(v / 2 ^ j % 2):=by rw [Nat.pow_succ,Nat.mod_mul]
   rw [h1,Nat.pow_succ,Nat.add_mul,Nat.mul_comm 2 out,Nat.mul_assoc,Nat.mul_comm 2 (2 ^ j),Nat.mul_comm (2 ^ j) (v / 2 ^ j % 2)]
   omega
theorem St.numV_w {st:St} (hw:st.sd.writes=true) (n v:Nat) (hv:v < 2 ^ n):st.numV n v=v:=by
  unfold St.numV;rw [bits_out n v 0 _ hw,Nat.mod_eq_of_lt hv];omega
theorem St.symV_w {st:St} (hw:st.sd.writes=true) (k x:Nat) (v:Int):st.symV k x v=v.toNat:=by
  unfold St.symV;generalize st.sd=sd at hw;cases sd with | w=>rfl | r=>cases hw
theorem St.sym_wr (st:St) (k x:Nat) (v:Int):(st.sym k x v).sd.writes=st.sd.writes:=Side.code_writes _ _ _
theorem St.num_wr (st:St) (n v:Nat):(st.num n v).sd.writes=st.sd.writes:=Side.bits_writes _ _ _ _
theorem sym50_ok (S:Base D0 h0 q c ob vs L B) (a:Cd D0 h0 c L B h m st lv) {k x:Nat} {v:Int} (hm:m+1 < 100000000) (hk:k < 32) (hx:x < cx k) (hv:0≤v∧v < vl k) :
   RT (fun w h'=>w=.int .i64 (st.symV k x v:Nat)∧Cd D0 h0 c L B h' (m+1) (st.sym k x v) lv) (KW 96 [.ptr q 0,.int .i64 k,.int .i64 x,.int .i64 v] h):=by
  obtain ⟨w,h1,e1,rfl,C1,M1⟩:=(symbol30_ok a.C hm hk hx (fun _=>hv)).elim
  have e0:h.rd1 q 0=some (.ptr c 0):=by rw [rd1_of (a.gq S)];rfl
  rw [w96,f96,s96]
  simp [e0,e1,must61_ok]
  exact ⟨rfl,a.step S C1 M1 (St.sym_wr _ _ _ _)⟩
theorem num54_ok (S:Base D0 h0 q c ob vs L B) (a:Cd D0 h0 c L B h m st lv) {n:Nat} {v:Int} (hm:m+n < 100000000) (hn:n≤30) (hv:B.wr=true→0≤v∧v < 2 ^ n) :
   RT (fun w h'=>w=.int .i64 (st.numV n v.toNat:Nat)∧Cd D0 h0 c L B h' (m+n) (st.num n v.toNat) lv) (KW 100 [.ptr q 0,.int .i64 n,.int .i64 v] h):=by
  obtain ⟨w,h1,e1,rfl,C1,M1⟩:=(bits29_ok (n:=n) (v:=v) a.C hn hm (fun hw=>by rw [a.wr] at hw;have:=hv hw;refine ⟨this.1,?_⟩;unfold pw;have e:=two_pow_cast n;omega)).elim
  have e0:h.rd1 q 0=some (.ptr c 0):=by rw [rd1_of (a.gq S)];rfl
  rw [w100,f100,s100]
  simp [e0,e1,must61_ok]
  exact ⟨rfl,a.step S C1 M1 (St.num_wr _ _ _)⟩
theorem writes26_ok {D:Nat→Prop} {h:H} {p m:Nat} {st:St} (a:CoderAt D h p m st):KW 40 [.ptr p 0] h=some (.ret (.bool st.sd.writes),h):=by
  obtain ⟨vo,vi,vs,Ds,Dw,h1,h2,h3,_⟩:=a
  exact writes14_ok h1 h3
end cd
open Go.Zf (wi64)
section cd
variable {D0:Nat→Prop} {h0 h h':H} {q c ob L m:Nat} {vs:V} {B:BD} {st:St} {lv:List Int}
abbrev K66:List Nat:=[0,1,4,5,6,7,8]
structure I66 (D0:Nat→Prop) (h0:H) (q c L:Nat) (B:BD) (lv:List Int) (X M:Nat) (R:Option Nat × St) (j:Nat) (e:E) (g:H):Prop where
  j1:1≤j
  j2:j≤21
  C:∃ st,Cd D0 h0 c L B g (M - j) st lv∧(lenP B.wr X j (21 - j)).exec st=R
  e0:e.s K66 0=.ptr q 0
  e5:e.s K66 5=.int .i64 (X:Nat)
  e6:e.s K66 6=.int .i64 ((21 - j:Nat):Int)
  e7:e.s K66 7=.int .i64 (Nat.log2 X:Nat)
structure O66 (D0:Nat→Prop) (h0:H) (q c L:Nat) (B:BD) (lv:List Int) (X M:Nat) (R:Option Nat × St) (e:E) (g:H):Prop where
  ex:∃ k st,k≤20∧(B.wr=true→k=Nat.log2 X)∧Cd D0 h0 c L B g M st lv∧(Pr.num k (if B.wr then (X:Int) - 2 ^ k else 0) fun v=>Pr.done (2 ^ k+v - 1)).exec st=R∧e.s K66 6=.int .i64 (k:Nat)
  e0:e.s K66 0=.ptr q 0
  e5:e.s K66 5=.int .i64 (X:Nat)
theorem loop66 (S:Base D0 h0 q c ob vs L B) {X M:Nat} {R:Option Nat × St} (hX:X ≠ 0) (hX2:X < 4194304) (hM:M < 100000000) (hM2:21≤M) {e:E} {g:H} (hi:I66 D0 h0 q c L B lv X M R 21 e g) :
   ∃ s,loopZ (l118_0 KW loopZ) e g=some s∧((s.x=.ex 0∧O66 D0 h0 q c L B lv X M R s.e s.h)∨(s.x=.pn (.iface 112 (.agg [.int .i64 4]))∧R.1=none∧Cd D0 h0 c L B s.h M R.2 lv)):=by
  refine loop_run (body:=l118_0 KW loopZ) (I66 D0 h0 q c L B lv X M R) (fun s=>(s.x=.ex 0∧O66 D0 h0 q c L B lv X M R s.e s.h)∨(s.x=.pn (.iface 112 (.agg [.int .i64 4]))∧R.1=none∧Cd D0 h0 c L B s.h M R.2 lv)) ?_ 21 e g hi
  intro j e g hi
  obtain ⟨j1,j2,⟨st,a,hR⟩,e0,e5,e6,e7⟩:=hi
  obtain ⟨f,rfl⟩:∃ f,j=f+1:=⟨j - 1,by omega⟩
  obtain ⟨k,hk⟩:∃ k,k=21 - (f+1):=⟨_,rfl⟩
  rw [← hk] at hR e6
  have hb:=flag51_ok (decide ((k:Int)=(Nat.log2 X:Nat))) g
  obtain ⟨fl,hfl⟩:∃ fl:Nat,fl=if k=Nat.log2 X then 1 else 0:=⟨_,rfl⟩
  have hfl2:fl < 2:=by rw [hfl];split <;> omega
  have e1:(if decide ((k:Int)=(Nat.log2 X:Nat))=true then (1:Int) else 0)=(fl:Int):=by
   rw [hfl]
   by_cases hc:k=Nat.log2 X
   ·simp [hc]
   ·simp [hc];omega
  rw [e1] at hb
  obtain ⟨w,g1,a1,rfl,C1⟩:=(num54_ok S a (n:=1) (v:=(fl:Int)) (by omega) (by decide) (fun _=>by omega)).elim
  rw [Int.toNat_natCast] at a1 C1
  rw [show ((1:Nat):Int)=1 from rfl] at a1
  have hlt:=St.numV_lt a.C.ok.2.1 (n:=1) (v:=fl) (by omega)
  unfold lenP at hR
  have hR':(if st.numV 1 fl=0 then lenP B.wr X f (k+1) else Pr.num k (if B.wr then (X:Int) - 2 ^ k else 0) fun v=>Pr.done (2 ^ k+v - 1)).exec (st.num 1 fl)=R:=by
   rw [← hR]
   have:(if k=Nat.log2 X then (1:Int) else 0)=((fl:Nat):Int):=by rw [hfl];split <;> rfl
   rw [Pr.exec_num,this,Int.toNat_natCast]
  have C1:=C1.more (m':=M - f) (by omega) (by omega)
  by_cases c0:st.numV 1 fl=0
  ·rw [if_pos c0] at hR'
   have z1:IntKind.i64.wrap ((k:Int)+1)=((k+1:Nat):Int):=by rw [wi64 (by omega) (by omega)];omega
   by_cases c1:k=20
   ·have hf:f=0:=by omega
    subst hf
    simp [l118_0,e6,e7,hb,e0,a1,c0,z1,-Int.natCast_add,show (20:Int) < ((k+1:Nat):Int) by omega,bl,fillW,splice,panV_i,bc_pan,sq_pn,blk_pn]
    refine .inr ⟨rfl,?_,?_⟩
    ·rw [← hR'];rfl
    ·rw [← hR'];exact C1
   ·simp [l118_0,e6,e7,hb,e0,a1,c0,z1,-Int.natCast_add,show ¬ (20:Int) < ((k+1:Nat):Int) by omega]
    refine ⟨f,by omega,by omega,by omega,⟨_,C1,?_⟩,by simp [e0],by simp [e5],?_,by simp [e7]⟩
    ·rw [← hR',show 21 - f=k+1 by omega]
    ·simp [show 21 - f=k+1 by omega]
  ·rw [if_neg c0] at hR'
   have hwk:B.wr=true→k=Nat.log2 X:=by
    intro hw
    have hw2:st.sd.writes=true:=by rw [a.wr,hw]
    have:=St.numV_w hw2 1 fl (by omega)
    rw [this] at c0
    by_cases hc:k=Nat.log2 X
    ·exact hc
    ·rw [if_neg hc] at hfl;omega
   simp [l118_0,e6,e7,hb,e0,a1,c0]
   exact .inl ⟨rfl,⟨k,_,by omega,hwk,C1.more (by omega) hM,hR',by simp [e6]⟩,by simp [e0],by simp [e5]⟩
theorem length66_ok (S:Base D0 h0 q c ob vs L B) (a:Cd D0 h0 c L B h m st lv) {left:Int} (hl : -4194304 < left∧left < 4194303) (hm:m+41 < 100000000) :
   RP (fun w h'=>∃ v st',(lenP B.wr ((imax left 0).toNat+1) 21 0).exec st=(some v,st')∧v < 2097152∧w=.int .i64 (v:Nat)∧Cd D0 h0 c L B h' (m+41) st' lv)
    (fun h'=>∃ st',(lenP B.wr ((imax left 0).toNat+1) 21 0).exec st=(none,st')∧Cd D0 h0 c L B h' (m+41) st' lv) (KW 118 [.ptr q 0,.int .i64 left] h):=by
  have hi:=imax_b left 0
  obtain ⟨X,hX⟩:∃ X,X=(imax left 0).toNat+1:=⟨_,rfl⟩
  have z1:IntKind.i64.wrap (imax left 0+1)=(X:Int):=by rw [wi64 (by omega) (by omega)];omega
  have z2:IntKind.u64.wrap (X:Int)=X:=wu64 (by omega) (by omega)
  have l63:=len63_ok (x:=X) (by omega) (by omega) h
  have lb:Nat.log2 X < 32:=(Nat.log2_lt (by omega)).2 (by omega)
  have lb2:=log2_b (x:=X) (by omega)
  have z3:IntKind.i64.wrap (((Nat.log2 X+1:Nat):Int) - 1)=(Nat.log2 X:Nat):=by rw [wi64 (by omega) (by omega)];omega
  rw [← hX]
  obtain ⟨R,hR⟩:∃ R,R=(lenP B.wr X 21 0).exec st:=⟨_,rfl⟩
  rw [← hR,w118,f118,s118]
  have q0:h.rd1 q 0=some (.ptr c 0):=by rw [rd1_of (a.gq S)];rfl
  simp [maxV_i,-maxV2,z1,z2,l63,z3,-Int.natCast_add]
  obtain ⟨s,r1,hs⟩:=loop66 S (lv:=lv) (X:=X) (M:=m+21) (R:=R) (by omega) (by omega) (by omega) (by omega) (e:=⟨[.ptr q 0,.int .i64 left,.int .i64 0,.int .i64 X,.int .i64 0,.int .i64 (Nat.log2 X:Nat),.tup []],7,.int .i64 (Nat.log2 X:Nat)⟩) (g:=h)
   ⟨by omega,by omega,⟨st,by rw [Nat.add_sub_cancel];exact a,hR.symm⟩,by simp,by simp,by simp,by simp⟩
  rw [r1]
  obtain ⟨sx,se,sh⟩:=s
  rcases hs with ⟨hx,⟨k,st1,k1,k2,C1,hR1,e6⟩,e0,e5⟩ | ⟨hx,hR1,C1⟩
  ·simp only at hx
   subst hx
   simp only [K66] at e6 e0 e5
   have p0:=Nat.two_pow_pos k
   have p1:(2:Nat) ^ k≤1048576:=Nat.pow_le_pow_right (by decide) (by omega:k≤20)
   have pc:=two_pow_cast k
   have mk:min k 64=k:=by omega
   have z4:IntKind.i64.wrap ((2:Int) ^ k)=2 ^ k:=wi64 (by omega) (by omega)
   have z5:IntKind.i64.wrap ((X:Int) - 2 ^ k)=(X:Int) - 2 ^ k:=wi64 (by omega) (by omega)
   have q1:sh.rd1 q 0=some (.ptr c 0):=by rw [rd1_of (C1.gq S)];rfl
   have w26:=writes26_ok C1.C
   rw [C1.wr] at w26
   obtain ⟨rest,hrest⟩:∃ r,r=if B.wr then (X:Int) - 2 ^ k else 0:=⟨_,rfl⟩
   rw [← hrest] at hR1
   have hrb:B.wr=true→0≤rest∧rest < 2 ^ k:=by
    intro hw
    have hk:=k2 hw
    rw [← hk] at lb2
    rw [hrest,if_pos hw]
    have:=Nat.pow_succ 2 k
    have e3:((2 ^ (k+1):Nat):Int)=2*2 ^ k:=by rw [Nat.pow_succ];omega
    omega
   obtain ⟨w,g1,a1,rfl,C2⟩:=(num54_ok S C1 (n:=k) (v:=rest) (by omega) (by omega) hrb).elim
   have hlt:=St.numV_lt C1.C.ok.2.1 (n:=k) (v:=rest.toNat) (by omega)
   obtain ⟨v,hv⟩:∃ v,v=st1.numV k rest.toNat:=⟨_,rfl⟩
   rw [← hv] at a1 hlt
   have hR2:R=(some (2 ^ k+v - 1),st1.num k rest.toNat):=by rw [← hR1,hv];rfl
   have z6:IntKind.i64.wrap ((2:Int) ^ k+v)=2 ^ k+v:=wi64 (by omega) (by omega)
   have z7:IntKind.i64.wrap ((2:Int) ^ k+v - 1)=((2 ^ k+v - 1:Nat):Int):=by rw [wi64 (by omega) (by omega)];omega
   cases hw:B.wr with
   | true =>
    rw [hw,if_pos rfl] at hrest
    rw [hw] at w26
    simp [e0,q1,w26,e6,mk,IntKind.bits,z4,e5,z5,show ¬ (k:Int) < 0 by omega]
    rw [← hrest]
    simp [a1,mk,show ¬ (k:Int) < 0 by omega,z4,z6,z7,IntKind.bits,-Int.natCast_add]
    exact ⟨_,_,hR2,by omega,rfl,C2.more (by omega) hm⟩
   | false =>
    rw [hw,if_neg (by simp)] at hrest
    rw [hw] at w26
    rw [hrest] at a1
    simp [e0,q1,w26,e6,a1,mk,IntKind.bits,show ¬ (k:Int) < 0 by omega,z4,z6,z7,-Int.natCast_add]
    exact ⟨_,_,hR2,by omega,rfl,C2.more (by omega) hm⟩
  ·simp only at hx
   subst hx
   simp [blk_pn,sq_pn,fin_pn]
   refine ⟨rfl,R.2,?_,C1.more (by omega) hm⟩
   rw [← hR1]
end cd
open Go.Zf (wi64)
section cd
variable {D0:Nat→Prop} {h0 h h':H} {q c ob L m:Nat} {vs:V} {B:BD} {st:St} {lv:List Int}
abbrev K56:List Nat:=[0,1,2,6,7,9,10,11,45]
structure I56 (D0:Nat→Prop) (h0:H) (q c L:Nat) (B:BD) (lv:List Int) (a:Int) (more M:Nat) (R:Option Nat × St) (j:Nat) (e:E) (g:H):Prop where
  j2:j≤4
  ex:∃ sum st,sum≤3+3*(4 - j)∧Cd D0 h0 c L B g (M - j) st lv∧(amoP B a more j sum).exec st=R∧e.s K56 10=.int .i64 (sum:Nat)
  e0:e.s K56 0=.ptr q 0
  e7:e.s K56 7=.int .i64 (more:Nat)
  e9:e.s K56 9=.int .i64 a
  e45:e.s K56 45=.int .i64 ((4 - j:Nat):Int)
structure O56 (D0:Nat→Prop) (h0:H) (q c L:Nat) (B:BD) (lv:List Int) (a:Int) (more M:Nat) (R:Option Nat × St) (s:Go.Zf.St):Prop where
  ex:∃ sum st,sum≤15∧Cd D0 h0 c L B s.h M st lv∧s.e.s K56 10=.int .i64 (sum:Nat) ∧
   ((s.x=.ex 0∧R=(some sum,st))∨(s.x=.ex 2∧(amoP B a more 0 sum).exec st=R∧s.e.s K56 0=.ptr q 0∧s.e.s K56 9=.int .i64 a))
theorem loop56 (S:Base D0 h0 q c ob vs L B) {a:Int} {more M:Nat} {R:Option Nat × St} (ha:0≤a∧a≤1048576) (hmo:more≤6) (hM:M < 100000000) (hM2:4≤M) {e:E} {g:H} (hi:I56 D0 h0 q c L B lv a more M R 4 e g) :
   ∃ s,loopZ (l102_0 KW loopZ) e g=some s∧O56 D0 h0 q c L B lv a more M R s:=by
  refine loop_run (body:=l102_0 KW loopZ) (I56 D0 h0 q c L B lv a more M R) (O56 D0 h0 q c L B lv a more M R) ?_ 4 e g hi
  intro j e g hi
  obtain ⟨j2,⟨sum,st,hsum,C,hR,e10⟩,e0,e7,e9,e45⟩:=hi
  cases j with
  | zero =>
   rw [Nat.sub_zero] at e45 C
   simp [l102_0,e45]
   exact ⟨sum,st,by omega,C,by simp [e10],.inr ⟨rfl,hR,by simp [e0],by simp [e9]⟩⟩
  | succ j =>
   obtain ⟨i,hi⟩:∃ i,i=4 - (j+1):=⟨_,rfl⟩
   rw [← hi] at e45
   have q2:g.rd1 q 2=some (.int .i64 (B.colour:Nat)):=by rw [rd1_of (C.gq S)];rfl
   have hcol:=S.colour
   have z1:IntKind.i64.wrap (7*(B.colour:Int))=7*(B.colour:Int):=wi64 (by omega) (by omega)
   have z2:IntKind.i64.wrap (7*(B.colour:Int)+more)=((7*B.colour+more:Nat):Int):=by rw [wi64 (by omega) (by omega)];omega
   have z3:IntKind.i64.wrap (a - sum)=a - sum:=wi64 (by omega) (by omega)
   have m1:=imax_b (a - sum) 0
   have m2:=imin_b (imax (a - sum) 0) 3
   obtain ⟨x,hx⟩:∃ x,x=7*B.colour+more:=⟨_,rfl⟩
   rw [← hx] at z2
   have hc29:cx 29=14:=by decide
   have hv29:vl 29=4:=by decide
   have hv:0≤imin (imax (a - sum) 0) 3∧imin (imax (a - sum) 0) 3 < vl 29:=by rw [hv29];omega
   obtain ⟨w,g1,a1,rfl,C1⟩:=(sym50_ok S C (k:=29) (x:=x) (v:=imin (imax (a - sum) 0) 3) (by omega) (by decide) (by rw [hc29];omega) hv).elim
   have hlt:=St.symV_lt C.C.ok.1 (k:=29) (x:=x) (v:=imin (imax (a - sum) 0) 3) (by decide) (by rw [hc29];omega) (fun _=>hv)
   rw [hv29] at hlt
   unfold amoP at hR
   rw [Pr.exec_sym,← hx] at hR
   obtain ⟨s,hs⟩:∃ s,s=st.symV 29 x (imin (imax (a - sum) 0) 3):=⟨_,rfl⟩
   rw [← hs] at a1 hlt hR
   rw [show ((29:Nat):Int)=29 from rfl] at a1
   have z4:IntKind.i64.wrap ((sum:Int)+s)=((sum+s:Nat):Int):=by rw [wi64 (by omega) (by omega)];omega
   have z5:IntKind.i64.wrap ((i:Int)+1)=((4 - j:Nat):Int):=by rw [wi64 (by omega) (by omega)];omega
   have C1:=C1.more (m':=M - j) (by omega) (by omega)
   by_cases c3:s < 3
   ·rw [if_pos c3,Pr.exec_done] at hR
    simp [l102_0,e45,show (i:Int) < 4 by omega,e0,q2,z1,e7,z2,e9,e10,z3,maxV_i,-maxV2,minV_i,-minV2,a1,z4,-Int.natCast_add,show (s:Int) < 3 by omega,c3]
    refine ⟨sum+s,_,by omega,C1.more (by omega) hM,by simp,.inl ⟨rfl,hR.symm⟩⟩
   ·rw [if_neg c3] at hR
    simp [l102_0,e45,show (i:Int) < 4 by omega,e0,q2,z1,e7,z2,e9,e10,z3,maxV_i,-maxV2,minV_i,-minV2,a1,z4,-Int.natCast_add,show ¬ (s:Int) < 3 by omega,c3,z5]
    refine ⟨j,by omega,by omega,⟨sum+s,_,by omega,C1,hR,by simp⟩,by simp,by simp,by simp,by simp⟩
theorem amount56_ok (S:Base D0 h0 q c ob vs L B) (C:Cd D0 h0 c L B h m st lv) {at_ said:Nat} (hat:at_ < B.n*B.n) (hs:said≤3) (hm:m+45 < 100000000) :
   RP (fun w h'=>∃ v st',(amountP B lv at_ said).exec st=(some v,st')∧v < 4194304∧w=.int .i64 (v:Nat)∧Cd D0 h0 c L B h' (m+45) st' lv)
    (fun h'=>∃ st',(amountP B lv at_ said).exec st=(none,st')∧Cd D0 h0 c L B h' (m+45) st' lv) (KW 102 [.ptr q 0,.int .i64 at_,.int .i64 said] h):=by
  rw [w102,f102,s102]
  unfold amountP
  by_cases c3:said < 3
  ·rw [if_pos c3,Pr.exec_done]
   simp [show (said:Int) < 3 by omega,c3]
   exact ⟨_,_,⟨rfl,rfl⟩,by omega,rfl,C.more (by omega) hm⟩
  ·rw [if_neg c3]
   have hs3:said=3:=by omega
   subst hs3
   have q6:h.rd1 q 6=some (.sl L 0 (B.n*B.n) (.ex (B.n*B.n))):=by rw [rd1_of (C.gq S)];rfl
   have q1:h.rd1 q 1=some (.int .i64 (B.size:Nat)):=by rw [rd1_of (C.gq S)];rfl
   obtain ⟨w,g1,a1,rfl,x1⟩:=(more65_ok (at_:=at_) S.size C.l (by rw [C.ll,S.n]) (by rw [← S.n];exact hat)).elim
   rw [← S.n,C.ll] at a1
   have C1:=C.ext S x1
   have p5:g1.rd1 q 5=some vs:=by rw [rd1_of (C1.gq S)];rfl
   obtain ⟨b,o,s1,s2⟩:=C1.s S hat
   have hsb:=S.src at_
   have hab:=iabs_b (B.src.getD at_ 0)
   obtain ⟨sv,hsv⟩:∃ sv,sv=B.src.getD at_ 0:=⟨_,rfl⟩
   rw [← hsv] at s2 hsb hab ⊢
   have z1:IntKind.i64.wrap (-sv) = -sv:=wi64 (by omega) (by omega)
   have ck1:∀ {β:Type} (y:Option β),ck (some vs) vs y=y:=fun y=>ck_eq y rfl S.hs.same
   have mb:=moreP_b lv B.n at_
   obtain ⟨more,hmo⟩:∃ more,more=moreP lv B.n at_:=⟨_,rfl⟩
   rw [← hmo] at a1 mb ⊢
   obtain ⟨R,hR⟩:∃ R,R=(amoP B (iabs sv) more 4 3).exec st:=⟨_,rfl⟩
   rw [← hR]
   obtain ⟨s,r1,⟨sum,st1,hsum,C2,e10,hcase⟩⟩:=loop56 S (lv:=lv) (a:=iabs sv) (more:=more) (M:=m+4) (R:=R) (by omega) mb.1 (by omega) (by omega)
    (e:=⟨[.ptr q 0,.int .i64 at_,.int .i64 3,.int .i64 0,.int .i64 more,.int .i64 (iabs sv),.int .i64 3,.tup [],.int .i64 0],45,.int .i64 0⟩) (g:=g1)
    ⟨Nat.le_refl _,⟨3,st,by omega,by rw [Nat.add_sub_cancel];exact C1,hR.symm,by simp⟩,by simp,by simp,by simp,by simp⟩
   obtain ⟨sx,se,sh⟩:=s
   simp only [K56] at e10
   have hz:maxV [V.int .i64 sv,V.int .i64 (-sv)]=some (.int .i64 (iabs sv)):=maxV_i _ _ _
   simp [q6,q1,a1,p5,s1,s2,z1,hz,-maxV2,ck1]
   rw [loopZ_eq]
   simp only [l102_1]
   simp [r1]
   rcases hcase with ⟨hx,hR1⟩ | ⟨hx,hR1,e0,e9⟩
   ·simp only at hx
    subst hx
    simp [e10]
    exact ⟨sum,st1,by rw [hR1],by omega,rfl,C2.more (by omega) hm⟩
   ·simp only at hx
    subst hx
    simp only [K56] at e0 e9
    have z2:IntKind.i64.wrap (iabs sv - sum)=iabs sv - sum:=wi64 (by omega) (by omega)
    unfold amoP at hR1
    rcases (length66_ok S C2 (left:=iabs sv - sum) (by omega) (by omega)).elim with ⟨w,g2,a2,v,st2,b1,b2,rfl,C3⟩ | ⟨g2,a2,st2,b1,C3⟩
    ·rw [Pr.exec_some b1,Pr.exec_done] at hR1
     have z3:IntKind.i64.wrap ((sum:Int)+v)=((sum+v:Nat):Int):=by rw [wi64 (by omega) (by omega)];omega
     simp [e9,e10,e0,z2,a2,z3,-Int.natCast_add]
     exact ⟨_,_,hR1.symm,by omega,rfl,C3.more (by omega) hm⟩
    ·rw [Pr.exec_none b1] at hR1
     simp [e9,e10,e0,z2,a2,bc_pan,sq_pn,blk_pn,fin_pn]
     exact ⟨rfl,st2,hR1.symm,C3.more (by omega) hm⟩
end cd
open Go.Zf (wi64)
section cd
variable {D0:Nat→Prop} {h0 h h':H} {q c ob L m:Nat} {vs:V} {B:BD} {st:St} {lv:List Int}
abbrev K41:List Nat:=[0,1,4,5,6,7,8]
structure I41 (D0:Nat→Prop) (h0:H) (q c L:Nat) (B:BD) (en M:Nat) (R:Option (List Int) × St) (j:Nat) (e:E) (g:H):Prop where
  hj:j≤en
  ex:∃ lv st,Cd D0 h0 c L B g (M - 46*j) st lv∧(amsP B en j lv).exec st=R
  e0:e.s K41 0=.ptr q 0
  e1:e.s K41 1=.int .i64 (en:Nat)
  e4:e.s K41 4=.int .i64 ((j:Int) - 1)
theorem said_run (S:Base D0 h0 q c ob vs L B) {st:St} (ok:SetOk st.S) (en i:Nat) (lv:List Int):∃ said st',(saidP B en i lv).exec st=(some said,st')∧said≤3:=by
  have hab:=iabs_b (B.src.getD (B.ord.getD i 0) 0)
  have m2:=imin_b (iabs (B.src.getD (B.ord.getD i 0) 0)) 3
  have m1:=imax_b (imin (iabs (B.src.getD (B.ord.getD i 0) 0)) 3 - 1) 0
  have hcol:=S.colour
  have mb:=(baseP_b lv B.n (B.ord.getD i 0)).1
  have hv27:vl 27=3:=by decide
  have hv28:vl 28=4:=by decide
  unfold saidP
  split
  ·have:=St.symV_lt ok (k:=27) (x:=B.colour) (v:=imax (imin (iabs (B.src.getD (B.ord.getD i 0) 0)) 3 - 1) 0) (by decide) (by show B.colour < 2;omega) (fun _=>by rw [hv27];omega)
   rw [hv27] at this
   exact ⟨_,_,rfl,by omega⟩
  ·have:=St.symV_lt ok (k:=28) (x:=5*B.colour+baseP lv B.n (B.ord.getD i 0)) (v:=imin (iabs (B.src.getD (B.ord.getD i 0) 0)) 3) (by decide) (by show _ < 10;omega) (fun _=>by rw [hv28];omega)
   rw [hv28] at this
   exact ⟨_,_,rfl,by omega⟩
def AmEnd (D0:Nat→Prop) (h0:H) (c L:Nat) (B:BD) (M:Nat) (R:Option (List Int) × St) (ok:Bool) (h':H):Prop :=
  if ok then ∃ lvF stF,R=(some lvF,stF)∧Cd D0 h0 c L B h' M stF lvF else ∃ lvF stF,R=(none,stF)∧Cd D0 h0 c L B h' M stF lvF
theorem amounts41_any (S:Base D0 h0 q c ob vs L B) (C:Cd D0 h0 c L B h m st lv) {en:Nat} (hen:en≤B.n*B.n) (hm:m+46*en < 100000000) {R:Option (List Int) × St} (hR:(amsP B en en lv).exec st=R) :
   RP (fun w h'=>AmEnd D0 h0 c L B (m+46*en) R true h') (fun h'=>AmEnd D0 h0 c L B (m+46*en) R false h') (KW 71 [.ptr q 0,.int .i64 en] h):=by
  have hnn:=S.nn
  have z0:IntKind.i64.wrap ((en:Int) - 1)=(en:Int) - 1:=wi64 (by omega) (by omega)
  rw [w71,f71,s71]
  simp [z0]
  refine loop_in (C:=fun o=>RP _ _ (fin Tryz.prog _ _ (blk 0 o))) (I41 D0 h0 q c L B en (m+46*en) R) (fun s=>(s.x=.ex 0∧AmEnd D0 h0 c L B (m+46*en) R true s.h)∨(s.x=.pn (.iface 112 (.agg [.int .i64 4]))∧AmEnd D0 h0 c L B (m+46*en) R false s.h)) ?_ en
   ⟨Nat.le_refl _,⟨lv,st,by rw [Nat.add_sub_cancel];exact C,hR⟩,by simp,by simp,by simp⟩ ?_
  ·intro j e g hi
   obtain ⟨hj,⟨lv,st,C,hR⟩,e0,e1,e4⟩:=hi
   cases j with
   | zero =>
    simp at e4
    simp [l71_0,e4]
    have hR:(some lv,st)=R:=hR
    subst hR
    exact .inl ⟨rfl,lv,st,rfl,C⟩
   | succ i =>
    have he4:((i+1:Nat):Int) - 1=(i:Int):=by omega
    rw [he4] at e4
    have hi:i < B.n*B.n:=by omega
    have q4:g.rd1 q 4=some (.sl ob 0 (B.n*B.n) (.ex (B.n*B.n))):=by rw [rd1_of (C.gq S)];rfl
    have q5:g.rd1 q 5=some vs:=by rw [rd1_of (C.gq S)];rfl
    have q2:g.rd1 q 2=some (.int .i64 (B.colour:Nat)):=by rw [rd1_of (C.gq S)];rfl
    have q6:g.rd1 q 6=some (.sl L 0 (B.n*B.n) (.ex (B.n*B.n))):=by rw [rd1_of (C.gq S)];rfl
    have q1:g.rd1 q 1=some (.int .i64 (B.size:Nat)):=by rw [rd1_of (C.gq S)];rfl
    obtain ⟨o1,hat⟩:=C.o S hi
    obtain ⟨said,st1,b1,b2⟩:=said_run S C.C.ok.1 en i lv
    unfold amsP at hR
    rw [Pr.exec_some b1] at hR
    unfold saidP at b1
    obtain ⟨at_,hat_⟩:∃ at_,at_=B.ord.getD i 0:=⟨_,rfl⟩
    rw [← hat_] at o1 hat b1 hR
    obtain ⟨b,o,s1,s2⟩:=C.s S hat
    have hsb:=S.src at_
    have hab:=iabs_b (B.src.getD at_ 0)
    obtain ⟨sv,hsv⟩:∃ sv,sv=B.src.getD at_ 0:=⟨_,rfl⟩
    rw [← hsv] at s2 hsb hab b1
    have z1:IntKind.i64.wrap (-sv) = -sv:=wi64 (by omega) (by omega)
    have hz:maxV [V.int .i64 sv,V.int .i64 (-sv)]=some (.int .i64 (iabs sv)):=maxV_i _ _ _
    have ck1:∀ {β:Type} (y:Option β),ck (some vs) vs y=y:=fun y=>ck_eq y rfl S.hs.same
    have m2:=imin_b (iabs sv) 3
    have m1:=imax_b (imin (iabs sv) 3 - 1) 0
    have hcol:=S.colour
    have hv27:vl 27=3:=by decide
    have hv28:vl 28=4:=by decide
    have hi64:(i:Int) < B.n*B.n:=by rw [← Int.natCast_mul];omega
    have hat64:(at_:Int) < B.n*B.n:=by rw [← Int.natCast_mul];omega
    have zi:IntKind.i64.wrap ((i:Int) - 1)=(i:Int) - 1:=wi64 (by omega) (by omega)
    have hM:m+46*en - 46*(i+1)+46=m+46*en - 46*i:=by omega
    -- behind the first symbol
    have key:∀ g1,Cd D0 h0 c L B g1 (m+46*en - 46*(i+1)+1) st1 lv→g1.rd1 q 6=some (.sl L 0 (B.n*B.n) (.ex (B.n*B.n)))∧((∃ v st2 g2,KW 102 [.ptr q 0,.int .i64 at_,.int .i64 said] g1=some (.ret (.int .i64 (v:Nat)),g2)∧v < 4194304∧Cd D0 h0 c L B g2 (m+46*en - 46*i) st2 lv∧(amsP B en i (lv.set at_ v)).exec st2=R ∧
      g2.rd1 q 6=some (.sl L 0 (B.n*B.n) (.ex (B.n*B.n))))∨∃ g2,KW 102 [.ptr q 0,.int .i64 at_,.int .i64 said] g1=some (.pan (.iface 112 (.agg [.int .i64 4])),g2)∧AmEnd D0 h0 c L B (m+46*en) R false g2):=by
     intro g1 C1
     have r1:g1.rd1 q 6=some (.sl L 0 (B.n*B.n) (.ex (B.n*B.n))):=by rw [rd1_of (C1.gq S)];rfl
     refine ⟨r1,?_⟩
     rcases (amount56_ok S C1 hat b2 (by omega)).elim with ⟨w,g2,a2,v,st2,d1,d2,rfl,C2⟩ | ⟨g2,a2,st2,d1,C2⟩
     ·rw [Pr.exec_some d1] at hR
      exact .inl ⟨v,st2,g2,a2,d2,C2.more (by omega) (by omega),hR,by rw [rd1_of (C2.gq S)];rfl⟩
     ·rw [Pr.exec_none d1] at hR
      exact .inr ⟨g2,a2,lv,st2,hR.symm,C2.more (by omega) (by omega)⟩
    by_cases cl:i+1=en
    ·rw [if_pos cl] at b1
     have hen1:(i:Int)=(en:Int) - 1:=by omega
     obtain ⟨w,g1,a1,rfl,C1⟩:=(sym50_ok S C (k:=27) (x:=B.colour) (v:=imax (imin (iabs sv) 3 - 1) 0) (by omega) (by decide) (by show B.colour < 2;omega) (by rw [hv27];omega)).elim
     rw [Pr.exec_sym,Pr.exec_done] at b1
     cases b1
     obtain ⟨r1,key⟩:=key g1 C1
     rw [show ((27:Nat):Int)=27 from rfl] at a1
     obtain ⟨s,hs⟩:∃ s,s=st.symV 27 B.colour (imax (imin (iabs sv) 3 - 1) 0):=⟨_,rfl⟩
     rw [← hs] at a1 key b2
     have z2:IntKind.i64.wrap (1+(s:Int))=((1+s:Nat):Int):=by rw [wi64 (by omega) (by omega)];omega
     have z3:IntKind.i64.wrap (imin (iabs sv) 3 - 1)=imin (iabs sv) 3 - 1:=wi64 (by omega) (by omega)
     have zen:IntKind.i64.wrap ((en:Int) - 1)=(i:Int):=by rw [wi64 (by omega) (by omega)];omega
     rcases key with ⟨v,st2,g2,a2,d2,C2,hR2,r2⟩ | ⟨g2,a2,hE⟩
     rotate_left
     ·simp [l71_0,e4,e0,q4,hi64,hi,o1,q5,s1,s2,z1,hz,-maxV2,-minV2,minV_i,ck1,e1,zen,z3,maxV_i,q2,a1,z2,-Int.natCast_add,a2,r1,hat64,hat,bc_pan,sq_pn]
      exact .inr ⟨rfl,hE⟩
     obtain ⟨k1,C3⟩:=C2.set S (i:=at_) (v:=(v:Int)) hat (by omega)
     obtain ⟨g3,hg3⟩:∃ y,y=g2.put L (.cells (intsV (lv.set at_ (v:Int))) 3 false):=⟨_,rfl⟩
     rw [← hg3] at k1 C3
     simp [l71_0,e4,e0,q4,hi64,hi,o1,q5,s1,s2,z1,hz,-maxV2,-minV2,minV_i,ck1,e1,zen,z3,maxV_i,q2,a1,z2,-Int.natCast_add,a2,r1,r2,hat64,hat,k1,zi]
     exact ⟨i,by omega,by omega,⟨_,_,C3,hR2⟩,by simp,by simp [e1],by simp⟩
    ·rw [if_neg cl] at b1
     have hen1:¬ (i:Int)=(en:Int) - 1:=by omega
     obtain ⟨w,gb,ab,rfl,xb⟩:=(base55_ok (at_:=at_) S.size C.l (by rw [C.ll,S.n]) (by rw [← S.n];exact hat)).elim
     rw [← S.n,C.ll] at ab
     have Cb:=C.ext S xb
     have p2:gb.rd1 q 2=some (.int .i64 (B.colour:Nat)):=by rw [rd1_of (Cb.gq S)];rfl
     have mb:=(baseP_b lv B.n at_).1
     obtain ⟨ba,hba⟩:∃ ba,ba=baseP lv B.n at_:=⟨_,rfl⟩
     rw [← hba] at ab b1 mb
     have z4:IntKind.i64.wrap (5*(B.colour:Int))=5*(B.colour:Int):=wi64 (by omega) (by omega)
     have z5:IntKind.i64.wrap (5*(B.colour:Int)+ba)=((5*B.colour+ba:Nat):Int):=by rw [wi64 (by omega) (by omega)];omega
     obtain ⟨w,g1,a1,rfl,C1⟩:=(sym50_ok S Cb (k:=28) (x:=5*B.colour+ba) (v:=imin (iabs sv) 3) (by omega) (by decide) (by show _ < 10;omega) (by rw [hv28];omega)).elim
     rw [Pr.exec_sym,Pr.exec_done] at b1
     cases b1
     obtain ⟨r1,key⟩:=key g1 C1
     rw [show ((28:Nat):Int)=28 from rfl] at a1
     have zen:IntKind.i64.wrap ((en:Int) - 1)=(en:Int) - 1:=wi64 (by omega) (by omega)
     rcases key with ⟨v,st2,g2,a2,d2,C2,hR2,r2⟩ | ⟨g2,a2,hE⟩
     rotate_left
     ·simp [l71_0,e4,e0,q4,hi64,hi,o1,q5,s1,s2,z1,hz,-maxV2,-minV2,minV_i,ck1,e1,zen,hen1,q6,q1,ab,p2,z4,z5,a1,-Int.natCast_add,a2,r1,hat64,hat,bc_pan,sq_pn]
      exact .inr ⟨rfl,hE⟩
     obtain ⟨k1,C3⟩:=C2.set S (i:=at_) (v:=(v:Int)) hat (by omega)
     obtain ⟨g3,hg3⟩:∃ y,y=g2.put L (.cells (intsV (lv.set at_ (v:Int))) 3 false):=⟨_,rfl⟩
     rw [← hg3] at k1 C3
     simp [l71_0,e4,e0,q4,hi64,hi,o1,q5,s1,s2,z1,hz,-maxV2,-minV2,minV_i,ck1,e1,zen,hen1,q6,q1,ab,p2,z4,z5,a1,-Int.natCast_add,a2,r1,r2,hat64,hat,k1,zi]
     exact ⟨i,by omega,by omega,⟨_,_,C3,hR2⟩,by simp,by simp [e1],by simp⟩
  ·rintro ⟨sx,se,sh⟩ (⟨h1,C⟩ | ⟨h1,C⟩)
   ·simp only at h1
    subst h1
    simp
    exact C
   ·simp only at h1
    subst h1
    simp [blk_pn,fin_pn]
    exact ⟨rfl,C⟩
end cd
open Go.Zf (wi64)
theorem slS_hi (b N en:Nat) (h:en≤N):slS 1 (.sl b 0 N (.ex N)) none (some (.int .i64 (en:Nat))) none=some (.sl b 0 en (.ex N)):=by
  simp [slS,optB,sbV,h]
section cd
variable {D0:Nat→Prop} {h0 h h':H} {q c ob L m:Nat} {vs:V} {B:BD} {st:St} {lv:List Int}
abbrev K42:List Nat:=[0,1,5,6,12,13,14]
structure I42 (D0:Nat→Prop) (h0:H) (q c ob L:Nat) (B:BD) (en M:Nat) (lvF:List Int) (stF:St) (j:Nat) (e:E) (g:H):Prop where
  hj:j≤en
  ex:∃ lv st,Cd D0 h0 c L B g (M - j) st lv∧(sgsP B ((B.ord.take en).drop (en - j)) lv).exec st=(some lvF,stF)
  e0:e.s K42 0=.ptr q 0
  e12:e.s K42 12=.sl ob 0 en (.ex (B.n*B.n))
  e13:e.s K42 13=.int .i64 (en:Nat)
  e14:e.s K42 14=.int .i64 ((en - j:Nat):Int)
theorem signs42_ok (S:Base D0 h0 q c ob vs L B) (C:Cd D0 h0 c L B h m st lv) {en:Nat} (hen:en≤B.n*B.n) (hm:m+en < 100000000) {lvF:List Int} {stF:St} (hR:(sgsP B (B.ord.take en) lv).exec st=(some lvF,stF)) :
   RT (fun w h'=>Cd D0 h0 c L B h' (m+en) stF lvF) (KW 72 [.ptr q 0,.int .i64 en] h):=by
  have hnn:=S.nn
  have q4:h.rd1 q 4=some (.sl ob 0 (B.n*B.n) (.ex (B.n*B.n))):=by rw [rd1_of (C.gq S)];rfl
  rw [w72,f72,s72]
  simp [q4,slS_hi _ _ _ hen]
  refine loop_in (C:=fun o=>RT _ (fin Tryz.prog _ _ (blk 0 o))) (I42 D0 h0 q c ob L B en (m+en) lvF stF) (fun s=>s.x=.ex 0∧Cd D0 h0 c L B s.h (m+en) stF lvF) ?_ en
   ⟨Nat.le_refl _,⟨lv,st,by rw [Nat.add_sub_cancel];exact C,by rw [Nat.sub_self];exact hR⟩,by simp,by simp,by simp,by simp⟩ ?_
  ·intro j e g hi
   obtain ⟨hj,⟨lv,st,C,hR⟩,e0,e12,e13,e14⟩:=hi
   have hol:(B.ord.take en).length=en:=by rw [List.length_take,S.ordl];omega
   cases j with
   | zero =>
    rw [Nat.sub_zero] at e14
    simp [l72_0,e14,e13]
    rw [Nat.sub_zero,List.drop_of_length_le (by omega)] at hR
    have hR:(some lv,st)=(some lvF,stF):=hR
    cases hR
    exact ⟨rfl,C⟩
   | succ j =>
    obtain ⟨i,hi⟩:∃ i,i=en - (j+1):=⟨_,rfl⟩
    rw [← hi] at e14 hR
    have hien:i < en:=by omega
    have hi2:i < B.n*B.n:=by omega
    obtain ⟨o1,hat⟩:=C.o S hi2
    have hdrop:(B.ord.take en).drop i=B.ord.getD i 0 :: (B.ord.take en).drop (i+1):=by
     rw [List.drop_eq_getElem_cons (by omega)]
     congr 1
     simp [List.getD,show i < B.ord.length by rw [S.ordl];omega]
    rw [hdrop] at hR
    obtain ⟨at_,hat_⟩:∃ at_,at_=B.ord.getD i 0:=⟨_,rfl⟩
    rw [← hat_] at o1 hat hR
    have q6:g.rd1 q 6=some (.sl L 0 (B.n*B.n) (.ex (B.n*B.n))):=by rw [rd1_of (C.gq S)];rfl
    have q5:g.rd1 q 5=some vs:=by rw [rd1_of (C.gq S)];rfl
    have q2:g.rd1 q 2=some (.int .i64 (B.colour:Nat)):=by rw [rd1_of (C.gq S)];rfl
    have q3:g.rd1 q 3=some (.int .i64 (B.sign:Nat)):=by rw [rd1_of (C.gq S)];rfl
    have rl:=C.l.rd (i:=at_) (by rw [C.ll];exact hat)
    have lb:=C.l.bd at_
    obtain ⟨y,hy⟩:∃ y,y=lv.getD at_ 0:=⟨_,rfl⟩
    rw [← hy] at rl lb
    have hat64:(at_:Int) < B.n*B.n:=by rw [← Int.natCast_mul];omega
    have zi:IntKind.i64.wrap ((i:Int)+1)=((i+1:Nat):Int):=by rw [wi64 (by omega) (by omega)];omega
    unfold sgsP at hR
    by_cases cy:y=0
    ·rw [if_pos (by rw [← hy];exact cy)] at hR
     rw [cy] at rl
     simp [l72_0,e14,e13,show (i:Int) < en by omega,hien,e12,o1,e0,q6,hat64,hat,rl,zi,-Int.natCast_add]
     exact ⟨j,by omega,by omega,⟨lv,st,C.more (by omega) (by omega),by rw [show en - j=i+1 by omega];exact hR⟩,by simp [e0],by simp [e12],by simp [e13],by simp [show en - j=i+1 by omega]⟩
    ·rw [if_neg (by rw [← hy];exact cy),← hy] at hR
     obtain ⟨b,o,s1,s2⟩:=C.s S hat
     obtain ⟨sv,hsv⟩:∃ sv,sv=B.src.getD at_ 0:=⟨_,rfl⟩
     rw [← hsv] at s2
     have f51:=flag51_ok (decide (sv < 0)) g
     obtain ⟨fl,hfl⟩:∃ fl:Nat,fl=if sv < 0 then 1 else 0:=⟨_,rfl⟩
     have hfl2:fl < 2:=by rw [hfl];split <;> omega
     have hfi:(if sv < 0 then (1:Int) else 0)=(fl:Int):=by rw [hfl];split <;> rfl
     have f51':(if decide (sv < 0)=true then (1:Int) else 0)=(fl:Int):=by rw [← hfi];simp
     rw [f51'] at f51
     have hcol:=S.colour
     have hsig:=S.sign
     have z1:IntKind.i64.wrap (3*(B.colour:Int))=3*(B.colour:Int):=wi64 (by omega) (by omega)
     have z2:IntKind.i64.wrap (3*(B.colour:Int)+B.sign)=((3*B.colour+B.sign:Nat):Int):=by rw [wi64 (by omega) (by omega)];omega
     have z3:IntKind.i64.wrap (-y) = -y:=wi64 (by omega) (by omega)
     unfold belowP at hR
     rw [← hsv,hfi] at hR
     -- behind the sign
     have key:∀ g1 st1 bl,Cd D0 h0 c L B g1 (m+en - (j+1)+1) st1 lv→(sgsP B ((B.ord.take en).drop (i+1)) (if bl=1 then lv.set at_ (-y) else lv)).exec st1=(some lvF,stF) →
       g1.rd1 q 6=some (.sl L 0 (B.n*B.n) (.ex (B.n*B.n)))∧g1.rd1 L at_=some (.int .i64 y)∧∃ g2,g1.wr1 L at_ (.int .i64 (-y))=some g2 ∧
       (∃ lv st,Cd D0 h0 c L B (if bl=1 then g2 else g1) (m+en - j) st lv∧(sgsP B ((B.ord.take en).drop (en - j)) lv).exec st=(some lvF,stF)):=by
      intro g1 st1 bl C1 hR1
      obtain ⟨k1,C2⟩:=C1.set S (i:=at_) (v := -y) hat (by omega)
      refine ⟨by rw [rd1_of (C1.gq S)];rfl,by rw [C1.l.rd (by rw [C1.ll];exact hat),hy],_,k1,?_⟩
      rw [show en - j=i+1 by omega]
      by_cases cb:bl=1
      ·rw [if_pos cb] at hR1 ⊢;exact ⟨_,_,C2.more (by omega) (by omega),hR1⟩
      ·rw [if_neg cb] at hR1 ⊢;exact ⟨_,_,C1.more (by omega) (by omega),hR1⟩
     by_cases ca:at_=0
     ·rw [if_pos ca] at hR
      have hR:(sgsP B ((B.ord.take en).drop (i+1)) (if st.symV 30 (3*B.colour+B.sign) (fl:Int)=1 then lv.set at_ (-y) else lv)).exec (st.sym 30 (3*B.colour+B.sign) (fl:Int))=(some lvF,stF):=hR
      obtain ⟨w,g1,a1,rfl,C1⟩:=(sym50_ok S C (k:=30) (x:=3*B.colour+B.sign) (v:=(fl:Int)) (by omega) (by decide) (by show _ < 6;omega) ⟨by omega,by show (fl:Int) < 2;omega⟩).elim
      obtain ⟨r6,rL,g2,k1,I2⟩:=key g1 _ _ C1 hR
      rw [show ((30:Nat):Int)=30 from rfl] at a1
      obtain ⟨bl,hbl⟩:∃ bl,bl=st.symV 30 (3*B.colour+B.sign) (fl:Int):=⟨_,rfl⟩
      rw [← hbl] at a1 I2
      by_cases cb:bl=1
      ·rw [if_pos cb] at I2
       rw [cb] at a1
       subst ca
       have s1':iaS 1 vs (.int .i64 0)=some (.ptr b o):=s1
       have hat64':(0:Int) < (B.n:Int)*B.n:=hat64
       simp [s1',hat64',l72_0,e14,e13,show (i:Int) < en by omega,hien,e12,o1,e0,q6,hat64,hat,rl,cy,q5,s1,s2,f51,q2,q3,z1,z2,-Int.natCast_add,a1,r6,rL,z3,k1,zi,-Int.natCast_mul]
       exact ⟨j,by omega,by omega,I2,by simp [e0],by simp [e12],by simp [e13],by simp [show en - j=i+1 by omega]⟩
      ·rw [if_neg cb] at I2
       subst ca
       have s1':iaS 1 vs (.int .i64 0)=some (.ptr b o):=s1
       have hat64':(0:Int) < (B.n:Int)*B.n:=hat64
       simp [s1',hat64',l72_0,e14,e13,show (i:Int) < en by omega,hien,e12,o1,e0,q6,hat64,hat,rl,cy,q5,s1,s2,f51,q2,q3,z1,z2,-Int.natCast_add,a1,r6,rL,z3,k1,zi,cb,show ¬ (bl:Int)=1 by omega]
       exact ⟨j,by omega,by omega,I2,by simp [e0],by simp [e12],by simp [e13],by simp [show en - j=i+1 by omega]⟩
     ·rw [if_neg ca] at hR
      have hR:(sgsP B ((B.ord.take en).drop (i+1)) (if st.numV 1 (fl:Int).toNat=1 then lv.set at_ (-y) else lv)).exec (st.num 1 (fl:Int).toNat)=(some lvF,stF):=hR
      obtain ⟨w,g1,a1,rfl,C1⟩:=(num54_ok S C (n:=1) (v:=(fl:Int)) (by omega) (by decide) (fun _=>by omega)).elim
      obtain ⟨r6,rL,g2,k1,I2⟩:=key g1 _ _ C1 hR
      rw [show ((1:Nat):Int)=1 from rfl] at a1
      obtain ⟨bl,hbl⟩:∃ bl,bl=st.numV 1 (fl:Int).toNat:=⟨_,rfl⟩
      rw [← hbl] at a1 I2
      by_cases cb:bl=1
      ·rw [if_pos cb] at I2
       rw [cb] at a1
       simp [l72_0,e14,e13,show (i:Int) < en by omega,hien,e12,o1,e0,q6,hat64,hat,rl,cy,q5,s1,s2,f51,ca,-Int.natCast_add,a1,r6,rL,z3,k1,zi]
       exact ⟨j,by omega,by omega,I2,by simp [e0],by simp [e12],by simp [e13],by simp [show en - j=i+1 by omega]⟩
      ·rw [if_neg cb] at I2
       simp [l72_0,e14,e13,show (i:Int) < en by omega,hien,e12,o1,e0,q6,hat64,hat,rl,cy,q5,s1,s2,f51,ca,-Int.natCast_add,a1,r6,rL,z3,k1,zi,cb,show ¬ (bl:Int)=1 by omega]
       exact ⟨j,by omega,by omega,I2,by simp [e0],by simp [e12],by simp [e13],by simp [show en - j=i+1 by omega]⟩
  ·rintro ⟨sx,se,sh⟩ ⟨h1,C⟩
   simp only at h1
   subst h1
   simp
   exact C
end cd
open Go.Zf (wi64)
theorem size_facts {s:Nat} (hs:sizeOk s):∃ K,sideP s*sideP s=2 ^ K∧K≤10∧4≤K∧vl (ekP s)=K+1∧ekP s < 32∧cx (ekP s)=2:=by
  rcases hs with rfl | rfl | rfl | rfl | rfl
  ·exact ⟨4,by decide,by decide,by decide,by decide,by decide,by decide⟩
  ·exact ⟨6,by decide,by decide,by decide,by decide,by decide,by decide⟩
  ·exact ⟨8,by decide,by decide,by decide,by decide,by decide,by decide⟩
  ·exact ⟨10,by decide,by decide,by decide,by decide,by decide,by decide⟩
  ·exact ⟨10,by decide,by decide,by decide,by decide,by decide,by decide⟩
theorem endTo_le (B:BD):∀ i,endTo B i≤i
  | 0=>Nat.le_refl _
  | i+1=>by unfold endTo;split;exact Nat.le_refl _;exact Nat.le_trans (endTo_le B i) (Nat.le_succ _)
theorem cls_b {e K:Nat} (h0:1≤e) (h:e≤2 ^ K) (hK:1≤K):clsP e≤K:=by
  unfold clsP
  split
  ·omega
  ·have:=(Nat.log2_lt (n:=e - 1) (by omega)).2 (by omega:e - 1 < 2 ^ K)
   omega
theorem ext_b {e:Nat} (h0:1≤e) (hc:clsP e ≠ 0):0≤extP e∧extP e < 2 ^ (clsP e - 1)∧2 ^ (clsP e - 1)+1+(extP e).toNat=e:=by
  have h1:e ≠ 1:=fun h=>hc (by rw [h];rfl)
  have hb:=log2_b (x:=e - 1) (by omega)
  unfold extP
  rw [if_neg h1]
  have e1:clsP e - 1=Nat.log2 (e - 1):=by unfold clsP;rw [if_neg h1];rfl
  rw [e1]
  have pc:=two_pow_cast (Nat.log2 (e - 1))
  have ps:=Nat.pow_succ 2 (Nat.log2 (e - 1))
  omega
section cd
variable {D0:Nat→Prop} {h0 h h':H} {q c ob L m:Nat} {vs:V} {B:BD} {st:St} {lv:List Int}
abbrev K40:List Nat:=[0,2,3,4,5,6,8,13,14,15]
structure I40 (g0:H) (q ob:Nat) (B:BD) (j:Nat) (e:E) (g:H):Prop where
  hj:j≤B.n*B.n
  hg:g=g0
  e0:e.s K40 0=.ptr q 0
  e3:e.s K40 3=.int .i64 (endTo B (B.n*B.n - j):Nat)
  e13:e.s K40 13=.sl ob 0 (B.n*B.n) (.ex (B.n*B.n))
  e14:e.s K40 14=.int .i64 ((B.n*B.n:Nat):Int)
  e15:e.s K40 15=.int .i64 ((B.n*B.n - j:Nat):Int)
theorem loop40 (S:Base D0 h0 q c ob vs L B) (C:Cd D0 h0 c L B h m st lv) {e:E} {g:H} (hi:I40 h q ob B (B.n*B.n) e g) :
   ∃ e',loopZ (l70_0 KW loopZ) e g=some ⟨.ex 0,e',h⟩∧I40 h q ob B 0 e' h:=by
  have hnn:=S.nn
  have loop:=loop_run (body:=l70_0 KW loopZ) (I40 h q ob B) (fun s=>s.x=.ex 0∧I40 h q ob B 0 s.e s.h) (fun j e g hi=>by
   obtain ⟨hj,hg,e0,e3,e13,e14,e15⟩:=hi
   subst hg
   obtain ⟨N,hN⟩:∃ N,N=B.n*B.n:=⟨_,rfl⟩
   rw [← hN] at e14 e15 e3 e13 hj
   cases j with
   | zero =>
    rw [Nat.sub_zero] at e15
    simp [l70_0,e15,e14]
    refine ⟨rfl,by omega,rfl,by simp [e0],by simp [e3,← hN],by simp [e13,← hN],by rw [← hN];simp [e14],by rw [← hN];simp [e15]⟩
   | succ j =>
    obtain ⟨i,hi⟩:∃ i,i=N - (j+1):=⟨_,rfl⟩
    rw [← hi] at e15 e3
    have hiN:i < N:=by omega
    obtain ⟨o1,hat⟩:=C.o S (i:=i) (by omega)
    obtain ⟨b,o,s1,s2⟩:=C.s S hat
    have q5:g.rd1 q 5=some vs:=by rw [rd1_of (C.gq S)];rfl
    have zi:IntKind.i64.wrap ((i:Int)+1)=((i+1:Nat):Int):=by rw [wi64 (by omega) (by omega)];omega
    have hen:endTo B (i+1)=if B.src.getD (B.ord.getD i 0) 0 ≠ 0 then i+1 else endTo B i:=rfl
    obtain ⟨at_,hat_⟩:∃ at_,at_=B.ord.getD i 0:=⟨_,rfl⟩
    rw [← hat_] at o1 hat s1 s2 hen
    obtain ⟨sv,hsv⟩:∃ sv,sv=B.src.getD at_ 0:=⟨_,rfl⟩
    rw [← hsv] at s2 hen
    have hj1:B.n*B.n - j=i+1:=by omega
    have hiN':(i:Int) < (N:Int):=by omega
    by_cases c0:sv=0
    ·rw [if_neg (by simp [c0])] at hen
     subst c0
     simp [l70_0,e15,e14,hiN',hiN,e13,o1,e0,q5,s1,s2,zi,-Int.natCast_add]
     exact ⟨j,by omega,by omega,rfl,by simp [e0],by rw [hj1,hen];simp [e3],by simp [e13,← hN],by rw [← hN];simp [e14],by rw [hj1];simp⟩
    ·rw [if_pos c0] at hen
     simp [l70_0,e15,e14,hiN',hiN,e13,o1,e0,q5,s1,s2,zi,c0,-Int.natCast_add]
     exact ⟨j,by omega,by omega,rfl,by simp [e0],by rw [hj1,hen];simp,by simp [e13,← hN],by rw [← hN];simp [e14],by rw [hj1];simp⟩)
   (B.n*B.n) e g hi
  obtain ⟨s,h1,h2,h3⟩:=loop
  obtain ⟨sx,se,sh⟩:=s
  have hg:=h3.hg
  simp only at h2 hg h3
  subst h2
  subst hg
  exact ⟨se,h1,h3⟩
theorem end40_ok (S:Base D0 h0 q c ob vs L B) (C:Cd D0 h0 c L B h m st lv) (hm:m+12 < 100000000) :
   RT (fun w h'=>∃ en st',(endP B).exec st=(some en,st')∧en≤B.n*B.n∧w=.int .i64 (en:Nat)∧Cd D0 h0 c L B h' (m+12) st' lv) (KW 70 [.ptr q 0] h):=by
  have hnn:=S.nn
  have hcol:=S.colour
  obtain ⟨K,f1,f2,f3,f4,f5,f6⟩:=size_facts S.size
  rw [← S.n] at f1
  have q4:h.rd1 q 4=some (.sl ob 0 (B.n*B.n) (.ex (B.n*B.n))):=by rw [rd1_of (C.gq S)];rfl
  have q1:h.rd1 q 1=some (.int .i64 (B.size:Nat)):=by rw [rd1_of (C.gq S)];rfl
  have q2:h.rd1 q 2=some (.int .i64 (B.colour:Nat)):=by rw [rd1_of (C.gq S)];rfl
  rw [w70,f70,s70]
  obtain ⟨N,hN⟩:∃ N,N=B.n*B.n:=⟨_,rfl⟩
  obtain ⟨e',r1,I⟩:=loop40 S C (e:=⟨[.ptr q 0,.int .i64 0,.int .i64 0,.tup [],.tup [],.tup [],.tup [],.sl ob 0 (B.n*B.n) (.ex (B.n*B.n)),.int .i64 ((B.n*B.n:Nat):Int),.int .i64 0],15,.int .i64 0⟩) (g:=h)
   ⟨Nat.le_refl _,rfl,by simp,by simp [endTo],by simp,by simp,by simp⟩
  obtain ⟨_,_,e0,e3,e13,e14,e15⟩:=I
  rw [Nat.sub_zero] at e3
  simp only [K40] at e0 e3
  rw [← hN] at r1 q4 e3
  simp [q4,-Int.natCast_mul]
  rw [r1]
  -- the end of what is handed in
  have hol:=S.ordl
  rw [← hN] at hol
  unfold endP
  rw [hol]
  have hle:=endTo_le B N
  obtain ⟨E,hE⟩:∃ E,E=endTo B N:=⟨_,rfl⟩
  rw [← hE] at e3 hle ⊢
  have fb:=flag51_ok (decide ((8:Int) < B.size)) h
  have fz:=flag51_ok (decide ((E:Int)=0)) h
  obtain ⟨fl,hfl⟩:∃ fl:Nat,fl=if 8 < B.size then 1 else 0:=⟨_,rfl⟩
  have hfl2:fl≤1:=by rw [hfl];split <;> omega
  have hfi:(if decide ((8:Int) < B.size)=true then (1:Int) else 0)=(fl:Int):=by rw [hfl];by_cases hc:8 < B.size <;> simp [hc] <;> omega
  rw [hfi] at fb
  obtain ⟨zf,hzf⟩:∃ zf:Nat,zf=if E=0 then 1 else 0:=⟨_,rfl⟩
  have hzf2:zf≤1:=by rw [hzf];split <;> omega
  have hzi:(if decide ((E:Int)=0)=true then (1:Int) else 0)=(zf:Int):=by rw [hzf];by_cases hc:E=0 <;> simp [hc]
  rw [hzi] at fz
  have hzi2:(if E=0 then (1:Int) else 0)=(zf:Int):=by rw [hzf];split <;> rfl
  rw [hzi2,← hfl]
  obtain ⟨x,hx⟩:∃ x,x=2*B.colour+fl:=⟨_,rfl⟩
  have z1:IntKind.i64.wrap (2*(B.colour:Int))=2*(B.colour:Int):=wi64 (by omega) (by omega)
  have z2:IntKind.i64.wrap (2*(B.colour:Int)+fl)=(x:Int):=by rw [wi64 (by omega) (by omega)];omega
  rw [← hx]
  have hv22:vl 22=2:=by decide
  have hc22:cx 22=4:=by decide
  obtain ⟨w,g1,a1,rfl,C1⟩:=(sym50_ok S C (k:=22) (x:=x) (v:=(zf:Int)) (by omega) (by decide) (by rw [hc22];omega) (by rw [hv22];omega)).elim
  rw [show ((22:Nat):Int)=22 from rfl] at a1
  rw [Pr.exec_sym]
  obtain ⟨z,hz⟩:∃ z,z=st.symV 22 x (zf:Int):=⟨_,rfl⟩
  rw [← hz] at a1 ⊢
  have fz':KW 97 [.bool (decide (E=0))] h=some (.ret (.int .i64 zf),h):=by
   rw [← fz];congr 3;simp
  by_cases cz:z=1
  ·rw [if_pos cz,Pr.exec_done]
   rw [cz] at a1
   simp [e0,q1,fb,e3,fz',q2,z1,z2,a1]
   exact ⟨0,_,⟨rfl,rfl⟩,by omega,rfl,C1.more (by omega) hm⟩
  ·rw [if_neg cz]
   have e1:(E:Int) < 1 ↔ E=0:=by omega
   have hmx:imax (E:Int) 1=((max E 1:Nat):Int):=by unfold imax;split <;> omega
   obtain ⟨M,hM⟩:∃ M,M=max E 1:=⟨_,rfl⟩
   rw [← hM] at hmx ⊢
   have hM1:1≤M:=by omega
   have hM2:M≤2 ^ K:=by omega
   have hM3:M≤1024:=by omega
   obtain ⟨y,cl⟩:=class52_ok hM1 hM3 g1
   have p1:g1.rd1 q 1=some (.int .i64 (B.size:Nat)):=by rw [rd1_of (C1.gq S)];rfl
   have p2:g1.rd1 q 2=some (.int .i64 (B.colour:Nat)):=by rw [rd1_of (C1.gq S)];rfl
   have hcls:=cls_b hM1 hM2 (by omega)
   have hvc:(0:Int)≤(clsP M:Nat)∧((clsP M:Nat):Int) < vl (ekP B.size):=by rw [f4];omega
   obtain ⟨w,g2,a2,rfl,C2⟩:=(sym50_ok S C1 (k:=ekP B.size) (x:=B.colour) (v:=(clsP M:Nat)) (by omega) f5 (by rw [f6];omega) hvc).elim
   have hlt:=St.symV_lt C1.C.ok.1 (k:=ekP B.size) (x:=B.colour) (v:=(clsP M:Nat)) f5 (by rw [f6];omega) (fun _=>hvc)
   rw [f4] at hlt
   rw [Pr.exec_sym]
   obtain ⟨st1,hst1⟩:∃ s,s=st.sym 22 x (zf:Int):=⟨_,rfl⟩
   rw [← hst1] at C1 C2 a2 hlt ⊢
   obtain ⟨cc,hcc⟩:∃ cc,cc=st1.symV (ekP B.size) B.colour ((clsP M:Nat):Int):=⟨_,rfl⟩
   rw [← hcc] at a2 hlt ⊢
   obtain ⟨st2,hst2⟩:∃ s,s=st1.sym (ekP B.size) B.colour ((clsP M:Nat):Int):=⟨_,rfl⟩
   rw [← hst2] at C2 ⊢
   have k53:=kind53_ok B.size g1
   by_cases cc0:cc=0
   ·rw [if_pos cc0,Pr.exec_done]
    rw [cc0] at a2
    simp [e0,q1,fb,e3,fz',q2,z1,z2,a1,cz,show ¬ (z:Int)=1 by omega,maxV_i,-maxV2,hmx,cl,p1,k53,p2,a2]
    exact ⟨1,_,⟨rfl,rfl⟩,by omega,rfl,C2.more (by omega) hm⟩
   ·rw [if_neg cc0]
    obtain ⟨k,hk⟩:∃ k,cc=k+1:=⟨cc - 1,by omega⟩
    have hk10:k≤9:=by omega
    have hwr:B.wr=true→0≤extP M∧extP M < 2 ^ k:=by
     intro hw
     have hw1:st1.sd.writes=true:=by rw [C1.wr,hw]
     have:=St.symV_w hw1 (ekP B.size) B.colour ((clsP M:Nat):Int)
     rw [← hcc,Int.toNat_natCast] at this
     have:=ext_b hM1 (by omega)
     rw [show clsP M - 1=k by omega] at this
     omega
    rw [show cc - 1=k by omega,Pr.exec_num,Pr.exec_done]
    obtain ⟨w,g3,a3,rfl,C3⟩:=(num54_ok S C2 (n:=k) (v:=extP M) (by omega) (by omega) hwr).elim
    have hnlt:=St.numV_lt C2.C.ok.2.1 (n:=k) (v:=(extP M).toNat) (by omega)
    obtain ⟨X,hX⟩:∃ X,X=st2.numV k (extP M).toNat:=⟨_,rfl⟩
    rw [← hX] at a3 hnlt ⊢
    have pk:(2:Nat) ^ k≤512:=Nat.pow_le_pow_right (by decide) hk10
    have pc:=two_pow_cast k
    have p0:=Nat.two_pow_pos k
    have z3:IntKind.i64.wrap ((cc:Int) - 1)=(k:Int):=by rw [wi64 (by omega) (by omega)];omega
    have mk:min k 64=k:=by omega
    have z4:IntKind.i64.wrap ((2:Int) ^ k)=2 ^ k:=wi64 (by omega) (by omega)
    have z5:IntKind.i64.wrap ((2:Int) ^ k+1)=2 ^ k+1:=wi64 (by omega) (by omega)
    have z6:IntKind.i64.wrap ((2:Int) ^ k+1+X)=((2 ^ k+1+X:Nat):Int):=by rw [wi64 (by omega) (by omega)];omega
    have hend:2 ^ k+1+X≤B.n*B.n:=by
     rw [f1]
     have:2 ^ (k+1)≤2 ^ K:=Nat.pow_le_pow_right (by decide) (by omega)
     rw [Nat.pow_succ] at this
     omega
    simp [e0,q1,fb,e3,fz',q2,z1,z2,a1,cz,show ¬ (z:Int)=1 by omega,maxV_i,-maxV2,hmx,cl,p1,k53,p2,a2,cc0,show ¬ (cc:Int)=0 by omega,z3,a3,mk,IntKind.bits,z4,z5,z6,-Int.natCast_add,show ¬ (k:Int) < 0 by omega]
    exact ⟨_,_,⟨rfl,rfl⟩,hend,rfl,C3.more (by omega) hm⟩
end cd
open Go.Zf (wi64)
theorem d29a:(fun K L p0 h=>den Tryz.prog K L k43 (left (body 43)) (entE k43 [p0]) h)=(fun (K:Oracle) (L:Looper) (p0:V) (h:H) =>
  bf (nw h 34 [.nils]) fun t2 h1=>bf (nw h1 24 [.int .i64 0]) fun t3 h2=>some ⟨.nm,⟨[p0,t2,t3,.und],3,t3⟩,h2⟩):=by kernel_rfl
noncomputable def s29r (K:Oracle) (L:Looper) (e:E) (h:H):Out :=
  sq (bc k43 [6,7,4] e (K 70 [e.s k43 0] h) fun t7 h1=>some ⟨.nm,⟨[e.s k43 0,e.s k43 2,e.s k43 3,t7],4,t7⟩,h1⟩) fun e h =>
  sq (bc k43 [8,9,10] e (K 71 [e.s k43 0,e.s k43 4] h) fun t10 h1=>some ⟨.nm,⟨[e.s k43 0,e.s k43 2,e.s k43 3,e.s k43 4],10,t10⟩,h1⟩) fun e h =>
  sq (bc k43 [11,12,13] e (K 72 [e.s k43 0,e.s k43 4] h) fun t13 h1=>some ⟨.nm,⟨[e.s k43 0,e.s k43 2,e.s k43 3,e.s k43 4],13,t13⟩,h1⟩) fun e h =>
  sq (bd (nilC (e.s k43 0)) fun t15=>bd (fa 6 t15) fun t16=>bd (ld h t16) fun t17=>bf (stZ 1 h (e.s k43 2) t17) fun _ h1=>bf (stZ 1 h1 (e.s k43 3) (.int .i64 0)) fun _ h2 =>
   some ⟨.nm,⟨[e.s k43 0,e.s k43 2,e.s k43 3,e.s k43 4],0,e.s k43 0⟩,h2⟩) fun e h =>
  some ⟨.rt,e,h⟩
theorem d29r:(fun K L e h=>den Tryz.prog K L k43 rest29 e h)=s29r:=by kernel_rfl
noncomputable def s39r (K:Oracle) (L:Looper) (e:E) (h:H):Out :=
  sq (bf (nw h 112 [.int .i64 0]) fun t3 h1=>bf (stZ 1 h1 t3 (e.s k69 10)) fun _ h2=>some ⟨.nm,⟨[e.s k69 0,e.s k69 1,t3,e.s k69 10],0,e.s k69 0⟩,h2⟩) fun e h =>
  bf (stZ 1 h (e.s k69 0) .nils) fun _ h1=>bd (fa 0 (e.s k69 3)) fun t11=>bd (ld h1 t11) fun t12=>bf (stZ 1 h1 (e.s k69 1) t12) fun _ h2 =>
  ck (ld h t11) t12 (ck (ld h1 t11) t12 (some ⟨.nm,⟨[e.s k69 0,e.s k69 1,e.s k69 3,e.s k69 10],0,e.s k69 0⟩,h2⟩))
theorem d39:(fun K L e h=>den Tryz.prog K L k69 tail39 e h)=s39r:=by kernel_rfl
theorem e29a (K:Oracle) (L:Looper) (p0:V) (h:H):den Tryz.prog K L k43 (left (body 43)) (entE k43 [p0]) h=bf (nw h 34 [.nils]) fun t2 h1=>bf (nw h1 24 [.int .i64 0]) fun t3 h2=>some ⟨.nm,⟨[p0,t2,t3,.und],3,t3⟩,h2⟩:=congrFun (congrFun (congrFun (congrFun d29a K) L) p0) h
theorem e29r (K:Oracle) (L:Looper) (e:E) (h:H):den Tryz.prog K L k43 rest29 e h=s29r K L e h:=congrFun (congrFun (congrFun (congrFun d29r K) L) e) h
theorem e39 (K:Oracle) (L:Looper) (e:E) (h:H):den Tryz.prog K L k69 tail39 e h=s39r K L e h:=congrFun (congrFun (congrFun (congrFun d39 K) L) e) h
theorem cell32 (h:H) (b o:Nat):ldV Tryz.prog 34 h (.ptr b o)=h.rd1 b o:=by
  have h1:isAggT Tryz.prog 34=some false:=by kernel_rfl
  simp [ldV,h1]
theorem cellE (h:H) (b o:Nat):ldV Tryz.prog 24 h (.ptr b o)=h.rd1 b o:=by
  have h1:isAggT Tryz.prog 24=some false:=by kernel_rfl
  simp [ldV,h1]
theorem run29_eq (p0:V) (h:H):KW 43 [p0] h=match s29r KW loopZ ⟨[p0,.ptr h.n 0,.ptr (h.n+1) 0,.any],0,p0⟩ ((h.new (.cells [.nils] 34 false)).new (.cells [.int .i64 0] 24 false)) with
   | some ⟨.rt,e',h3⟩=>bd (resVs Tryz.prog (e'.s k43) h3 [.cell 2 34,.cell 3 24]) fun vs=>some (.ret (fin1 vs),h3)
   | some ⟨.pn (.iface 112 (.agg [x])),e',h3⟩=>match s39r KW loopZ ⟨[.ptr h.n 0,.ptr (h.n+1) 0,.any,.agg [x]],0,.ptr h.n 0⟩ h3 with
    | some ⟨.nm,_,h4⟩=>bd (resVs Tryz.prog (e'.s k43) h4 [.cell 2 34,.cell 3 24]) fun vs=>some (.ret (fin1 vs),h4)
    | _=>none
   | _=>none:=by
  have hg:([p0]:List V).getD 0 .und=p0:=id rfl
  have hl:([p0]:List V).length=1:=id rfl
  have s0:∀ t2 t3:V,E.s k43 ⟨[p0,t2,t3,.und],3,t3⟩ 0=p0:=fun _ _=>by simp [k43]
  have s2:∀ t2 t3:V,E.s k43 ⟨[p0,t2,t3,.und],3,t3⟩ 2=t2:=fun _ _=>by simp [k43]
  have s3:∀ t2 t3:V,E.s k43 ⟨[p0,t2,t3,.und],3,t3⟩ 3=t3:=fun _ _=>by simp [k43]
  rw [w43]
  unfold ovRun
  rw [hg,e29a,hl]
  simp only [nw,bf_some1,H.n_new,e29r,e39,s0,s2,s3,if_true]
  generalize s29r KW loopZ _ _=o
  rcases o with _ | ⟨x,e',h3⟩ <;> try rfl
section cd
variable {D0:Nat→Prop} {h0 h h':H} {q c ob L m:Nat} {vs:V} {B:BD} {st:St} {lv:List Int}
theorem Base.re (S:Base D0 h0 q c ob vs L B) (C:Cd D0 h0 c L B h m st lv) (x:Ext h h'):Base (grow D0 h0 h) h' q c ob vs L B∧Cd (grow D0 h0 h) h' c L B h' m st lv:=by
  have hn:=C.x.n
  have hx:=x.n
  have lo:∀ b,b < h0.n→¬ D0 b→¬ grow D0 h0 h b:=by
   intro b hb hd
   rintro (e | e)
   ·exact hd e
   ·omega
  have gt:∀ b,b < h0.n→¬ D0 b→b ≠ L→h'.get b=h0.get b:=by
   intro b hb hd hL
   rw [x.get b (by omega),C.x.get b hb (by rintro (e | e);exact hd e;exact hL e)]
  refine ⟨⟨?_,?_,?_,?_,?_,?_,S.size,S.n,S.colour,S.sign,S.ord,S.ordl,S.ordb,S.srcl,S.srcb,?_⟩,⟨?_,Mod.refl _ _,C.l.ext x,C.ll,C.wr⟩⟩
  ·rw [gt q (H.get_lt S.hq) S.nq.1 S.nq.2,S.hq]
  ·rw [gt ob (H.get_lt S.ho) S.no.1 S.no.2,S.ho]
  ·refine ⟨S.hs.len,fun i y hy=>?_,S.hs.cell,S.hs.same,S.hs.cells⟩
   obtain ⟨b,o,h1,h2,h3,h4⟩:=S.hs.at_ i y hy
   have nb:¬ D0 b∧b ≠ L:=⟨fun e=>h3 (.inl e),fun e=>h3 (.inr e)⟩
   refine ⟨b,o,h1,?_,?_,by omega⟩
   ·rw [← h2];unfold H.rd1;rw [gt b h4 nb.1 nb.2]
   ·rintro (e | e)
    ·exact lo b h4 nb.1 e
    ·exact nb.2 e
  ·exact ⟨lo q (H.get_lt S.hq) S.nq.1,S.nq.2⟩
  ·exact ⟨lo ob (H.get_lt S.ho) S.no.1,S.no.2⟩
  ·exact ⟨lo L S.nl.2 S.nl.1,by have:=S.nl.2;omega⟩
  ·rintro b (e | e)
   ·have:=S.dn b e;omega
   ·omega
  ·exact (C.C.keep hx fun b _ hb=>x.get b hb).mono fun b _ hd=>.inl hd
structure Done (D0:Nat→Prop) (h0:H) (c L:Nat) (h:H) (m:Nat) (st:St):Prop where
  C:CoderAt (grow D0 h0 h) h c m st
  x:Mod (fun b=>D0 b∨b=L) h0 h
theorem Base.done (S:Base D0 h0 q c ob vs L B) (C:Cd D0 h0 c L B h m st lv) {h2 h5 h7:H} {m':Nat} {st':St} {lv':List Int} (x2:Ext h h2) (n2:h2.n=h.n+2) (C5:Cd (grow D0 h0 h) h2 c L B h5 m' st' lv') (n7:h5.n≤h7.n) (o7:∀ b,b < h5.n→b ≠ h.n→b ≠ h.n+1→h7.get b=h5.get b) :
   Done D0 h0 c L h7 m' st'∧h7.get L=h5.get L:=by
  have x5:=C5.x.n
  have hLh:L < h.n:=by have:=S.nl.2;have:=C.x.n;omega
  have nD:∀ b,h.n≤b→b < h2.n→¬ grow D0 h0 h b:=by
   intro b h1 h3
   rintro (e | e)
   ·have:=S.dn b e;have:=C.x.n;omega
   ·omega
  refine ⟨⟨?_,⟨?_,?_⟩⟩,o7 L (by omega) (by omega) (by omega)⟩
  ·refine (C5.C.keep (h':=h7) (by omega) ?_).mono ?_
   ·intro b hb hb2
    refine o7 b hb2 ?_ ?_
    ·rintro rfl;rcases hb with e | e;exact nD _ (by omega) (by omega) e;omega
    ·rintro rfl;rcases hb with e | e;exact nD _ (by omega) (by omega) e;omega
   ·intro b hb hd
    have:=C.x.n
    rcases hd with (e | e) | e
    ·exact .inl e
    ·exact .inr ⟨e.1,by omega⟩
    ·exact .inr ⟨by omega,by omega⟩
  ·have:=C.x.n;omega
  ·intro b hb hd
   have:=C.x.n
   rw [o7 b (by omega) (by omega) (by omega),C5.x.get b (by omega) ?_,x2.get b (by omega),C.x.get b hb hd]
   rintro (e | e)
   ·rcases e with e | e
    ·exact hd (.inl e)
    ·omega
   ·exact hd (.inr e)
theorem sgs_some (B:BD):∀ (r:List Nat) (lv:List Int) (st:St),∃ lvF stF,(sgsP B r lv).exec st=(some lvF,stF)
  | [],lv,st=>⟨lv,st,rfl⟩
  | p :: r,lv,st=>by
   unfold sgsP
   split
   ·exact sgs_some B r lv st
   ·unfold belowP
    split
    ·exact sgs_some B r _ _
    ·exact sgs_some B r _ _
theorem run29_any (S:Base D0 h0 q c ob vs L B) (C:Cd D0 h0 c L B h m st (List.replicate (B.n*B.n) 0)) (hm:m+50000 < 100000000) {R:Option (List Int) × St} (hR:(codeP B).exec st=R) :
   RT (fun w h'=>Done D0 h0 c L h' (m+50000) R.2∧((∃ lvF,R.1=some lvF∧w=.tup [.sl L 0 (B.n*B.n) (.ex (B.n*B.n)),.int .i64 0]∧LvAt h' L lvF∧lvF.length=B.n*B.n)∨(R.1=none∧w=.tup [.nils,.int .i64 4]))) (KW 43 [.ptr q 0] h):=by
  have hnn:=S.nn
  obtain ⟨h2,hh2⟩:∃ y,y=(h.new (.cells [.nils] 34 false)).new (.cells [.int .i64 0] 24 false):=⟨_,rfl⟩
  have x2:Ext h h2:=by rw [hh2];exact ((Ext.refl h).new _).new _
  have n2:h2.n=h.n+2:=by rw [hh2,H.n_new,H.n_new]
  have g2:h2.get h.n=some (.cells [.nils] 34 false):=by rw [hh2,get_new_lt (by rw [H.n_new];omega),get_new_same]
  have g3:h2.get (h.n+1)=some (.cells [.int .i64 0] 24 false):=by rw [hh2,get_new_eq (by rw [H.n_new])]
  obtain ⟨S2,C2⟩:=S.re C x2
  have hLh:L < h.n:=by have:=S.nl.2;have:=C.x.n;omega
  unfold codeP at hR
  obtain ⟨w,h3,a3,en,st3,b3,hen,rfl,C3⟩:=(end40_ok S2 C2 (by omega)).elim
  rw [Pr.exec_some b3] at hR
  have hm46:46*en≤46*1024:=by omega
  have nD:∀ b,h.n≤b→b < h2.n→¬ grow D0 h0 h b:=by
   intro b h1 h3
   rintro (e | e)
   ·have:=S.dn b e;have:=C.x.n;omega
   ·omega
  have lows:∀ {h5:H} {m':Nat} {st':St} {lv':List Int},Cd (grow D0 h0 h) h2 c L B h5 m' st' lv'→h5.get h.n=some (.cells [.nils] 34 false)∧h5.get (h.n+1)=some (.cells [.int .i64 0] 24 false):=by
   intro h5 m' st' lv' C5
   constructor
   ·rw [C5.x.get _ (by omega) (by rintro (e | e);exact nD _ (by omega) (by omega) e;omega),g2]
   ·rw [C5.x.get _ (by omega) (by rintro (e | e);exact nD _ (by omega) (by omega) e;omega),g3]
  rcases (amounts41_any S2 C3 hen (by omega) rfl).elim with ⟨w,h4,a4,lv4,st4,b4,C4⟩ | ⟨h4,a4,lv4,st4,b4,C4⟩
  ·rw [Pr.exec_some b4] at hR
   obtain ⟨lvF,stF,b5⟩:=sgs_some B (B.ord.take en) lv4 st4
   rw [b5] at hR
   obtain ⟨w',h5,a5,C5⟩:=(signs42_ok S2 C4 hen (by omega) b5).elim
   have q6:h5.rd1 q 6=some (.sl L 0 (B.n*B.n) (.ex (B.n*B.n))):=by rw [rd1_of (C5.gq S2)];rfl
   obtain ⟨k2,k3⟩:=lows C5
   have x5:=C5.x.n
   obtain ⟨h6,hh6⟩:∃ y,y=h5.put h.n (.cells [.sl L 0 (B.n*B.n) (.ex (B.n*B.n))] 34 false):=⟨_,rfl⟩
   have w6:h5.wr1 h.n 0 (.sl L 0 (B.n*B.n) (.ex (B.n*B.n)))=some h6:=by rw [wr1_of k2 (by simp),hh6];rfl
   have k6:h6.get (h.n+1)=some (.cells [.int .i64 0] 24 false):=by rw [hh6,get_put_ne (by omega),k3]
   have n6:h6.n=h5.n:=by rw [hh6,H.n_put]
   obtain ⟨h7,hh7⟩:∃ y,y=h6.put (h.n+1) (.cells [.int .i64 0] 24 false):=⟨_,rfl⟩
   have w7:h6.wr1 (h.n+1) 0 (.int .i64 0)=some h7:=by rw [wr1_of k6 (by simp),hh7];rfl
   have n7:h7.n=h5.n:=by rw [hh7,H.n_put,n6]
   have r2:h7.rd1 h.n 0=some (.sl L 0 (B.n*B.n) (.ex (B.n*B.n))):=by
    rw [rd1_of (c:=[.sl L 0 (B.n*B.n) (.ex (B.n*B.n))]) (e:=34) (ro:=false) (by rw [hh7,get_put_ne (by omega),hh6,get_put_same (by omega)])];rfl
   have r3:h7.rd1 (h.n+1) 0=some (.int .i64 0):=by
    rw [rd1_of (c:=[.int .i64 0]) (e:=24) (ro:=false) (by rw [hh7,get_put_same (by omega)])];rfl
   obtain ⟨Dn,gL⟩:=S.done C x2 n2 (C5.more (m':=m+50000) (by omega) hm) (h7:=h7) (by omega) (fun b _ h1 h2=>by rw [hh7,get_put_ne h2,hh6,get_put_ne h1])
   rw [run29_eq,← hh2]
   simp [s29r,k43,a3,a4,a5,q6,w6,w7,r2,r3,resVs_cell,cell32,cellE]
   subst hR
   exact ⟨Dn,.inl ⟨lvF,rfl,rfl,⟨by rw [gL,C5.l.get],C5.l.b⟩,C5.ll⟩⟩
  ·rw [Pr.exec_none b4] at hR
   obtain ⟨k2,k3⟩:=lows C4
   have x4:=C4.x.n
   obtain ⟨h5,hh5⟩:∃ y,y=(h4.new (.cells [.int .i64 0] 112 false)).put h4.n (.cells [.int .i64 4] 112 false):=⟨_,rfl⟩
   have x5:Ext h4 h5:=by rw [hh5];exact ((Ext.refl h4).new _).put (Nat.le_refl _) _
   have n5:h5.n=h4.n+1:=by rw [hh5,H.n_put,H.n_new]
   have s5:(h4.new (.cells [.int .i64 0] 112 false)).wrN h4.n 0 [.int .i64 4]=some h5:=by rw [wrN_of get_new_same (by simp),hh5];rfl
   have g5:h5.get h4.n=some (.cells [.int .i64 4] 112 false):=by rw [hh5,get_put_same (by rw [H.n_new];omega)]
   obtain ⟨h6,hh6⟩:∃ y,y=h5.put h.n (.cells [.nils] 34 false):=⟨_,rfl⟩
   have w6:h5.wr1 h.n 0 .nils=some h6:=by rw [wr1_of ((x5.get _ (by omega)).trans k2) (by simp),hh6];rfl
   have k6:h6.get (h.n+1)=some (.cells [.int .i64 0] 24 false):=by rw [hh6,get_put_ne (by omega),x5.get _ (by omega),k3]
   have n6:h6.n=h5.n:=by rw [hh6,H.n_put]
   obtain ⟨h7,hh7⟩:∃ y,y=h6.put (h.n+1) (.cells [.int .i64 4] 24 false):=⟨_,rfl⟩
   have w7:h6.wr1 (h.n+1) 0 (.int .i64 4)=some h7:=by rw [wr1_of k6 (by simp),hh7];rfl
   have n7:h7.n=h5.n:=by rw [hh7,H.n_put,n6]
   have q5:h5.rd1 h4.n 0=some (.int .i64 4):=by rw [rd1_of g5];rfl
   have q6:h6.rd1 h4.n 0=some (.int .i64 4):=by rw [rd1_of (by rw [hh6,get_put_ne (by omega)];exact g5)];rfl
   have r2:h7.rd1 h.n 0=some .nils:=by
    rw [rd1_of (c:=[.nils]) (e:=34) (ro:=false) (by rw [hh7,get_put_ne (by omega),hh6,get_put_same (by omega)])];rfl
   have r3:h7.rd1 (h.n+1) 0=some (.int .i64 4):=by
    rw [rd1_of (c:=[.int .i64 4]) (e:=24) (ro:=false) (by rw [hh7,get_put_same (by omega)])];rfl
   obtain ⟨Dn,gL⟩:=S.done C x2 n2 (C4.more (m':=m+50000) (by omega) hm) (h7:=h7) (by omega) (fun b hb h1 h2=>by rw [hh7,get_put_ne h2,hh6,get_put_ne h1,x5.get b hb])
   rw [run29_eq,← hh2]
   simp [s29r,k43,a3,a4,bc_pan,sq_pn,fgE,fgL,s39r,k69,nw,s5,w6,q5,w7,q6,r2,r3,resVs_cell,cell32,cellE]
   subst hR
   exact ⟨Dn,.inr ⟨rfl,rfl⟩⟩
end cd
open Go.Zf (wi64)
theorem max27_ok {X:Nat→Prop} {h:H} {v:V} {l:List Int} (s:IntsX X h v l) (h0:0 < l.length) (h1:l.length < 100000) :
   RT (fun w h'=>h'=h∧∃ M:Int,w=.int .i64 M∧M ∈ l∧∀ x ∈ l,x≤M) (KW 41 [v] h):=by
  obtain ⟨b,o,s1,s2,_,_⟩:=s.at_ 0 _ (List.getElem?_eq_getElem h0)
  have s1':iaS 1 v (.int .i64 0)=some (.ptr b o):=s1
  have sl:=s.len
  rw [w41,f41,s41]
  simp [sl,show ¬ (l.length:Int) < 1 by omega,s1',s2]
  refine loop_in (C:=fun x=>RT _ (fin Tryz.prog _ _ (sq (blk 0 x) _))) (fun j e g=>j < l.length∧g=h∧e.s [0,2,3,4] 0=v∧e.s [0,2,3,4] 4=.int .i64 ((l.length - j:Nat):Int)∧∃ M:Int,e.s [0,2,3,4] 3=.int .i64 M∧M ∈ l∧∀ x ∈ l.take (l.length - j),x≤M)
   (fun st=>st.x=.ex 0∧st.h=h∧∃ M:Int,st.e.s [0,2,3,4] 3=.int .i64 M∧M ∈ l∧∀ x ∈ l,x≤M) ?_ (l.length - 1) ?_ ?_
  ·rintro j e g ⟨hj,rfl,e0,e4,M,e3,m1,m2⟩
   cases j with
   | zero =>
    rw [Nat.sub_zero] at e4 m2
    rw [List.take_length] at m2
    simp [l41_0,e0,e4,sl]
    exact ⟨rfl,rfl,M,by simp [e3],m1,m2⟩
   | succ j =>
    obtain ⟨i,hi⟩:∃ i,i=l.length - (j+1):=⟨_,rfl⟩
    rw [← hi] at e4 m2
    have hil:i < l.length:=by omega
    obtain ⟨b,o,t1,t2,_,_⟩:=s.at_ i _ (List.getElem?_eq_getElem hil)
    have z1:IntKind.i64.wrap ((i:Int)+1)=((i+1:Nat):Int):=by rw [wi64 (by omega) (by omega)];omega
    have mb:=imax_b M l[i]
    have hil':(i:Int) < l.length:=by omega
    simp [l41_0,e0,e4,sl,hil',t1,t2,e3,maxV_i,-maxV2,z1,-Int.natCast_add,hil]
    refine ⟨j,by omega,by omega,rfl,by simp,by simp [show l.length - j=i+1 by omega],imax M l[i],by simp,?_,?_⟩
    ·rcases mb.2.2 with q | q
     ·rw [q];exact m1
     ·rw [q];exact List.getElem_mem hil
    ·intro x hx
     rw [show l.length - j=i+1 by omega,List.take_add_one,List.mem_append,List.getElem?_eq_getElem hil] at hx
     rcases hx with hx | hx
     ·have:=m2 x hx;omega
     ·simp at hx;subst hx;exact mb.2.1
  ·refine ⟨by omega,rfl,by simp,by simp [show l.length - (l.length - 1)=1 by omega],l[0],by simp,List.getElem_mem h0,?_⟩
   intro x hx
   rw [show l.length - (l.length - 1)=0+1 by omega,List.take_add_one] at hx
   simp [List.getElem?_eq_getElem h0] at hx
   subst hx;exact Int.le_refl _
  ·rintro ⟨sx,se,sh⟩ ⟨h1,h2,M,h3,h4,h5⟩
   simp only at h1 h2 h3
   subst h1 h2
   simp [h3]
   exact ⟨rfl,M,rfl,h4,h5⟩
theorem min28_ok {X:Nat→Prop} {h:H} {v:V} {l:List Int} (s:IntsX X h v l) (h0:0 < l.length) (h1:l.length < 100000) :
   RT (fun w h'=>h'=h∧∃ M:Int,w=.int .i64 M∧M ∈ l∧∀ x ∈ l,M≤x) (KW 42 [v] h):=by
  obtain ⟨b,o,s1,s2,_,_⟩:=s.at_ 0 _ (List.getElem?_eq_getElem h0)
  have s1':iaS 1 v (.int .i64 0)=some (.ptr b o):=s1
  have sl:=s.len
  rw [w42,f42,s42]
  simp [sl,show ¬ (l.length:Int) < 1 by omega,s1',s2]
  refine loop_in (C:=fun x=>RT _ (fin Tryz.prog _ _ (sq (blk 0 x) _))) (fun j e g=>j < l.length∧g=h∧e.s [0,2,3,4] 0=v∧e.s [0,2,3,4] 4=.int .i64 ((l.length - j:Nat):Int)∧∃ M:Int,e.s [0,2,3,4] 3=.int .i64 M∧M ∈ l∧∀ x ∈ l.take (l.length - j),M≤x)
   (fun st=>st.x=.ex 0∧st.h=h∧∃ M:Int,st.e.s [0,2,3,4] 3=.int .i64 M∧M ∈ l∧∀ x ∈ l,M≤x) ?_ (l.length - 1) ?_ ?_
  ·rintro j e g ⟨hj,rfl,e0,e4,M,e3,m1,m2⟩
   cases j with
   | zero =>
    rw [Nat.sub_zero] at e4 m2
    rw [List.take_length] at m2
    simp [l42_0,e0,e4,sl]
    exact ⟨rfl,rfl,M,by simp [e3],m1,m2⟩
   | succ j =>
    obtain ⟨i,hi⟩:∃ i,i=l.length - (j+1):=⟨_,rfl⟩
    rw [← hi] at e4 m2
    have hil:i < l.length:=by omega
    obtain ⟨b,o,t1,t2,_,_⟩:=s.at_ i _ (List.getElem?_eq_getElem hil)
    have z1:IntKind.i64.wrap ((i:Int)+1)=((i+1:Nat):Int):=by rw [wi64 (by omega) (by omega)];omega
    have mb:=imin_b M l[i]
    have hil':(i:Int) < l.length:=by omega
    simp [l42_0,e0,e4,sl,hil',t1,t2,e3,minV_i,-minV2,z1,-Int.natCast_add,hil]
    refine ⟨j,by omega,by omega,rfl,by simp,by simp [show l.length - j=i+1 by omega],imin M l[i],by simp,?_,?_⟩
    ·rcases mb.2.2 with q | q
     ·rw [q];exact m1
     ·rw [q];exact List.getElem_mem hil
    ·intro x hx
     rw [show l.length - j=i+1 by omega,List.take_add_one,List.mem_append,List.getElem?_eq_getElem hil] at hx
     rcases hx with hx | hx
     ·have:=m2 x hx;omega
     ·simp at hx;subst hx;exact mb.2.1
  ·refine ⟨by omega,rfl,by simp,by simp [show l.length - (l.length - 1)=1 by omega],l[0],by simp,List.getElem_mem h0,?_⟩
   intro x hx
   rw [show l.length - (l.length - 1)=0+1 by omega,List.take_add_one] at hx
   simp [List.getElem?_eq_getElem h0] at hx
   subst hx;exact Int.le_refl _
  ·rintro ⟨sx,se,sh⟩ ⟨h1,h2,M,h3,h4,h5⟩
   simp only at h1 h2 h3
   subst h1 h2
   simp [h3]
   exact ⟨rfl,M,rfl,h4,h5⟩
theorem IntsX.keep {X Y:Nat→Prop} {h h':H} {v:V} {l:List Int} (a:IntsX X h v l) (hn:h.n≤h'.n) (hk:∀ b,b < h.n→¬ X b→h'.get b=h.get b) (hy:∀ b,b < h.n→¬ X b→¬ Y b):IntsX Y h' v l where
  len:=a.len
  at_:=fun i x hi=>by
   obtain ⟨b,o,h1,h2,h3,h4⟩:=a.at_ i x hi
   exact ⟨b,o,h1,by rw [← h2];unfold H.rd1;rw [hk b h4 h3],hy b h4 h3,by omega⟩
  cell:=a.cell
  same:=a.same
  cells:=a.cells
theorem IntsX.of {X:Nat→Prop} {h:H} {b:Nat} {l:List Int} {k:Cap} (hb:h.get b=some (.cells (intsV l) 3 false)) (hx:¬ X b):IntsX X h (.sl b 0 l.length k) l where
  len:=rfl
  at_:=fun i x hi=>by
   have hlt:=lt_of_get hi
   refine ⟨b,i,by simp [hlt],?_,hx,H.get_lt hb⟩
   rw [rd1_of hb,intsV_get _ _ hlt];simp [hi]
  cell:=rfl
  same:=by simp [V.same]
  cells:=rfl
theorem St.num_zero (st:St) (v:Nat):st.num 0 v=st:=by
  obtain ⟨a,b,c,d⟩:=st
  simp [St.num,bits]
def bdOf (size plane sign:Nat) (src:List Int) (wr:Bool):BD:=⟨size,sideP size,min plane 1,sign,ordN (sideP size),src,wr⟩
theorem ms_zero (h:H) (N:Nat) (hN:N < 100000):ms h 3 8 [.int .i64 0] (.int .i64 N) (.int .i64 N)=some (.sl h.n 0 N (.ex N),h.new (.cells (intsV (List.replicate N 0)) 3 false)):=by
  have hm:ms h 3 8 [.int .i64 0] (.int .i64 (N:Nat)) (.int .i64 (N:Nat))=if (0:Int)≤(N:Nat)∧((N:Nat):Int)≤((N:Nat):Int)∧((8:Nat):Int)*((N:Nat):Int)≤140737488355328∧((N:Nat):Int) < 9223372036854775808∧true=true then some (.sl h.n 0 ((N:Nat):Int).toNat (.ex ((N:Nat):Int).toNat),h.new (.cells (reps ((N:Nat):Int).toNat [.int .i64 0]) 3 false)) else none:=rfl
  rw [hm,if_pos ⟨by omega,by omega,by omega,by omega,rfl⟩,Int.toNat_natCast,reps_one]
  simp [intsV]
structure Coded (D:Nat→Prop) (h:H) (c L m:Nat) (st:St) (lv:List Int) (h':H):Prop where
  C:∃ E,CoderAt E h' c m st∧¬ E L∧∀ b,E b→D b∨h.n≤b
  nL:h.n≤L
  l:LvAt h' L lv
  x:Mod D h h'
structure Stopped (D:Nat→Prop) (h:H) (c m:Nat) (st:St) (h':H):Prop where
  C:∃ E,CoderAt E h' c m st∧∀ b,E b→D b∨h.n≤b
  x:Mod D h h'
def CodeEnd (D:Nat→Prop) (h:H) (c m N:Nat) (R:Option (List Int) × St) (w:V) (h':H):Prop :=
  (∃ L lvF,R.1=some lvF∧w=.tup [.sl L 0 N (.ex N),.int .i64 0]∧lvF.length=N∧Coded D h c L m R.2 lvF h')∨(R.1=none∧w=.tup [.nils,.int .i64 4]∧Stopped D h c m R.2 h')
theorem code10_any {D:Nat→Prop} {h:H} {c m:Nat} {st:St} (C:CoderAt D h c m st) (hm:m+50000 < 100000000) {size plane sign:Nat} (hs:sizeOk size) (hp:plane≤2) (hg:sign≤2) {v:V} {src:List Int} (hc:v.isCell=true)
   (hsrc:st.sd.writes=true→IntsX D h v src) (hr:st.sd.writes=false→src=List.replicate (sideP size*sideP size) 0) (hl:src.length=sideP size*sideP size) (hb:∀ x ∈ src,-1048576≤x∧x≤1048576)
   {R:Option (List Int) × St} (hR:(codeP (bdOf size plane sign src st.sd.writes)).exec st=R) :
   RT (CodeEnd D h c (m+50000) (sideP size*sideP size) R) (KW 11 [.ptr c 0,.int .i64 size,.int .i64 plane,.int .i64 sign,v] h):=by
  have sb:=sideP_b hs
  have oo:=ord_ok hs
  obtain ⟨n,hn⟩:∃ n,n=sideP size:=⟨_,rfl⟩
  have hnn:n*n≤1024:=by
   have:n*n≤32*32:=Nat.mul_le_mul (by omega) (by omega)
   omega
  have hnn2:16≤n*n:=by
   have:4*4≤n*n:=Nat.mul_le_mul (by omega) (by omega)
   omega
  obtain ⟨w,h1,a1,rfl,C1,M1⟩:=(bits29_ok (n:=0) (v:=0) C (by decide) (by omega) (fun _=>by decide)).elim
  rw [St.num_zero] at C1
  rw [show ((0:Nat):Int)=0 from rfl] at a1
  have m1:=M1.n
  obtain ⟨w,h2,a2,ob,rfl,o1,o2,x2⟩:=(order25_ok hs oo.len h1).elim
  have x2n:=x2.n
  rw [← hn] at a2 o2 oo hl hr ⊢
  have w26:∀ g,Ext h1 g→KW 40 [.ptr c 0] g=some (.ret (.bool st.sd.writes),g):=fun g x=>writes26_ok (C1.keep x.n fun b _ hb=>x.get b hb)
  have C1':CoderAt (fun b=>grow D h h1 b∧b < h1.n) h1 c (m+0) st:=C1.mono fun b hb hd=>⟨hd,hb⟩
  -- the blocks
  obtain ⟨h3,hh3⟩:∃ y,y=h2.new (.cells (intsV (List.replicate (n*n) 0)) 3 false):=⟨_,rfl⟩
  have x3:Ext h2 h3:=by rw [hh3];exact (Ext.refl h2).new _
  have n3:h3.n=h2.n+1:=by rw [hh3,H.n_new]
  have ms3:=ms_zero h2 (n*n) (by omega)
  rw [← hh3] at ms3
  obtain ⟨pl,hpl⟩:∃ pl,pl=min plane 1:=⟨_,rfl⟩
  have hmin:imin (plane:Int) 1=(pl:Int):=by unfold imin;split <;> omega
  obtain ⟨h4,hh4⟩:∃ y,y=h3.new (.cells [.ptr c 0,.int .i64 size,.int .i64 pl,.int .i64 sign,.sl ob 0 (n*n) (.ex (n*n)),.nils,.sl h2.n 0 (n*n) (.ex (n*n))] 87 false):=⟨_,rfl⟩
  have x4:Ext h3 h4:=by rw [hh4];exact (Ext.refl h3).new _
  have n4:h4.n=h3.n+1:=by rw [hh4,H.n_new]
  have g4:h4.get h3.n=some (.cells [.ptr c 0,.int .i64 size,.int .i64 pl,.int .i64 sign,.sl ob 0 (n*n) (.ex (n*n)),.nils,.sl h2.n 0 (n*n) (.ex (n*n))] 87 false):=by rw [hh4,get_new_same]
  obtain ⟨h5,hh5⟩:∃ y,y=h4.put h3.n (.cells [.ptr c 0,.int .i64 size,.int .i64 pl,.int .i64 sign,.sl ob 0 (n*n) (.ex (n*n)),v,.sl h2.n 0 (n*n) (.ex (n*n))] 87 false):=⟨_,rfl⟩
  have st5:stZ 1 h4 (.ptr h3.n 5) v=some (.und,h5):=by rw [stZ_one _ _ _ _ hc,wr1_of g4 (by simp),hh5];rfl
  have n5:h5.n=h4.n:=by rw [hh5,H.n_put]
  have x5:Ext h3 h5:=by rw [hh5];exact x4.put (Nat.le_refl _) _
  have g5:h5.get h3.n=some (.cells [.ptr c 0,.int .i64 size,.int .i64 pl,.int .i64 sign,.sl ob 0 (n*n) (.ex (n*n)),v,.sl h2.n 0 (n*n) (.ex (n*n))] 87 false):=by rw [hh5,get_put_same (by omega)]
  have e1:decide ((plane:Int) < 0)=false:=by simp
  -- what run is handed
  have fin10:∀ (h6:H) (vs:V),Ext h5 h6∨(∃ g,Ext h5 g∧h6=g.put h3.n (.cells [.ptr c 0,.int .i64 size,.int .i64 pl,.int .i64 sign,.sl ob 0 (n*n) (.ex (n*n)),vs,.sl h2.n 0 (n*n) (.ex (n*n))] 87 false)) →
    h6.get h3.n=some (.cells [.ptr c 0,.int .i64 size,.int .i64 pl,.int .i64 sign,.sl ob 0 (n*n) (.ex (n*n)),vs,.sl h2.n 0 (n*n) (.ex (n*n))] 87 false)→h5.n≤h6.n →
    IntsX (fun b=>(grow D h h1 b∧b < h1.n)∨b=h2.n) h6 vs src →
    RT (CodeEnd D h c (m+50000) (n*n) R) (KW 43 [.ptr h3.n 0] h6):=by
   intro h6 vs hx g6 n6 hint
   have k6:∀ b,b < h5.n→b ≠ h3.n→h6.get b=h5.get b:=by
    intro b hb hne
    rcases hx with x | ⟨g,x,rfl⟩
    ·exact x.get b hb
    ·rw [get_put_ne hne,x.get b hb]
   have kk:∀ b,b < h3.n→h6.get b=h3.get b:=fun b hb=>by rw [k6 b (by omega) (by omega),x5.get b hb]
   have k1:∀ b,b < h1.n→h6.get b=h1.get b:=fun b hb=>by rw [kk b (by omega),x3.get b (by omega),x2.get b hb]
   have S:Base (fun b=>grow D h h1 b∧b < h1.n) h6 h3.n c ob vs h2.n (bdOf size plane sign src st.sd.writes):=by
    refine ⟨?_,?_,hint,⟨by rintro ⟨_,e⟩;omega,by omega⟩,⟨by rintro ⟨_,e⟩;omega,?_⟩,⟨by rintro ⟨_,e⟩;omega,by omega⟩,hs,rfl,by show min plane 1≤1;omega,hg,rfl,?_,?_,?_,hb,fun b hb=>by have:=hb.2;omega⟩
    ·rw [g6];unfold bdOf;simp only;rw [← hn,← hpl]
    ·have hob:ob < h2.n:=H.get_lt o2
     rw [kk ob (by omega),x3.get ob hob,o2];unfold bdOf;simp only;rw [← hn]
    ·have hob:ob < h2.n:=H.get_lt o2
     omega
    ·show (ordN (sideP size)).length=sideP size*sideP size;rw [← hn];exact oo.len
    ·show ∀ x ∈ ordN (sideP size),x < sideP size*sideP size;rw [← hn];exact oo.lt
    ·show src.length=sideP size*sideP size;rw [← hn];exact hl
   have Cc:Cd (fun b=>grow D h h1 b∧b < h1.n) h6 c h2.n (bdOf size plane sign src st.sd.writes) h6 m st (List.replicate (n*n) 0):=by
    refine ⟨(C1'.keep (by omega) fun b _ hb=>k1 b hb).mono fun b _ hd=>.inl hd,Mod.refl _ _,⟨?_,?_⟩,?_,rfl⟩
    ·rw [kk h2.n (by omega),hh3,get_new_same]
    ·intro y hy;rw [(List.mem_replicate.1 hy).2];decide
    ·show _=sideP size*sideP size;rw [← hn];simp
   have hz:(bdOf size plane sign src st.sd.writes).n=n:=by show sideP size=n;rw [hn]
   obtain ⟨w,h7,a7,Dn,h8⟩:=(run29_any S (by rw [hz];exact Cc) hm hR).elim
   rw [hz] at h8
   have dC:∀ b,((grow D h h1 b∧b < h1.n)∨h6.n≤b∧b < h7.n)→D b∨h.n≤b:=by
    rintro b (e | e)
    ·rcases e.1 with e | e
     ·exact .inl e
     ·exact .inr e.1
    ·exact .inr (by omega)
   have dM:Mod D h h7:=⟨by have:=Dn.x.n;omega,fun b hb hd=>by
    rw [Dn.x.get b (by omega) ?_,k1 b (by omega),M1.get b hb hd]
    rintro (e | e)
    ·rcases e.1 with e | e
     ·exact hd e
     ·omega
    ·omega⟩
   rw [a7]
   refine RT_ret ?_
   rcases h8 with ⟨lvF,i1,i2,i3,i4⟩ | ⟨i1,i2⟩
   ·refine .inl ⟨h2.n,lvF,i1,i2,i4,⟨_,Dn.C,?_,dC⟩,by omega,i3,dM⟩
    rintro (e | e)
    ·have:=e.2;omega
    ·omega
   ·exact .inr ⟨i1,i2,⟨_,Dn.C,dC⟩,dM⟩
  rw [w11,f11,s11]
  have p0:¬ (2:Int) < (plane:Int):=by omega
  have p1:¬ (2:Int) < (sign:Int):=by omega
  cases hw:st.sd.writes with
  | true =>
   have I0:=hsrc hw
   have I2:IntsX D h2 v src:=I0.keep (by omega) (fun b hb hd=>by rw [x2.get b (by omega),M1.get b hb hd]) (fun _ _ h=>h)
   have sl:=I0.len
   rw [hl] at sl
   obtain ⟨w,g,b1,hg1,M,rfl,mM,mM2⟩:=(max27_ok I2 (by omega) (by omega)).elim
   rw [hg1] at b1
   obtain ⟨w,g',b2,hg2,M',rfl,nM,nM2⟩:=(min28_ok I2 (by omega) (by omega)).elim
   rw [hg2] at b2
   have q1:=hb M mM
   have q2:=hb M' nM
   have w2:=w26 h2 x2
   have w5:=w26 h5 ((x2.trans x3).trans x5)
   rw [hw] at w2 w5
   simp [a1,a2,p0,p1,show ¬ (plane:Int) < 0 by omega,show ¬ (sign:Int) < 0 by omega,w2,sl,b1,b2,show ¬ (1048576:Int) < M by omega,show ¬ M' < (-1048576:Int) by omega,minV_i,-minV2,hmin,ms3,bl,fillW,splice,bx,← hh4,st5,w5,-Int.natCast_mul]
   have:=fin10 h5 v (.inl (Ext.refl _)) g5 (Nat.le_refl _) (I0.keep (by omega) (fun b hb hd=>by rw [x5.get b (by omega),x3.get b (by omega),x2.get b (by omega),M1.get b hb hd]) (fun b hb hd=>by
    rintro (⟨e | e,_⟩ | e)
    ·exact hd e
    ·omega
    ·omega))
   obtain ⟨w,h',e',i1⟩:=this.elim
   rcases i1 with ⟨L,lvF,q1,rfl,q2⟩ | ⟨q1,rfl,q2⟩
   ·simp [e']
    exact .inl ⟨L,lvF,q1,rfl,q2⟩
   ·simp [e']
    exact .inr ⟨q1,rfl,q2⟩
  | false =>
   have w2:=w26 h2 x2
   have w5:=w26 h5 ((x2.trans x3).trans x5)
   rw [hw] at w2 w5
   obtain ⟨h6,hh6⟩:∃ y,y=h5.new (.cells (intsV (List.replicate (n*n) 0)) 3 false):=⟨_,rfl⟩
   have x6:Ext h5 h6:=by rw [hh6];exact (Ext.refl h5).new _
   have n6:h6.n=h5.n+1:=by rw [hh6,H.n_new]
   have ms6:=ms_zero h5 (n*n) (by omega)
   rw [← hh6] at ms6
   have g6:=(x6.get _ (H.get_lt g5)).trans g5
   obtain ⟨h7,hh7⟩:∃ y,y=h6.put h3.n (.cells [.ptr c 0,.int .i64 size,.int .i64 pl,.int .i64 sign,.sl ob 0 (n*n) (.ex (n*n)),.sl h5.n 0 (n*n) (.ex (n*n)),.sl h2.n 0 (n*n) (.ex (n*n))] 87 false):=⟨_,rfl⟩
   have st7:h6.wr1 h3.n 5 (.sl h5.n 0 (n*n) (.ex (n*n)))=some h7:=by rw [wr1_of g6 (by simp),hh7];rfl
   have n7:h7.n=h6.n:=by rw [hh7,H.n_put]
   simp [a1,a2,p0,p1,show ¬ (plane:Int) < 0 by omega,show ¬ (sign:Int) < 0 by omega,w2,gl_t,gk_t,gk_bool,minV_i,-minV2,hmin,ms3,bl,fillW,splice,bx,← hh4,st5,w5,ms6,st7,-Int.natCast_mul]
   have hsr:=hr hw
   have:=fin10 h7 (.sl h5.n 0 (n*n) (.ex (n*n))) (.inr ⟨h6,x6,hh7⟩) (by rw [hh7,get_put_same (by omega)]) (by omega) (by
    have:=IntsX.of (X:=fun b=>(grow D h h1 b∧b < h1.n)∨b=h2.n) (h:=h7) (b:=h5.n) (l:=src) (k:=.ex (n*n)) (by rw [hh7,get_put_ne (by omega),hh6,get_new_same,hsr]) (by rintro (⟨_,e⟩ | e) <;> omega)
    rw [hl] at this;exact this)
   obtain ⟨w,h',e',i1⟩:=this.elim
   rcases i1 with ⟨L,lvF,q1,rfl,q2⟩ | ⟨q1,rfl,q2⟩
   ·simp [e']
    exact .inl ⟨L,lvF,q1,rfl,q2⟩
   ·simp [e']
    exact .inr ⟨q1,rfl,q2⟩
theorem code10_ok {D:Nat→Prop} {h:H} {c m:Nat} {st:St} (C:CoderAt D h c m st) (hm:m+50000 < 100000000) {size plane sign:Nat} (hs:sizeOk size) (hp:plane≤2) (hg:sign≤2) {v:V} {src:List Int} (hc:v.isCell=true)
   (hsrc:st.sd.writes=true→IntsX D h v src) (hr:st.sd.writes=false→src=List.replicate (sideP size*sideP size) 0) (hl:src.length=sideP size*sideP size) (hb:∀ x ∈ src,-1048576≤x∧x≤1048576)
   {lvF:List Int} {stF:St} (hR:(codeP (bdOf size plane sign src st.sd.writes)).exec st=(some lvF,stF)) :
   RT (fun w h'=>∃ L,w=.tup [.sl L 0 (sideP size*sideP size) (.ex (sideP size*sideP size)),.int .i64 0]∧lvF.length=sideP size*sideP size∧Coded D h c L (m+50000) stF lvF h') (KW 11 [.ptr c 0,.int .i64 size,.int .i64 plane,.int .i64 sign,v] h):=by
  refine (code10_any C hm hs hp hg hc hsrc hr hl hb hR).mono fun w h' a=>?_
  rcases a with ⟨L,lv,h1,h2,h3,h4⟩ | ⟨h1,_⟩
  ·cases h1;exact ⟨L,h2,h3,h4⟩
  ·cases h1
namespace Pr
variable {α β:Type}
def ech:Pr α→Option α × List Op
  | .done a=>(some a,[])
  | .stop=>(none,[])
  | .sym k c v f=>((f v.toNat).ech.1,.sym k c v.toNat :: (f v.toNat).ech.2)
  | .num n v f=>((f v.toNat).ech.1,.num n v.toNat :: (f v.toNat).ech.2)
theorem ech_bind (g:α→Pr β):∀ p:Pr α,(p.bind g).ech=match p.ech.1 with
   | some a=>((g a).ech.1,p.ech.2 ++ (g a).ech.2)
   | none=>(none,p.ech.2)
  | .done a=>by simp [bind,ech]
  | .stop=>rfl
  | .sym k c v f=>by
   have:=ech_bind g (f v.toNat)
   simp only [bind,ech]
   rw [this]
   cases (f v.toNat).ech.1 <;> rfl
  | .num n v f=>by
   have:=ech_bind g (f v.toNat)
   simp only [bind,ech]
   rw [this]
   cases (f v.toNat).ech.1 <;> rfl
theorem ech_some {p:Pr α} {g:α→Pr β} {a:α} {l:List Op} (h:p.ech=(some a,l)):(p.bind g).ech=((g a).ech.1,l ++ (g a).ech.2):=by rw [ech_bind,h]
def Sim:Pr α→Pr α→Prop
  | .done a,.done b=>a=b
  | .stop,.stop=>True
  | .sym k c _ f,.sym k' c' _ f'=>k=k'∧c=c'∧∀ x,Sim (f x) (f' x)
  | .num n _ f,.num n' _ f'=>n=n'∧∀ x,Sim (f x) (f' x)
  | _,_=>False
theorem Sim.bind {f g:α→Pr β} (h:∀ a,Sim (f a) (g a)):∀ {p q:Pr α},Sim p q→Sim (p.bind f) (q.bind g)
  | .done a,.done b,e=>by have e:a=b:=e;subst e;exact h a
  | .stop,.stop,_=>trivial
  | .sym k c v p,.sym k' c' v' q,⟨e1,e2,e3⟩=>⟨e1,e2,fun x=>Sim.bind h (e3 x)⟩
  | .num n v p,.num n' v' q,⟨e1,e2⟩=>⟨e1,fun x=>Sim.bind h (e2 x)⟩
  | .done _,.stop,e=>e.elim
  | .done _,.sym _ _ _ _,e=>e.elim
  | .done _,.num _ _ _,e=>e.elim
  | .stop,.done _,e=>e.elim
  | .stop,.sym _ _ _ _,e=>e.elim
  | .stop,.num _ _ _,e=>e.elim
  | .sym _ _ _ _,.done _,e=>e.elim
  | .sym _ _ _ _,.stop,e=>e.elim
  | .sym _ _ _ _,.num _ _ _,e=>e.elim
  | .num _ _ _,.done _,e=>e.elim
  | .num _ _ _,.stop,e=>e.elim
  | .num _ _ _,.sym _ _ _ _,e=>e.elim
theorem Sim.refl:∀ p:Pr α,Sim p p
  | .done a=>rfl
  | .stop=>trivial
  | .sym k c v f=>⟨rfl,rfl,fun x=>Sim.refl (f x)⟩
  | .num n v f=>⟨rfl,fun x=>Sim.refl (f x)⟩
end Pr
theorem St.sym_w {st:St} {s:Sr} (hs:st.sd=wS s) (k c:Nat) (v:Int):st.sym k c v=st.sym k c (v.toNat:Nat)∧st.symV k c v=v.toNat:=by
  unfold St.sym St.symV
  rw [hs]
  simp only [Side.val,Int.toNat_natCast,and_self]
theorem St.sym_r {st:St} (hs:st.sd.writes=false) (k c:Nat) (v v':Int):st.sym k c v=st.sym k c v'∧st.symV k c v=st.symV k c v':=by
  unfold St.sym St.symV
  generalize st.sd=sd at hs
  cases sd with
  | w=>cases hs
  | r=>exact ⟨rfl,rfl⟩
theorem bits_r (j:Nat):∀ (v v' out:Nat) (sd:Side),sd.writes=false→bits j v out sd=bits j v' out sd:=by
  induction j with
  | zero=>intro v v' out sd hs;rfl
  | succ j ih =>
   intro v v' out sd hs
   cases sd with
   | w=>cases hs
   | r rest code rng=>simp only [bits,Side.bit];exact ih v v' _ _ rfl
theorem St.num_r {st:St} (hs:st.sd.writes=false) (n v v':Nat):st.num n v=st.num n v'∧st.numV n v=st.numV n v':=by
  unfold St.num St.numV
  rw [bits_r n v v' 0 st.sd hs]
  exact ⟨rfl,rfl⟩
namespace Pr
variable {α:Type}
theorem exec_w:∀ (p:Pr α) {st:St} {s:Sr},st.sd=wS s→SOk s→SetOk st.S→(∀ o ∈ p.ech.2,o.ok)→p.exec st=(p.ech.1,st.run p.ech.2)
  | .done a,st,s,hs,ok,so,ho=>rfl
  | .stop,st,s,hs,ok,so,ho=>rfl
  | .sym k c v f,st,s,hs,ok,so,ho=>by
   obtain ⟨s',h1,h2,h3,h4,_⟩:=step_w hs ok so (ho (.sym k c v.toNat) (by simp [ech]))
   have e:=St.sym_w hs k c v
   have ih:=exec_w (f v.toNat) h1 h2 h4 fun o h=>ho o (by simp [ech,h])
   rw [exec_sym,e.2,e.1]
   exact ih
  | .num n v f,st,s,hs,ok,so,ho=>by
   obtain ⟨s',h1,h2,h3,h4,_,_,h5⟩:=step_w hs ok so (ho (.num n v.toNat) (by simp [ech]))
   have ih:=exec_w (f v.toNat) h1 h2 h4 fun o h=>ho o (by simp [ech,h])
   have e:=(h5 s' h2 (Within.refl _ _ _)).2.2
   rw [exec_num,e]
   exact ih
theorem exec_r {T:Sr} (hT:SOk T):∀ (p q:Pr α) {st:St} {s:Sr},Sim p q→st.sd=wS s→SOk s→SetOk st.S→(∀ o ∈ p.ech.2,o.ok)→(∃ s',(st.run p.ech.2).sd=wS s'∧WithinS s' T) →
   ∃ s',(st.run p.ech.2).sd=wS s'∧q.exec (mateS (bytes T.1 T.2.1) s st)=(p.ech.1,mateS (bytes T.1 T.2.1) s' (st.run p.ech.2))
  | .done a,.done b,st,s,e,hs,ok,so,ho,w=>by
   have e:a=b:=e
   subst e
   exact ⟨s,hs,rfl⟩
  | .stop,.stop,st,s,e,hs,ok,so,ho,w=>⟨s,hs,rfl⟩
  | .sym k c v f,.sym k' c' v' f',st,s,⟨e1,e2,e3⟩,hs,ok,so,ho,w=>by
   subst e1 e2
   obtain ⟨s',h1,h2,h3,h4,_,_,h5⟩:=step_w hs ok so (ho (.sym k c v.toNat) (by simp [ech]))
   obtain ⟨sT,w1,w2⟩:=w
   have hrun:st.run (Pr.sym k c v f).ech.2=(st.sym k c (v.toNat:Nat)).run (f v.toNat).ech.2:=rfl
   rw [hrun] at w1 ⊢
   obtain ⟨s2,g1,g2,g3⟩:=run_within (f v.toNat).ech.2 h1 h2 h4 fun o h=>ho o (by simp [ech,h])
   have hs2:s2=sT:=by
    have:=g1.symm.trans w1
    injection this with a b c
    exact Prod.ext a (Prod.ext b c)
   subst hs2
   obtain ⟨m1,m2,_⟩:=h5 T hT (Within.trans g3 w2)
   obtain ⟨s3,k1,k2⟩:=exec_r hT (f v.toNat) (f' v.toNat) (e3 _) h1 h2 h4 (fun o h=>ho o (by simp [ech,h])) ⟨s2,w1,w2⟩
   refine ⟨s3,k1,?_⟩
   have er:=St.sym_r (st:=mateS (bytes T.1 T.2.1) s st) rfl k c v' (-1)
   rw [exec_sym,er.2,er.1,m2,m1]
   exact k2
  | .num n v f,.num n' v' f',st,s,⟨e1,e3⟩,hs,ok,so,ho,w=>by
   subst e1
   obtain ⟨s',h1,h2,h3,h4,_,_,h5⟩:=step_w hs ok so (ho (.num n v.toNat) (by simp [ech]))
   obtain ⟨sT,w1,w2⟩:=w
   have hrun:st.run (Pr.num n v f).ech.2=(st.num n v.toNat).run (f v.toNat).ech.2:=rfl
   rw [hrun] at w1 ⊢
   obtain ⟨s2,g1,g2,g3⟩:=run_within (f v.toNat).ech.2 h1 h2 h4 fun o h=>ho o (by simp [ech,h])
   have hs2:s2=sT:=by
    have:=g1.symm.trans w1
    injection this with a b c
    exact Prod.ext a (Prod.ext b c)
   subst hs2
   obtain ⟨m1,m2,_⟩:=h5 T hT (Within.trans g3 w2)
   obtain ⟨s3,k1,k2⟩:=exec_r hT (f v.toNat) (f' v.toNat) (e3 _) h1 h2 h4 (fun o h=>ho o (by simp [ech,h])) ⟨s2,w1,w2⟩
   refine ⟨s3,k1,?_⟩
   have er:=St.num_r (st:=mateS (bytes T.1 T.2.1) s st) rfl n v'.toNat 0
   rw [exec_num,er.2,er.1,m2,m1]
   exact k2
end Pr
def Op.cost:Op→Nat
  | .num n _=>n
  | .sym _ _ _=>1
def costL (l:List Op):Nat:=(l.map Op.cost).sum
theorem costL_append (a b:List Op):costL (a ++ b)=costL a+costL b:=by simp [costL]
theorem run_n:∀ (l:List Op) (st:St),(st.run l).n=st.n+costL l
  | [],st=>by simp [St.run,costL]
  | o :: l,st=>by
   have:=run_n l (st.step o)
   have h1:(st.step o).n=st.n+o.cost:=by cases o <;> rfl
   have h2:costL (o :: l)=o.cost+costL l:=by simp [costL]
   show ((st.step o).run l).n=_
   rw [this,h1,h2];omega
structure BOk (B:BD):Prop where
  size:sizeOk B.size
  n:B.n=sideP B.size
  colour:B.colour≤1
  sign:B.sign≤2
  ord:B.ord=ordN B.n
  srcl:B.src.length=B.n*B.n
  srcb:∀ x ∈ B.src,-1048576≤x∧x≤1048576
  wr:B.wr=true
theorem BOk.oo {B:BD} (a:BOk B):OrdOk B.n:=by rw [a.n];exact ord_ok a.size
theorem BOk.src {B:BD} (a:BOk B) (i:Nat) : -1048576≤B.src.getD i 0∧B.src.getD i 0≤1048576:=by
  by_cases hi:i < B.src.length
  ·have:B.src.getD i 0=B.src[i]:=by simp [List.getD,hi]
   rw [this];exact a.srcb _ (List.getElem_mem hi)
  ·have:B.src.getD i 0=0:=by simp [List.getD,List.getElem?_eq_none (by omega:B.src.length≤i)]
   rw [this];omega
theorem lenP_ech {X:Nat} (hX:X ≠ 0) (hb:Nat.log2 X≤20):∀ (d f k:Nat),k+d=Nat.log2 X→d < f →
   ∃ ops,(lenP true X f k).ech=(some (X - 1),ops)∧(∀ o ∈ ops,o.ok)∧costL ops=d+1+Nat.log2 X:=by
  have lb:=log2_b hX
  intro d
  induction d with
  | zero =>
   intro f k hk hf
   obtain ⟨f,rfl⟩:∃ g,f=g+1:=⟨f - 1,by omega⟩
   have hk':k=Nat.log2 X:=by omega
   rw [← hk'] at lb hb ⊢
   have pc:=two_pow_cast k
   have e1:((X:Int) - 2 ^ k).toNat=X - 2 ^ k:=by omega
   refine ⟨[.num 1 1,.num k (X - 2 ^ k)],?_,?_,?_⟩
   ·unfold lenP
    simp only [Pr.ech]
    rw [← hk']
    simp only [if_true,Int.toNat_one,show ¬ (1:Nat)=0 by decide,if_false,Pr.ech,e1]
    rw [show 2 ^ k+(X - 2 ^ k) - 1=X - 1 by omega]
   ·intro o ho
    simp only [List.mem_cons,List.not_mem_nil,or_false] at ho
    rcases ho with rfl | rfl
    ·exact ⟨by decide,by decide⟩
    ·exact ⟨by omega,by have:=Nat.pow_succ 2 k;omega⟩
   ·simp [costL,Op.cost]
  | succ d ih =>
   intro f k hk hf
   obtain ⟨f,rfl⟩:∃ g,f=g+1:=⟨f - 1,by omega⟩
   obtain ⟨ops,h1,h2,h3⟩:=ih f (k+1) (by omega) (by omega)
   refine ⟨.num 1 0 :: ops,?_,?_,?_⟩
   ·unfold lenP
    simp only [Pr.ech]
    rw [if_neg (show ¬ k=Nat.log2 X by omega)]
    simp only [Int.toNat_zero,if_true]
    rw [h1]
   ·intro o ho
    rcases List.mem_cons.1 ho with rfl | ho
    ·exact ⟨by decide,by decide⟩
    ·exact h2 o ho
   ·have:costL (Op.num 1 0 :: ops)=1+costL ops:=by simp [costL,Op.cost]
    rw [this,h3];omega
theorem amoP_ech {B:BD} (b:BOk B) {a more:Nat} (ha:a≤1048576) (hm:more≤6):∀ (j sum:Nat),sum≤a→3*j+sum=15 →
   ∃ ops,(amoP B (a:Int) more j sum).ech=(some a,ops)∧(∀ o ∈ ops,o.ok)∧costL ops=if a < 15 then (a - sum) / 3+1 else j+(2*Nat.log2 (a - 14)+1):=by
  have hcol:=b.colour
  intro j
  induction j with
  | zero =>
   intro sum hs hj
   have hs15:sum=15:=by omega
   subst hs15
   have e1:(imax ((a:Int) - 15) 0).toNat+1=a - 14:=by unfold imax;split <;> omega
   have hX:a - 14 ≠ 0:=by omega
   have lb:Nat.log2 (a - 14) < 20:=(Nat.log2_lt hX).2 (by omega)
   obtain ⟨ops,h1,h2,h3⟩:=lenP_ech hX (by omega) (Nat.log2 (a - 14)) 21 0 (by omega) (by omega)
   refine ⟨ops,?_,h2,?_⟩
   ·unfold amoP
    rw [b.wr]
    have e2:(imax ((a:Int) - ((15:Nat):Int)) 0).toNat+1=a - 14:=e1
    rw [e2,Pr.ech_some h1]
    simp only [Pr.ech,List.append_nil]
    rw [show 15+(a - 14 - 1)=a by omega]
   ·rw [h3,if_neg (by omega)];omega
  | succ j ih =>
   intro sum hs hj
   obtain ⟨s,hsd⟩:∃ s:Nat,s=min (a - sum) 3:=⟨_,rfl⟩
   have e1:imin (imax ((a:Int) - sum) 0) 3=(s:Int):=by unfold imin imax;split <;> split <;> omega
   have okS:(Op.sym 29 (7*B.colour+more) s).ok:=⟨by decide,by show _ < 14;omega,by show s < 4;omega⟩
   by_cases c3:s < 3
   ·refine ⟨[.sym 29 (7*B.colour+more) s],?_,?_,?_⟩
    ·unfold amoP
     simp only [Pr.ech]
     rw [e1,Int.toNat_natCast,if_pos c3]
     simp only [Pr.ech]
     rw [show sum+s=a by omega]
    ·intro o ho
     rw [List.mem_singleton.1 ho];exact okS
    ·rw [if_pos (show a < 15 by omega)]
     simp [costL,Op.cost]
     omega
   ·obtain ⟨ops,h1,h2,h3⟩:=ih (sum+3) (by omega) (by omega)
    have hs3:s=3:=by omega
    refine ⟨.sym 29 (7*B.colour+more) s :: ops,?_,?_,?_⟩
    ·unfold amoP
     simp only [Pr.ech]
     rw [e1,Int.toNat_natCast,if_neg c3,hs3,h1]
    ·intro o ho
     rcases List.mem_cons.1 ho with rfl | ho
     ·exact okS
     ·exact h2 o ho
    ·have:costL (Op.sym 29 (7*B.colour+more) s :: ops)=1+costL ops:=by simp [costL,Op.cost]
     rw [this,h3]
     split <;> omega
def amountCost (a:Nat):Nat:=if a < 3 then 0 else if a < 15 then (a - 3) / 3+1 else 4+(2*Nat.log2 (a - 14)+1)
theorem amountP_ech {B:BD} (b:BOk B) (lv:List Int) {p a:Nat} (ha:iabs (B.src.getD p 0)=a) :
   ∃ ops,(amountP B lv p (min a 3)).ech=(some a,ops)∧(∀ o ∈ ops,o.ok)∧costL ops=amountCost a:=by
  have hs:=b.src p
  have hab:=iabs_b (B.src.getD p 0)
  unfold amountP amountCost
  by_cases c3:a < 3
  ·refine ⟨[],?_,by simp,by simp [costL,c3]⟩
   rw [if_pos (by omega),show min a 3=a by omega];rfl
  ·rw [if_neg (by omega),ha]
   obtain ⟨ops,h1,h2,h3⟩:=amoP_ech b (a:=a) (more:=moreP lv B.n p) (by omega) (moreP_b _ _ _).1 4 3 (by omega) (by omega)
   rw [show min a 3=3 by omega]
   exact ⟨ops,h1,h2,by rw [h3,if_neg c3]⟩
theorem saidP_ech {B:BD} (b:BOk B) (lv:List Int) {en i a:Nat} (ha:iabs (B.src.getD (B.ord.getD i 0) 0)=a) (hz:i+1=en→a ≠ 0) :
   ∃ o,(saidP B en i lv).ech=(some (min a 3),[o])∧o.ok∧o.cost=1:=by
  have hcol:=b.colour
  have mb:=(baseP_b lv B.n (B.ord.getD i 0)).1
  unfold saidP
  rw [ha]
  by_cases ce:i+1=en
  ·rw [if_pos ce]
   have:=hz ce
   have e1:imax (imin (a:Int) 3 - 1) 0=((min a 3 - 1:Nat):Int):=by unfold imin imax;split <;> split <;> omega
   refine ⟨.sym 27 B.colour (min a 3 - 1),?_,⟨by decide,by show _ < 2;omega,by show _ < 3;omega⟩,rfl⟩
   simp only [Pr.ech]
   rw [e1,Int.toNat_natCast]
   rw [show 1+(min a 3 - 1)=min a 3 by omega]
  ·rw [if_neg ce]
   have e1:imin (a:Int) 3=((min a 3:Nat):Int):=by unfold imin;split <;> omega
   refine ⟨.sym 28 (5*B.colour+baseP lv B.n (B.ord.getD i 0)) (min a 3),?_,⟨by decide,by show _ < 10;omega,by show _ < 4;omega⟩,rfl⟩
   simp only [Pr.ech]
   rw [e1,Int.toNat_natCast]
theorem getD_set {l:List Int} {p q:Nat} {v:Int} (hp:p < l.length):(l.set p v).getD q 0=if q=p then v else l.getD q 0:=by
  by_cases h:q=p
  ·subst h;rw [if_pos rfl];simp [List.getD,hp]
  ·rw [if_neg h];simp [List.getD,List.getElem?_set_ne (Ne.symm h)]
theorem amsP_ech {B:BD} (b:BOk B) {en:Nat} (hen:en≤B.n*B.n) (hz:∀ i,i+1=en→B.src.getD (B.ord.getD i 0) 0 ≠ 0):∀ (i:Nat) (lv:List Int),i≤en→lv.length=B.n*B.n →
   ∃ lv' ops,(amsP B en i lv).ech=(some lv',ops)∧(∀ o ∈ ops,o.ok)∧lv'.length=B.n*B.n∧(∀ p,lv'.getD p 0=if p ∈ B.ord.take i then iabs (B.src.getD p 0) else lv.getD p 0) ∧
    (i=1→costL ops=1+amountCost (iabs (B.src.getD (B.ord.getD 0 0) 0)).toNat):=by
  have oo:=b.oo
  intro i
  induction i with
  | zero=>intro lv hi hl;exact ⟨lv,[],rfl,by simp,hl,by simp,by simp⟩
  | succ i ih =>
   intro lv hi hl
   have hol:B.ord.length=B.n*B.n:=by rw [b.ord];exact oo.len
   have hio:i < B.ord.length:=by omega
   have hat:B.ord.getD i 0=B.ord[i]:=by simp [List.getD,hio]
   have hatn:B.ord[i] < B.n*B.n:=by
    have:=List.getElem_mem hio
    have h2:=oo.lt B.ord[i] (by rw [← b.ord];exact this)
    exact h2
   have hab:=iabs_b (B.src.getD (B.ord.getD i 0) 0)
   obtain ⟨a,ha⟩:∃ a:Nat,iabs (B.src.getD (B.ord.getD i 0) 0)=a:=⟨(iabs (B.src.getD (B.ord.getD i 0) 0)).toNat,by omega⟩
   obtain ⟨o,s1,s2,s3⟩:=saidP_ech b lv (en:=en) ha (fun h=>by have:=hz i h;omega)
   obtain ⟨ops1,t1,t2,t3⟩:=amountP_ech b lv ha
   obtain ⟨lv',ops2,u1,u2,u3,u4,_⟩:=ih (lv.set (B.ord.getD i 0) a) (by omega) (by rw [List.length_set];exact hl)
   refine ⟨lv',[o] ++ (ops1 ++ ops2),?_,?_,u3,?_,?_⟩
   ·unfold amsP
    rw [Pr.ech_some s1,Pr.ech_some t1,u1]
   ·intro x hx
    rcases List.mem_append.1 hx with hx | hx
    ·rw [List.mem_singleton.1 hx];exact s2
    ·rcases List.mem_append.1 hx with hx | hx
     ·exact t2 x hx
     ·exact u2 x hx
   ·intro p
    rw [u4 p,List.take_add_one,List.getElem?_eq_getElem hio,getD_set (by rw [hl,hat];exact hatn),hat]
    rw [hat] at ha
    by_cases h1:p ∈ B.ord.take i
    ·rw [if_pos h1,if_pos (List.mem_append_left _ h1)]
    ·rw [if_neg h1]
     by_cases h2:p=B.ord[i]
     ·rw [if_pos h2,if_pos (List.mem_append_right _ (by simp [h2])),h2,ha]
     ·rw [if_neg h2,if_neg]
      intro h
      rcases List.mem_append.1 h with h | h
      ·exact h1 h
      ·simp at h;exact h2 h
   ·intro h1
    have hi0:i=0:=by omega
    subst hi0
    have hops:ops2=[]:=by
     have:(amsP B en 0 (lv.set (B.ord.getD 0 0) a)).ech=(some (lv.set (B.ord.getD 0 0) a),[]):=rfl
     rw [this] at u1
     injection u1 with _ e
     exact e.symm
    rw [costL_append,costL_append,hops,t3,ha]
    simp [costL,s3]
theorem sgsP_ech {B:BD} (b:BOk B):∀ (r:List Nat) (lv:List Int),r.Nodup→(∀ p ∈ r,p < lv.length) →
   ∃ lv' ops,(sgsP B r lv).ech=(some lv',ops)∧(∀ o ∈ ops,o.ok)∧lv'.length=lv.length∧(∀ p,lv'.getD p 0=if p ∈ r∧B.src.getD p 0 < 0 then -lv.getD p 0 else lv.getD p 0) ∧
    (∀ p,r=[p]→costL ops=if lv.getD p 0=0 then 0 else 1):=by
  have hcol:=b.colour
  have hsig:=b.sign
  intro r
  induction r with
  | nil=>intro lv hn hl;exact ⟨lv,[],rfl,by simp,rfl,by simp,by simp⟩
  | cons q r ih =>
   intro lv hn hl
   obtain ⟨hq,hn⟩:=List.nodup_cons.1 hn
   by_cases cz:lv.getD q 0=0
   ·obtain ⟨lv',ops,h1,h2,h3,h4,h5⟩:=ih lv hn (fun p hp=>hl p (List.mem_cons_of_mem _ hp))
    refine ⟨lv',ops,?_,h2,h3,?_,?_⟩
    ·unfold sgsP;rw [if_pos cz,h1]
    ·intro p
     rw [h4 p]
     by_cases e:p=q
     ·subst e;rw [cz];simp
     ·simp [e]
    ·intro p hp
     injection hp with e1 e2
     subst e1 e2
     rw [if_pos cz]
     have:(sgsP B [] lv).ech=(some lv,[]):=rfl
     rw [this] at h1
     injection h1 with _ e
     rw [← e];rfl
   ·obtain ⟨v,hv⟩:∃ v:Nat,v=if B.src.getD q 0 < 0 then 1 else 0:=⟨_,rfl⟩
    have hv2:v < 2:=by rw [hv];split <;> omega
    have hvi:(if B.src.getD q 0 < 0 then (1:Int) else 0).toNat=v:=by rw [hv];split <;> rfl
    have hb:∃ o,(belowP B q).ech=(some v,[o])∧o.ok∧o.cost=1:=by
     unfold belowP
     by_cases c0:q=0
     ·rw [if_pos c0]
      exact ⟨.sym 30 (3*B.colour+B.sign) v,by simp only [Pr.ech];rw [hvi],⟨by decide,by show _ < 6;omega,by show v < 2;omega⟩,rfl⟩
     ·rw [if_neg c0]
      exact ⟨.num 1 v,by simp only [Pr.ech];rw [hvi],⟨by decide,by show v < 2 ^ 1;omega⟩,rfl⟩
    obtain ⟨o,b1,b2,b3⟩:=hb
    obtain ⟨lv1,hlv1⟩:∃ lv1,lv1=if v=1 then lv.set q (-lv.getD q 0) else lv:=⟨_,rfl⟩
    have hlen:lv1.length=lv.length:=by rw [hlv1];split;rw [List.length_set];rfl
    obtain ⟨lv',ops,h1,h2,h3,h4,h5⟩:=ih lv1 hn (fun p hp=>by rw [hlen];exact hl p (List.mem_cons_of_mem _ hp))
    refine ⟨lv',[o] ++ ops,?_,?_,by rw [h3,hlen],?_,?_⟩
    ·unfold sgsP
     rw [if_neg cz,Pr.ech_some b1,← hlv1,h1]
    ·intro x hx
     rcases List.mem_append.1 hx with hx | hx
     ·rw [List.mem_singleton.1 hx];exact b2
     ·exact h2 x hx
    ·intro p
     rw [h4 p]
     by_cases e:p=q
     ·subst e
      rw [if_neg (by rintro ⟨h,_⟩;exact hq h)]
      by_cases cs:B.src.getD p 0 < 0
      ·rw [if_pos cs] at hv
       rw [if_pos ⟨List.mem_cons_self ..,cs⟩,hlv1,if_pos hv,getD_set (hl p (List.mem_cons_self ..)),if_pos rfl]
      ·rw [if_neg cs] at hv
       rw [if_neg (by rintro ⟨_,h⟩;exact cs h),hlv1,if_neg (by omega)]
     ·have e2:lv1.getD p 0=lv.getD p 0:=by
       rw [hlv1]
       split
       ·rw [getD_set (hl q (List.mem_cons_self ..)),if_neg e]
       ·rfl
      rw [e2]
      simp [e]
    ·intro p hp
     injection hp with e1 e2
     subst e1 e2
     rw [if_neg cz]
     have:(sgsP B [] lv1).ech=(some lv1,[]):=rfl
     rw [this] at h1
     injection h1 with _ e
     rw [← e]
     simp [costL,b3]
theorem endTo_zero {B:BD}:∀ {i:Nat},∀ j,endTo B i≤j→j < i→B.src.getD (B.ord.getD j 0) 0=0
  | 0,j,h1,h2=>by omega
  | i+1,j,h1,h2=>by
   unfold endTo at h1
   by_cases c:B.src.getD (B.ord.getD i 0) 0 ≠ 0
   ·rw [if_pos c] at h1;omega
   ·rw [if_neg c] at h1
    by_cases e:j=i
    ·subst e;exact Classical.not_not.1 c
    ·exact endTo_zero j h1 (by omega)
theorem endTo_last {B:BD}:∀ {i:Nat} j,j+1=endTo B i→B.src.getD (B.ord.getD j 0) 0 ≠ 0
  | 0,j,h=>by simp [endTo] at h
  | i+1,j,h=>by
   unfold endTo at h
   by_cases c:B.src.getD (B.ord.getD i 0) 0 ≠ 0
   ·rw [if_pos c] at h
    have:j=i:=by omega
    subst this;exact c
   ·rw [if_neg c] at h;exact endTo_last j h
theorem endP_ech {B:BD} (b:BOk B):∃ ops,(endP B).ech=(some (endTo B B.ord.length),ops)∧(∀ o ∈ ops,o.ok)∧(endTo B B.ord.length=1→costL ops=2):=by
  have hcol:=b.colour
  have oo:=b.oo
  have hol:B.ord.length=B.n*B.n:=by rw [b.ord];exact oo.len
  obtain ⟨K,f1,f2,f3,f4,f5,f6⟩:=size_facts b.size
  rw [← b.n] at f1
  have hle:=endTo_le B B.ord.length
  obtain ⟨E,hE⟩:∃ E,E=endTo B B.ord.length:=⟨_,rfl⟩
  unfold endP
  rw [← hE] at hle ⊢
  have ok1:∀ z:Nat,z < 2→(Op.sym 22 (2*B.colour+if 8 < B.size then 1 else 0) z).ok:=fun z hz=>⟨by decide,by show _ < 4;split <;> omega,by show z < 2;exact hz⟩
  by_cases c0:E=0
  ·refine ⟨[.sym 22 (2*B.colour+if 8 < B.size then 1 else 0) 1],?_,?_,by omega⟩
   ·simp only [Pr.ech]
    rw [if_pos c0]
    simp only [Int.toNat_one,if_true,Pr.ech]
    rw [c0]
   ·intro o ho
    rw [List.mem_singleton.1 ho];exact ok1 1 (by decide)
  ·have hM:max E 1=E:=by omega
   rw [hM]
   have hcls:=cls_b (e:=E) (K:=K) (by omega) (by omega) (by omega)
   have ok2:(Op.sym (ekP B.size) B.colour (clsP E)).ok:=⟨f5,by rw [f6];omega,by rw [f4];omega⟩
   by_cases cc:clsP E=0
   ·refine ⟨[.sym 22 (2*B.colour+if 8 < B.size then 1 else 0) 0,.sym (ekP B.size) B.colour (clsP E)],?_,?_,?_⟩
    ·simp only [Pr.ech]
     rw [if_neg c0]
     simp only [Int.toNat_zero,show ¬ (0:Nat)=1 by decide,if_false,Pr.ech,Int.toNat_natCast]
     rw [if_pos cc]
     simp only [Pr.ech]
     have:E=1:=by
      unfold clsP at cc
      split at cc
      ·assumption
      ·omega
     rw [this]
    ·intro o ho
     simp only [List.mem_cons,List.not_mem_nil,or_false] at ho
     rcases ho with rfl | rfl
     ·exact ok1 0 (by decide)
     ·exact ok2
    ·intro _;simp [costL,Op.cost]
   ·have xb:=ext_b (e:=E) (by omega) cc
    refine ⟨[.sym 22 (2*B.colour+if 8 < B.size then 1 else 0) 0,.sym (ekP B.size) B.colour (clsP E),.num (clsP E - 1) (extP E).toNat],?_,?_,?_⟩
    ·simp only [Pr.ech]
     rw [if_neg c0]
     simp only [Int.toNat_zero,show ¬ (0:Nat)=1 by decide,if_false,Pr.ech,Int.toNat_natCast]
     rw [if_neg cc]
     simp only [Pr.ech]
     rw [xb.2.2]
    ·intro o ho
     simp only [List.mem_cons,List.not_mem_nil,or_false] at ho
     rcases ho with rfl | rfl | rfl
     ·exact ok1 0 (by decide)
     ·exact ok2
     ·have pc:=two_pow_cast (clsP E - 1)
      exact ⟨by omega,by omega⟩
    ·intro h1
     exact absurd (by rw [h1];rfl) cc
theorem ext_getD {a b:List Int} (h:a.length=b.length) (k:∀ p,p < a.length→a.getD p 0=b.getD p 0):a=b:=by
  apply List.ext_getElem h
  intro i h1 h2
  have:=k i h1
  simpa [List.getD,h1,h2] using this
theorem codeP_ech {B:BD} (b:BOk B):∃ ops,(codeP B).ech=(some B.src,ops)∧(∀ o ∈ ops,o.ok) ∧
   (endTo B B.ord.length=1→costL ops=4+amountCost (iabs (B.src.getD (B.ord.getD 0 0) 0)).toNat):=by
  have oo:=b.oo
  have hol:B.ord.length=B.n*B.n:=by rw [b.ord];exact oo.len
  obtain ⟨ops1,a1,a2,a3⟩:=endP_ech b
  have hle:=endTo_le B B.ord.length
  have hz:=endTo_zero (B:=B) (i:=B.ord.length)
  have hl:=endTo_last (B:=B) (i:=B.ord.length)
  obtain ⟨E,hE⟩:∃ E,E=endTo B B.ord.length:=⟨_,rfl⟩
  rw [← hE] at a1 hle hz hl a3 ⊢
  obtain ⟨lv1,ops2,b1,b2,b3,b4,b5⟩:=amsP_ech b (en:=E) (by omega) (fun i h=>hl i h) E (List.replicate (B.n*B.n) 0) (Nat.le_refl _) (by simp)
  have hnod:(B.ord.take E).Nodup:=by
   have:B.ord.Nodup:=by rw [b.ord];exact oo.nod
   exact this.sublist (List.take_sublist _ _)
  obtain ⟨lv2,ops3,c1,c2,c3,c4,c5⟩:=sgsP_ech b (B.ord.take E) lv1 hnod (fun p hp=>by
   rw [b3];exact oo.lt p (by rw [← b.ord];exact List.mem_of_mem_take hp))
  have hres:lv2=B.src:=by
   refine ext_getD (by rw [c3,b3,b.srcl]) fun p hp=>?_
   rw [c4 p,b4 p]
   have hpn:p < B.n*B.n:=by rw [c3,b3] at hp;exact hp
   have hab:=iabs_b (B.src.getD p 0)
   by_cases hm:p ∈ B.ord.take E
   ·rw [if_pos hm]
    by_cases cs:B.src.getD p 0 < 0
    ·rw [if_pos ⟨hm,cs⟩];omega
    ·rw [if_neg (by rintro ⟨_,h⟩;exact cs h)];omega
   ·rw [if_neg hm,if_neg (by rintro ⟨h,_⟩;exact hm h)]
    have h0:(List.replicate (B.n*B.n) (0:Int)).getD p 0=0:=by simp [List.getD,List.getElem?_replicate];split <;> rfl
    rw [h0]
    have hmem:p ∈ B.ord:=by rw [b.ord];exact oo.mem p hpn
    obtain ⟨j,hj,hjp⟩:=List.mem_iff_getElem.1 hmem
    have hjE:E≤j:=by
     refine Nat.le_of_not_lt fun h=>hm ?_
     exact List.mem_iff_getElem.2 ⟨j,by rw [List.length_take];omega,by rw [List.getElem_take];exact hjp⟩
    have:=hz j hjE hj
    have e:B.ord.getD j 0=p:=by simp [List.getD,hj,hjp]
    rw [e] at this
    exact this.symm
  refine ⟨ops1 ++ (ops2 ++ ops3),?_,?_,?_⟩
  ·unfold codeP
   rw [Pr.ech_some a1,Pr.ech_some b1,c1,hres]
  ·intro o ho
   rcases List.mem_append.1 ho with ho | ho
   ·exact a2 o ho
   ·rcases List.mem_append.1 ho with ho | ho
    ·exact b2 o ho
    ·exact c2 o ho
  ·intro h1
   rw [costL_append,costL_append,a3 h1,b5 h1]
   have h0:0 < B.ord.length:=by omega
   have ht:B.ord.take E=[B.ord.getD 0 0]:=by
    rw [h1]
    have:B.ord.getD 0 0=B.ord[0]:=by simp [List.getD,h0]
    rw [this,List.take_one]
    simp [List.head?_eq_getElem?,h0]
   rw [ht] at b4 c5
   have hne:=hl 0 (by omega)
   have hab:=iabs_b (B.src.getD (B.ord.getD 0 0) 0)
   have h9:lv1.getD (B.ord.getD 0 0) 0=iabs (B.src.getD (B.ord.getD 0 0) 0):=by rw [b4,if_pos (List.mem_singleton.2 rfl)]
   have:=c5 _ rfl
   rw [this,if_neg (by rw [h9];omega)]
   omega
open Go.Zf (wi64)
theorem eqInts11_ok {X Y:Nat→Prop} {h:H} {va vb:V} {la lb:List Int} (a:IntsX X h va la) (b:IntsX Y h vb lb) (hl:la.length < 100000000):KW 13 [va,vb] h=some (.ret (.bool (decide (la=lb))),h):=by
  have sa:=a.len
  have sb:=b.len
  rw [w13,f13,s13]
  by_cases hlen:la.length=lb.length
  ·simp [sa,sb,hlen]
   refine loop_in (C:=fun x=>fin Tryz.prog _ _ (sq (blk 0 x) _)=_) (fun j e g=>j≤la.length∧g=h∧e.s [0,1,4,5] 0=va∧e.s [0,1,4,5] 1=vb∧e.s [0,1,4,5] 5=.int .i64 ((la.length - j:Nat):Int)∧la.take (la.length - j)=lb.take (la.length - j))
    (fun st=>st.h=h∧((st.x=.ex 0∧la=lb)∨(st.x=.rt∧la ≠ lb∧st.e.s [0,1,4,5] 4=.bool false))) ?_ la.length ⟨Nat.le_refl _,rfl,by simp,by simp,by simp,by simp⟩ ?_
   ·rintro j e g ⟨hj,rfl,e0,e1,e5,hp⟩
    cases j with
    | zero =>
     rw [Nat.sub_zero] at e5 hp
     rw [List.take_length,hlen,List.take_length] at hp
     simp [l13_0,e0,e5,sa]
     exact ⟨rfl,.inl ⟨rfl,hp⟩⟩
    | succ j =>
     obtain ⟨i,hi⟩:∃ i,i=la.length - (j+1):=⟨_,rfl⟩
     rw [← hi] at e5 hp
     have hil:i < la.length:=by omega
     have hil2:i < lb.length:=by omega
     obtain ⟨b1,o1,t1,t2,_,_⟩:=a.at_ i _ (List.getElem?_eq_getElem hil)
     obtain ⟨b2,o2,t3,t4,_,_⟩:=b.at_ i _ (List.getElem?_eq_getElem hil2)
     have z1:IntKind.i64.wrap ((i:Int)+1)=((i+1:Nat):Int):=by rw [wi64 (by omega) (by omega)];omega
     have hil':(i:Int) < la.length:=by omega
     by_cases hc:la[i]=lb[i]
     ·simp [l13_0,e0,e1,e5,sa,hil',t1,t2,t3,t4,hc,z1,-Int.natCast_add,hil]
      refine ⟨j,by omega,by omega,rfl,by simp [e0],by simp [e1],by simp [show la.length - j=i+1 by omega],?_⟩
      rw [show la.length - j=i+1 by omega,List.take_add_one,List.take_add_one,hp,List.getElem?_eq_getElem hil,List.getElem?_eq_getElem hil2,hc]
     ·simp [l13_0,e0,e1,e5,sa,hil',t1,t2,t3,t4,hc,z1,-Int.natCast_add,hil]
      refine ⟨rfl,.inr ⟨rfl,fun he=>?_,by simp⟩⟩
      subst he;exact hc rfl
   ·rintro ⟨sx,se,sh⟩ ⟨h1,h2 | h2⟩
    ·obtain ⟨h2,h3⟩:=h2
     simp only at h1 h2
     subst h1 h2
     simp [h3]
    ·obtain ⟨h2,h3,h4⟩:=h2
     simp only at h1 h2 h4
     subst h1 h2
     simp [h3,h4]
  ·have hne:¬ la=lb:=fun h=>hlen (by rw [h])
   simp [sa,sb,hlen,hne,show ¬ (la.length:Int)=lb.length by omega]
def signP (l:List Int):Int:=if l.length=0∨l.getD 0 0=0 then 0 else if l.getD 0 0 < 0 then 1 else 2
theorem sign16_ok {X:Nat→Prop} {h:H} {v:V} {l:List Int} (a:IntsX X h v l):KW 15 [v] h=some (.ret (.int .i64 (signP l)),h):=by
  have sa:=a.len
  rw [w15,f15,s15]
  unfold signP
  by_cases h0:l.length=0
  ·simp [sa,h0]
  ·have hl:0 < l.length:=by omega
   obtain ⟨b,o,t1,t2,_,_⟩:=a.at_ 0 _ (List.getElem?_eq_getElem hl)
   have t1':iaS 1 v (.int .i64 0)=some (.ptr b o):=t1
   have hg:l.getD 0 0=l[0]:=by simp [List.getD,hl]
   rw [hg]
   obtain ⟨x,hx⟩:∃ x,x=l[0]:=⟨_,rfl⟩
   rw [← hx] at t2 ⊢
   have hl0:¬ (l.length:Int)=0:=by omega
   have hln:l ≠ []:=by intro e;rw [e] at h0;exact h0 rfl
   by_cases c0:x=0
   ·simp [sa,hl0,h0,t1',t2,c0,hln]
   ·by_cases c1:x < 0
    ·simp [sa,hl0,h0,t1',t2,c0,c1,hln]
    ·simp [sa,hl0,h0,t1',t2,c0,c1,hln]
structure I15 (h:H) (x j:Nat) (e:E) (g:H):Prop where
  hg:g=h
  ex:∃ y:Nat,y ≠ 0∧y < 4294967296∧Nat.log2 y=j∧j≤Nat.log2 x∧e.s [0,2,3] 0=.int .i64 (y:Nat)
  e3:e.s [0,2,3] 3=.int .i64 ((Nat.log2 x - j:Nat):Int)
theorem log15_ok {x:Nat} (h0:x ≠ 0) (hx:x < 4294967296) (h:H):KW 105 [.int .i64 x] h=some (.ret (.int .i64 (Nat.log2 x:Nat)),h):=by
  have hl:Nat.log2 x < 32:=(Nat.log2_lt h0).2 hx
  rw [w105,f105,s105]
  simp
  refine loop_in (C:=fun o=>fin Tryz.prog _ _ (sq (blk 0 o) _)=_) (I15 h x)
   (fun st=>st.x=.ex 0∧st.h=h∧st.e.s [0,2,3] 3=.int .i64 (Nat.log2 x:Nat)) ?_ (Nat.log2 x) ⟨rfl,⟨x,h0,hx,rfl,Nat.le_refl _,by simp⟩,by simp⟩ ?_
  ·rintro j e g ⟨hg,⟨y,y0,yx,hy,hj,e0⟩,e3⟩
   subst hg
   have hb:=log2_b y0
   cases j with
   | zero =>
    rw [hy] at hb
    have:y=1:=by omega
    subst this
    simp [l105_0,e0]
    exact ⟨rfl,rfl,by simp [e3]⟩
   | succ j =>
    have h2:2≤y:=by
     rw [hy,Nat.pow_succ] at hb
     have:=Nat.two_pow_pos j
     omega
    have l2:=log2_div (x:=y) (k:=1) (by omega)
    rw [Nat.pow_one] at l2
    have z1:IntKind.i64.wrap ((y:Int) / 2)=((y / 2:Nat):Int):=by rw [wi64 (by omega) (by omega)];omega
    obtain ⟨u,hu⟩:∃ u,u=y / 2:=⟨_,rfl⟩
    rw [← hu] at l2 z1
    obtain ⟨q,hq⟩:∃ q,q=Nat.log2 x - (j+1):=⟨_,rfl⟩
    rw [← hq] at e3
    have z2:IntKind.i64.wrap ((q:Int)+1)=((q+1:Nat):Int):=by rw [wi64 (by omega) (by omega)];omega
    have z3:(y:Int).tdiv 2=(y:Int) / 2:=Int.tdiv_eq_ediv_of_nonneg (by omega)
    simp [l105_0,e0,e3,show (1:Int) < (y:Int) by omega,z3,z1,z2,-Int.natCast_add,show 1 < y by omega]
    exact ⟨j,by omega,rfl,⟨u,by omega,by omega,by omega,by omega,by simp⟩,by simp [show Nat.log2 x - j=q+1 by omega]⟩
  ·rintro ⟨sx,se,sh⟩ ⟨h1,h2,h3⟩
   simp only at h1 h2 h3
   subst h1 h2
   simp [h3]
theorem lenP_sim (wr wr':Bool) (X X':Nat):∀ f k,Pr.Sim (lenP wr X f k) (lenP wr' X' f k)
  | 0,k=>trivial
  | f+1,k=>by
   unfold lenP
   refine ⟨rfl,fun b=>?_⟩
   dsimp only
   by_cases hb:b=0
   ·rw [if_pos hb,if_pos hb];exact lenP_sim wr wr' X X' f (k+1)
   ·rw [if_neg hb,if_neg hb];exact ⟨rfl,fun v=>rfl⟩
structure Kin (B B':BD):Prop where
  size:B'.size=B.size
  n:B'.n=B.n
  colour:B'.colour=B.colour
  sign:B'.sign=B.sign
  ord:B'.ord=B.ord
theorem amoP_sim {B B':BD} (a:Kin B B') (x x':Int) (more:Nat):∀ j sum,Pr.Sim (amoP B x more j sum) (amoP B' x' more j sum)
  | 0,sum=>by unfold amoP;exact Pr.Sim.bind (fun v=>Pr.Sim.refl _) (lenP_sim _ _ _ _ _ _)
  | j+1,sum=>by
   unfold amoP
   refine ⟨rfl,by rw [a.colour],fun s=>?_⟩
   dsimp only
   by_cases hs:s < 3
   ·rw [if_pos hs,if_pos hs];rfl
   ·rw [if_neg hs,if_neg hs];exact amoP_sim a x x' more j (sum+s)
theorem amsP_sim {B B':BD} (a:Kin B B') (en:Nat):∀ i lv,Pr.Sim (amsP B en i lv) (amsP B' en i lv)
  | 0,lv=>rfl
  | i+1,lv=>by
   unfold amsP
   refine Pr.Sim.bind (fun said=>?_) ?_
   ·rw [a.ord]
    refine Pr.Sim.bind (fun v=>amsP_sim a en i _) ?_
    unfold amountP
    by_cases hs:said < 3
    ·rw [if_pos hs,if_pos hs];rfl
    ·rw [if_neg hs,if_neg hs,a.n];exact amoP_sim a _ _ _ _ _
   ·unfold saidP
    rw [a.ord,a.colour,a.n]
    by_cases hi:i+1=en
    ·rw [if_pos hi,if_pos hi];exact ⟨rfl,rfl,fun x=>rfl⟩
    ·rw [if_neg hi,if_neg hi];exact ⟨rfl,rfl,fun x=>rfl⟩
theorem sgsP_sim {B B':BD} (a:Kin B B'):∀ r lv,Pr.Sim (sgsP B r lv) (sgsP B' r lv)
  | [],lv=>rfl
  | p :: r,lv=>by
   unfold sgsP
   by_cases h0:lv.getD p 0=0
   ·rw [if_pos h0,if_pos h0];exact sgsP_sim a r lv
   ·rw [if_neg h0,if_neg h0]
    refine Pr.Sim.bind (fun b=>sgsP_sim a r _) ?_
    unfold belowP
    rw [a.colour,a.sign]
    by_cases hp:p=0
    ·rw [if_pos hp,if_pos hp];exact ⟨rfl,rfl,fun x=>rfl⟩
    ·rw [if_neg hp,if_neg hp];exact ⟨rfl,fun x=>rfl⟩
theorem codeP_sim {B B':BD} (a:Kin B B'):Pr.Sim (codeP B) (codeP B'):=by
  unfold codeP
  refine Pr.Sim.bind (fun en=>?_) ?_
  ·rw [a.n]
   refine Pr.Sim.bind (fun lv=>?_) (amsP_sim a en en _)
   rw [a.ord]
   exact sgsP_sim a _ lv
  ·unfold endP
   rw [a.colour,a.size]
   refine ⟨rfl,rfl,fun z=>?_⟩
   dsimp only
   by_cases hz:z=1
   ·rw [if_pos hz,if_pos hz];rfl
   ·rw [if_neg hz,if_neg hz]
    refine ⟨rfl,rfl,fun c=>?_⟩
    dsimp only
    by_cases hc:c=0
    ·rw [if_pos hc,if_pos hc];rfl
    ·rw [if_neg hc,if_neg hc];exact ⟨rfl,fun x=>rfl⟩
open Go.Zf (wi64)
theorem bdOf_ok {size plane sign:Nat} {src:List Int} (hs:sizeOk size) (hg:sign≤2) (hl:src.length=sideP size*sideP size) (hb:∀ x ∈ src,-1048576≤x∧x≤1048576):BOk (bdOf size plane sign src true) :=
  ⟨hs,rfl,(by show min plane 1≤1;omega),hg,rfl,hl,hb,rfl⟩
def opsOfB (size plane sign:Nat) (src:List Int):List Op:=(codeP (bdOf size plane sign src true)).ech.2
theorem ops_ech {size plane sign:Nat} {src:List Int} (hs:sizeOk size) (hg:sign≤2) (hl:src.length=sideP size*sideP size) (hb:∀ x ∈ src,-1048576≤x∧x≤1048576) :
   (codeP (bdOf size plane sign src true)).ech=(some src,opsOfB size plane sign src)∧(∀ o ∈ opsOfB size plane sign src,o.ok):=by
  obtain ⟨ops,h1,h2,_⟩:=codeP_ech (bdOf_ok (plane:=plane) hs hg hl hb)
  have e:opsOfB size plane sign src=ops:=by unfold opsOfB;rw [h1]
  rw [e]
  exact ⟨h1,h2⟩
theorem code_w {D:Nat→Prop} {h:H} {c m:Nat} {st:St} (C:CoderAt D h c m st) {s:Sr} (hsd:st.sd=wS s) (ok:SOk s) (hm:m+50000 < 100000000) {size plane sign:Nat} (hs:sizeOk size) (hp:plane≤2) (hg:sign≤2) {v:V} {src:List Int}
   (hsrc:IntsX D h v src) (hl:src.length=sideP size*sideP size) (hb:∀ x ∈ src,-1048576≤x∧x≤1048576) :
   RT (fun w h'=>∃ L,w=.tup [.sl L 0 (sideP size*sideP size) (.ex (sideP size*sideP size)),.int .i64 0]∧Coded D h c L (m+50000) (st.run (opsOfB size plane sign src)) src h') (KW 11 [.ptr c 0,.int .i64 size,.int .i64 plane,.int .i64 sign,v] h):=by
  obtain ⟨e1,e2⟩:=ops_ech (plane:=plane) hs hg hl hb
  have hw:st.sd.writes=true:=by rw [hsd];rfl
  have ex:=Pr.exec_w (codeP (bdOf size plane sign src true)) hsd ok C.ok.1 (by rw [e1];exact e2)
  rw [e1] at ex
  have:=code10_ok C hm hs hp hg hsrc.cell (fun _=>hsrc) (fun h=>by rw [hw] at h;cases h) hl hb (by rw [hw];exact ex)
  exact this.mono fun w h' ⟨L,h1,_,h2⟩=>⟨L,h1,h2⟩
theorem ops_run {size plane sign:Nat} {src:List Int} (hs:sizeOk size) (hg:sign≤2) (hl:src.length=sideP size*sideP size) (hb:∀ x ∈ src,-1048576≤x∧x≤1048576) {st:St} {s:Sr} (hsd:st.sd=wS s) (ok:SOk s) (so:SetOk st.S) :
   ∃ s',(st.run (opsOfB size plane sign src)).sd=wS s'∧SOk s'∧WithinS s s':=run_within _ hsd ok so (ops_ech hs hg hl hb).2
theorem code_r {D:Nat→Prop} {h:H} {c m:Nat} {st:St} {s s' T:Sr} (hT:SOk T) (hsd:st.sd=wS s) (ok:SOk s) (so:SetOk st.S) (C:CoderAt D h c m (mateS (bytes T.1 T.2.1) s st)) (hm:m+50000 < 100000000) {size plane sign:Nat} (hs:sizeOk size) (hp:plane≤2) (hg:sign≤2) {v:V} (hv:v.isCell=true) {src:List Int}
   (hl:src.length=sideP size*sideP size) (hb:∀ x ∈ src,-1048576≤x∧x≤1048576) (h1:(st.run (opsOfB size plane sign src)).sd=wS s') (h2:WithinS s' T) :
   RT (fun w h'=>∃ L,w=.tup [.sl L 0 (sideP size*sideP size) (.ex (sideP size*sideP size)),.int .i64 0]∧Coded D h c L (m+50000) (mateS (bytes T.1 T.2.1) s' (st.run (opsOfB size plane sign src))) src h') (KW 11 [.ptr c 0,.int .i64 size,.int .i64 plane,.int .i64 sign,v] h):=by
  obtain ⟨e1,e2⟩:=ops_ech (plane:=plane) hs hg hl hb
  have sim:=codeP_sim (B:=bdOf size plane sign src true) (B':=bdOf size plane sign (List.replicate (sideP size*sideP size) 0) false) ⟨rfl,rfl,rfl,rfl,rfl⟩
  obtain ⟨s2,k1,k2⟩:=Pr.exec_r hT _ _ sim hsd ok so (by rw [e1];exact e2) ⟨s',by rw [e1];exact h1,h2⟩
  rw [e1] at k1 k2
  have hs2:s2=s':=by
   have:=k1.symm.trans h1
   injection this with a b c
   exact Prod.ext a (Prod.ext b c)
  subst hs2
  have:=code10_ok (src:=List.replicate (sideP size*sideP size) 0) C hm hs hp hg hv (fun h=>by cases h) (fun _=>rfl) (by simp) (fun x hx=>by rw [(List.mem_replicate.1 hx).2];decide) k2
  exact this.mono fun w h' ⟨L,h1,_,h2⟩=>⟨L,h1,h2⟩
theorem Coded.ints {D:Nat→Prop} {h:H} {c L m:Nat} {st:St} {lv:List Int} {h':H} (a:Coded D h c L m st lv h') {N:Nat} (hN:lv.length=N) {g:H} (x:Ext h' g):IntsX (fun _=>False) g (.sl L 0 N (.ex N)) lv:=by
  subst hN
  exact IntsX.of (by rw [x.get L (H.get_lt a.l.get),a.l.get]) (fun h=>h)
theorem bytes_bound {m:Nat} {T:Sr} (so:SideOk m (wS T)):(bytes T.1 T.2.1).length < 140737488355329:=by
  have h2:T.1.length≤3*m:=so.2.1
  have h3:=so.2.2
  rw [bytes_len]
  have:=trimN_le (emits 4 T.1 T.2.1).1 (T.1.length+4)
  omega
def awL:List Int:=[-20,1,0,0,0,0,0,0,0,0,0,0,0,0,0,0]
theorem aw_cost:costL (opsOfB 4 1 2 awL)=15:=by kernel_rfl
theorem awake6_ok (h:H):RT (fun w h'=>w=.bool true∧Ext h h') (KW 22 [] h):=by
  have hsz:sizeOk 4:=.inl rfl
  have hN:sideP 4*sideP 4=16:=rfl
  have hb:∀ x ∈ awL,-1048576≤x∧x≤1048576:=by decide
  have ms1:=ms_zero h 16 (by decide)
  obtain ⟨g1,hg1⟩:∃ y,y=h.new (.cells (intsV (List.replicate 16 0)) 3 false):=⟨_,rfl⟩
  rw [← hg1] at ms1
  have r1:g1.get h.n=some (.cells (intsV (List.replicate 16 0)) 3 false):=by rw [hg1,get_new_same]
  have n1:g1.n=h.n+1:=by rw [hg1,H.n_new]
  obtain ⟨g2,hg2⟩:∃ y,y=g1.put h.n (.cells ((intsV (List.replicate 16 0)).set 0 (.int .i64 (-20))) 3 false):=⟨_,rfl⟩
  have w2:g1.wr1 h.n 0 (.int .i64 (-20))=some g2:=by rw [wr1_of r1 (by simp [intsV]),hg2]
  have r2:g2.get h.n=some (.cells ((intsV (List.replicate 16 0)).set 0 (.int .i64 (-20))) 3 false):=by rw [hg2,get_put_same (by omega)]
  obtain ⟨g3,hg3⟩:∃ y,y=g2.put h.n (.cells (intsV awL) 3 false):=⟨_,rfl⟩
  have w3:g2.wr1 h.n 1 (.int .i64 1)=some g3:=by rw [wr1_of r2 (by simp [intsV]),hg3];rfl
  have r3:g3.get h.n=some (.cells (intsV awL) 3 false):=by rw [hg3,get_put_same (by rw [hg2,H.n_put];omega)]
  have n3:g3.n=h.n+1:=by rw [hg3,H.n_put,hg2,H.n_put,n1]
  have x3:Ext h g3:=by
   rw [hg3,hg2,hg1]
   exact (((Ext.refl h).new _).put (Nat.le_refl _) _).put (Nat.le_refl _) _
  obtain ⟨w,g4,a4,v4,rfl,W4,x4⟩:=(default27_ok g3).elim
  obtain ⟨w,g5,a5,p,rfl,C5,x5⟩:=(writer12_ok W4.setR defS_ok true).elim
  have m4:=x4.n
  have m5:=x5.n
  have r5:g5.get h.n=_:=((x4.trans x5).get _ (H.get_lt r3)).trans r3
  have I5:IntsX (fun b=>g4.n≤b) g5 (.sl h.n 0 16 (.ex 16)) awL:=IntsX.of (l:=awL) r5 (by omega)
  obtain ⟨w,g6,a6,L1,rfl,K6⟩:=(code_w C5 (s:=s0) rfl s0_ok (by decide) hsz (plane:=1) (sign:=2) (by decide) (by decide) I5 rfl hb).elim
  obtain ⟨s',hs',ok',wi'⟩:=ops_run (plane:=1) (sign:=2) (src:=awL) hsz (by decide) rfl hb (st:=newW defS true) (s:=s0) rfl s0_ok C5.ok.1
  have hcost:((newW defS true).run (opsOfB 4 1 2 awL)).n=15:=by rw [run_n,aw_cost];rfl
  obtain ⟨st1,hst1⟩:∃ y,y=(newW defS true).run (opsOfB 4 1 2 awL):=⟨_,rfl⟩
  rw [← hst1] at K6 hs' hcost
  obtain ⟨E6,C6,nE6,sE6⟩:=K6.C
  have m6:=K6.x.n
  have y6:Ext g3 g6:=K6.x.ext (x4.trans x5) (fun b hb hd=>by have h2:g4.n≤b:=hd;omega)
  obtain ⟨w,g7,a7,bv,rfl,W7,x7⟩:=(bytes19_ok C6 hs').elim
  have hbl:=bytes_bound (T:=s') (by have:=C6.ok.2.1;rw [hs'] at this;exact this)
  obtain ⟨w,g8,a8,v8,rfl,W8,x8⟩:=(default27_ok g7).elim
  obtain ⟨w,g9,a9,q,rfl,C9,x9⟩:=(reader25_ok (W7.slb.keep x8.get) hbl W7.byte W8.setR defS_ok true).elim
  rw [newR_mate ok' wi'] at C9
  have m7:=x7.n
  have m8:=x8.n
  have m9:=x9.n
  obtain ⟨w,g10,a10,L2,rfl,K10⟩:=(code_r ok' (st:=newW defS true) (s:=s0) (s':=s') rfl s0_ok C5.ok.1 C9 (by decide) hsz (plane:=1) (sign:=2) (by decide) (by decide) (v:=.nils) rfl (src:=awL) rfl hb (by rw [← hst1];exact hs') (Within.refl _ _ _)).elim
  rw [← hst1] at K10
  obtain ⟨E10,C10,nE10,sE10⟩:=K10.C
  have y10:Ext g6 g10:=K10.x.ext ((x7.trans x8).trans x9) (fun b hb hd=>by have h2:g8.n≤b:=hd;omega)
  rw [hN] at a6 a10
  have cw:=count32_ok (C6.ext y10)
  have cr:=count32_ok C10
  have hcr:(mateS (bytes s'.1 s'.2.1) s' st1).n=st1.n:=rfl
  rw [hcr] at cr
  rw [hcost] at cw cr
  have I0:IntsX (fun _=>False) g10 (.sl h.n 0 16 (.ex 16)) awL:=IntsX.of (l:=awL) (by rw [(y6.trans y10).get _ (H.get_lt r3),r3]) (fun h=>h)
  have e1:=eqInts11_ok (K6.ints (N:=16) rfl y10) I0 (by decide)
  have e2:=eqInts11_ok (K10.ints (N:=16) rfl (Ext.refl _)) I0 (by decide)
  have e3:=sign16_ok I0
  have hsg:signP awL=1:=by decide
  rw [hsg] at e3
  simp at e1 e2
  have a6':KW 11 [.ptr p 0,.int .i64 4,.int .i64 1,.int .i64 2,.sl h.n 0 16 (.ex 16)] g5=_:=a6
  have a10':KW 11 [.ptr q 0,.int .i64 4,.int .i64 1,.int .i64 2,.nils] g9=_:=a10
  have ms1':ms h 3 8 [.int .i64 0] (.int .i64 16) (.int .i64 16)=_:=ms1
  rw [w22,f22,s22]
  simp [ms1',w2,w3,a4,a5,a6',a7,a8,a9,a10',e1,e2,cw,cr,e3]
  exact ⟨rfl,(x3.trans y6).trans y10⟩
end Go.Proofs.YtbajipmhnoakeaaGreat
