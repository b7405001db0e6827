import Derived.Test.YtbajipmhnoakeaaGreatPnHb
set_option linter.unusedVariables false
set_option linter.unusedSimpArgs false
set_option maxRecDepth 20000
namespace Go.Proofs.YtbajipmhnoakeaaGreat
open Go Go.Zf
open Go.Zf (wi64)
structure Rs (D:Nat→Prop) (h:H) (c:Nat) (h':H) (m:Nat) (st:St):Prop where
  C:CoderRef (grow D h h') h' c m st
  x:Mod D h h'
section rs
variable {D:Nat→Prop} {h h' h2:H} {c m m':Nat} {st st':St}
theorem Rs.of (C:CoderRef D h c m st):Rs D h c h m st:=⟨C.mono fun b _ hd=>.inl hd,Mod.refl _ _⟩
theorem Rs.step (a:Rs D h c h' m st) (C:CoderRef (grow (grow D h h') h' h2) h2 c m' st') (M:Mod (grow D h h') h' h2):Rs D h c h2 m' st':=by
  have n1:=a.x.n
  have n2:=M.n
  refine ⟨C.mono fun b hb hd=>?_,⟨by omega,fun b hb hd=>?_⟩⟩
  ·rcases hd with (e | e) | e
   ·exact .inl e
   ·exact .inr ⟨e.1,hb⟩
   ·exact .inr ⟨by omega,hb⟩
  ·rw [M.get b (by omega) (by rintro (e | e);exact hd e;omega),a.x.get b hb hd]
theorem Rs.trans (a:Rs D h c h' m st) (b:Rs (grow D h h') h' c h2 m' st'):Rs D h c h2 m' st':=a.step b.C b.x
theorem Rs.more (a:Rs D h c h' m st) (h1:m≤m') (h2:m' < 100000000):Rs D h c h' m' st:=⟨a.C.more h1 h2,a.x⟩
theorem Rs.sym (a:Rs D h c h' m st) {k x:Nat} {v:Int} (hm:m+1 < 100000000) (hk:k < 32) (hx:x < cx k) (hv:st.sd.writes=true→0≤v∧v < vl k) :
   RT (fun w h2=>w=.tup [.int .i64 (st.symV k x v:Nat),.int .i64 0]∧Rs D h c h2 (m+1) (st.sym k x v)) (KW 48 [.ptr c 0,.int .i64 k,.int .i64 x,.int .i64 v] h') :=
  (symbol41_ok a.C hm hk hx hv).mono fun w h2 ⟨h1,h3,h4⟩=>⟨h1,a.step h3 h4⟩
theorem Rs.num (a:Rs D h c h' m st) {n:Nat} {v:Int} (hm:m+n < 100000000) (hn:n≤30) (hv:st.sd.writes=true→0≤v∧v < 2 ^ n) :
   RT (fun w h2=>w=.tup [.int .i64 (st.numV n v.toNat:Nat),.int .i64 0]∧Rs D h c h2 (m+n) (st.num n v.toNat)) (KW 51 [.ptr c 0,.int .i64 n,.int .i64 v] h') :=
  (bits45_ok a.C hn hm (fun hw=>by have:=hv hw;refine ⟨this.1,?_⟩;unfold pw;have e:=two_pow_cast n;omega)).mono fun w h2 ⟨h1,h3,h4⟩=>⟨h1,a.step h3 h4⟩
theorem writes47_ok (C:CoderRef D h c m st):KW 47 [.ptr c 0] h=some (.ret (.bool st.sd.writes),h):=by
  obtain ⟨vo,vi,vs,Ds,Dw,h1,h2,h3,_⟩:=C
  rw [w47,f47,s47]
  generalize st.sd=sd at h3 ⊢
  cases sd with
  | w out low rng=>obtain ⟨e,rfl,rfl,_⟩:=h3;simp [rd1_of h1,Side.writes]
  | r rest code rng=>obtain ⟨e,rfl,rfl,_⟩:=h3;simp [rd1_of h1,Side.writes]
end rs
noncomputable def rest83 (K:Oracle) (L:Looper) (e:E) (h:H):Out :=
 sq (bc k83 [21,22,23,20,24,25,9,10] e (K 51 [(e.s k83 0),(.int .i64 1),(e.s k83 8)] h) fun t23 h1 =>
 bd (exV t23 0) fun t24 =>
 bd (exV t23 1) fun t25 =>
 some ⟨.nm,(ux83 e 10 t25).st 7 t24,h1⟩) fun e h =>
 sq (sq (bd (binK 0 .eql (e.s k83 9) (.int .i64 1)) fun t27 =>
 some ⟨.nm,ux83 e 27 t27,h⟩) fun e h =>
 br (e.s k83 27) (some ⟨.ex 0,e,h⟩)
 (some ⟨.nm,e,h⟩)) fun e h =>
 sq (bd (binK 0 .add (e.s k83 6) (.int .i64 1)) fun t29 =>
 some ⟨.nm,(ux83 e 6 t29).st 4 t29,h⟩) fun e h =>
 sq (bd (binK 0 .gtr (e.s k83 6) (.int .i64 20)) fun t31 =>
 some ⟨.nm,ux83 e 31 t31,h⟩) fun e h =>
 br (e.s k83 31) (sq (some ⟨.nm,((ux83 e 5 (.int .i64 4)).st 2 (.int .i64 0)).st 3 (.int .i64 4),h⟩) fun e h =>
 some ⟨.rt,e,h⟩)
 (some ⟨.nm,e,h⟩)
noncomputable def l83h (K:Oracle) (L:Looper) (e:E) (h:H):Out :=
 blk 1 (sq (some ⟨.nm,(ux83 e 8 (.int .i64 0)).st 6 (.int .i64 0),h⟩) fun e h =>
 sq (sq (bd (binK 0 .eql (e.s k83 6) (e.s k83 7)) fun t19 =>
 some ⟨.nm,ux83 e 19 t19,h⟩) fun e h =>
 br (e.s k83 19) (some ⟨.nm,(ux83 e 8 (.int .i64 1)).st 6 (.int .i64 1),h⟩)
 (some ⟨.nm,e,h⟩)) fun e h=>rest83 K L e h)
theorem l83_eq:l83_0=l83h:=by kernel_rfl
section ln
variable {D:Nat→Prop} {h h':H} {c m:Nat} {st:St}
abbrev K83:List Nat:=[0,1,4,5,6,7,8,9,11,12]
structure I83 (D:Nat→Prop) (h:H) (c X M:Nat) (wr:Bool) (R:Option Nat × St) (j:Nat) (e:E) (g:H):Prop where
  j1:1≤j
  j2:j≤21
  ex:∃ st,Rs D h c g (M - j) st∧st.sd.writes=wr∧(lenP wr X j (21 - j)).exec st=R
  e0:e.s K83 0=.ptr c 0
  e1:e.s K83 1=.int .i64 ((X:Int) - 1)
  e6:e.s K83 6=.int .i64 ((21 - j:Nat):Int)
  e7:e.s K83 7=.int .i64 (Nat.log2 X:Nat)
structure O83 (D:Nat→Prop) (h:H) (c X M:Nat) (wr:Bool) (R:Option Nat × St) (e:E) (g:H):Prop where
  ex:∃ k st,k≤20∧(wr=true→k=Nat.log2 X)∧Rs D h c g M st∧st.sd.writes=wr∧(Pr.num k (if wr then (X:Int) - 2 ^ k else 0) fun v=>Pr.done (2 ^ k+v - 1)).exec st=R∧e.s K83 6=.int .i64 (k:Nat)
  e0:e.s K83 0=.ptr c 0
  e1:e.s K83 1=.int .i64 ((X:Int) - 1)
theorem loop83 {X M:Nat} {wr:Bool} {R:Option Nat × St} (hX:X ≠ 0) (hX2:X < 4194304) (hM:M < 100000000) (hM2:21≤M) {e:E} {g:H} {o:Out} (ho:loopZ (l83_0 KW loopZ) e g=o) (hi:I83 D h c X M wr R 21 e g) :
   ∃ s,o=some s∧((s.x=.ex 0∧O83 D h c X M wr R s.e s.h)∨(s.x=.rt∧s.e.s K83 4=.int .i64 0∧s.e.s K83 5=.int .i64 4∧R.1=none∧Rs D h c s.h M R.2)):=by
  have loop:=loop_run (body:=l83_0 KW loopZ) (I83 D h c X M wr R) (fun s=>(s.x=.ex 0∧O83 D h c X M wr R s.e s.h)∨(s.x=.rt∧s.e.s K83 4=.int .i64 0∧s.e.s K83 5=.int .i64 4∧R.1=none∧Rs D h c s.h M R.2)) (fun j e g hi=>by
   obtain ⟨j1,j2,⟨st,a,hwr,hR⟩,e0,e1,e6,e7⟩:=hi
   obtain ⟨f,rfl⟩:∃ f,j=f+1:=⟨j - 1,by omega⟩
   obtain ⟨k,hk⟩:∃ k,k=21 - (f+1):=⟨_,rfl⟩
   rw [← hk] at hR e6
   obtain ⟨fl,hfl⟩:∃ fl:Nat,fl=if k=Nat.log2 X then 1 else 0:=⟨_,rfl⟩
   have hfl2:fl < 2:=by rw [hfl];split <;> omega
   obtain ⟨w,g1,a1,rfl,C1⟩:=(a.num (n:=1) (v:=(fl:Int)) (by omega) (by decide) (fun _=>by omega)).elim
   rw [Int.toNat_natCast] at a1 C1
   rw [show ((1:Nat):Int)=1 from rfl] at a1
   have hlt:=St.numV_lt a.C.ok.2.1 (n:=1) (v:=fl) (by omega)
   unfold lenP at hR
   have hR':(if st.numV 1 fl=0 then lenP wr X f (k+1) else Pr.num k (if wr then (X:Int) - 2 ^ k else 0) fun v=>Pr.done (2 ^ k+v - 1)).exec (st.num 1 fl)=R:=by
    rw [← hR]
    have:(if k=Nat.log2 X then (1:Int) else 0)=((fl:Nat):Int):=by rw [hfl];split <;> rfl
    rw [Pr.exec_num,this,Int.toNat_natCast]
   have C1:=C1.more (m':=M - f) (by omega) (by omega)
   have hw1:(st.num 1 fl).sd.writes=wr:=by rw [St.num_wr,hwr]
   have step:∀ en:E,en.s K83 0=.ptr c 0→en.s K83 1=.int .i64 ((X:Int) - 1)→en.s K83 6=.int .i64 (k:Nat)→en.s K83 7=.int .i64 (Nat.log2 X:Nat)→en.s K83 8=.int .i64 (fl:Nat) →
     LS (I83 D h c X M wr R) (fun s=>(s.x=.ex 0∧O83 D h c X M wr R s.e s.h)∨(s.x=.rt∧s.e.s K83 4=.int .i64 0∧s.e.s K83 5=.int .i64 4∧R.1=none∧Rs D h c s.h M R.2)) (f+1) (blk 1 (rest83 KW loopZ en g)):=by
    intro en e0 e1 e6 e7 e8
    by_cases c0:st.numV 1 fl=0
    ·rw [if_pos c0] at hR'
     have z1:IntKind.i64.wrap ((k:Int)+1)=((k+1:Nat):Int):=by rw [wz (by omega) (by omega)];omega
     by_cases c1:k=20
     ·have hf:f=0:=by omega
      subst hf
      simp [rest83,e0,e8,a1,c0,e6,z1,-Int.natCast_add,show (20:Int) < ((k+1:Nat):Int) by omega]
      refine .inr ⟨rfl,by simp,by simp,?_,?_⟩
      ·rw [← hR'];rfl
      ·rw [← hR'];exact C1
     ·simp [rest83,e0,e8,a1,c0,e6,z1,-Int.natCast_add,show ¬ (20:Int) < ((k+1:Nat):Int) by omega]
      refine ⟨f,by omega,by omega,by omega,⟨_,C1,hw1,?_⟩,by simp [e0],by simp [e1],?_,by simp [e7]⟩
      ·rw [← hR',show 21 - f=k+1 by omega]
      ·simp [show 21 - f=k+1 by omega]
    ·rw [if_neg c0] at hR'
     have c1:st.numV 1 fl=1:=by omega
     have hwk:wr=true→k=Nat.log2 X:=by
      intro hw
      have hw2:st.sd.writes=true:=by rw [hwr,hw]
      have:=St.numV_w hw2 1 fl (by omega)
      rw [this] at c0
      by_cases hc:k=Nat.log2 X
      ·exact hc
      ·rw [if_neg hc] at hfl;omega
     rw [c1] at a1
     simp [rest83,e0,e8,a1]
     exact .inl ⟨rfl,⟨k,_,by omega,hwk,C1.more (by omega) hM,hw1,hR',by simp [e6]⟩,by simp [e0],by simp [e1]⟩
   by_cases hc:k=Nat.log2 X
   ·rw [if_pos hc] at hfl
    simp [l83_eq,l83h,e6,e7,hc]
    exact step _ (by simp [e0]) (by simp [e1]) (by simp [e6,hc]) (by simp [e7]) (by simp [hfl])
   ·rw [if_neg hc] at hfl
    simp [l83_eq,l83h,e6,e7,hc,show ¬ (k:Int)=(Nat.log2 X:Nat) by omega]
    exact step _ (by simp [e0]) (by simp [e1]) (by simp [e6]) (by simp [e7]) (by simp [hfl])) 21 e g hi
  obtain ⟨s,h1,h2⟩:=loop
  exact ⟨s,by rw [← ho,h1],h2⟩
theorem length83_ok (a:CoderRef D h c m st) {left:Nat} (hl:left < 4194303) (hm:m+41 < 100000000) :
   RT (fun w h'=>∃ st',Rs D h c h' (m+41) st'∧((∃ v,(lenP st.sd.writes (left+1) 21 0).exec st=(some v,st')∧v < 2097152∧w=.tup [.int .i64 (v:Nat),.int .i64 0])∨((lenP st.sd.writes (left+1) 21 0).exec st=(none,st')∧w=.tup [.int .i64 0,.int .i64 4]))) (KW 83 [.ptr c 0,.int .i64 left] h):=by
  obtain ⟨X,hX⟩:∃ X,X=left+1:=⟨_,rfl⟩
  have z1:IntKind.i64.wrap ((left:Int)+1)=(X:Int):=by rw [wz (by omega) (by omega)];omega
  have l63:=log15_ok (x:=X) (by omega) (by omega) h
  have lb2:=log2_b (x:=X) (by omega)
  have eX:(left:Int)=(X:Int) - 1:=by omega
  rw [← hX]
  obtain ⟨R,hR⟩:∃ R,R=(lenP st.sd.writes X 21 0).exec st:=⟨_,rfl⟩
  rw [← hR,w83,f83,s83]
  simp [z1,l63,-Int.natCast_add]
  generalize ho:loopZ (l83_0 KW loopZ) _ _=o
  obtain ⟨⟨sx,se,sh⟩,rfl,hs⟩:=loop83 (D:=D) (h:=h) (c:=c) (X:=X) (M:=m+21) (wr:=st.sd.writes) (R:=R) (by omega) (by omega) (by omega) (by omega) ho
   ⟨by omega,by omega,⟨st,by rw [Nat.add_sub_cancel];exact Rs.of a,rfl,hR.symm⟩,by simp,by simp [eX],by simp,by simp⟩
  rcases hs with ⟨hx,⟨k,st1,k1,k2,C1,hw1,hR1,e6⟩,e0,e1⟩ | ⟨hx,e4,e5,hR1,C1⟩
  ·simp only at hx e6 e0 e1 C1
   subst hx
   simp only [K83] at e6 e0 e1
   have p0:=Nat.two_pow_pos k
   have p1:(2:Nat) ^ k≤1048576:=Nat.pow_le_pow_right (by decide) (by omega:k≤20)
   have pc:=two_pow_cast k
   have mk:min k 64=k:=by omega
   have z4:IntKind.i64.wrap ((2:Int) ^ k)=2 ^ k:=wz (by omega) (by omega)
   have z5:IntKind.i64.wrap ((X:Int) - 2 ^ k)=(X:Int) - 2 ^ k:=wz (by omega) (by omega)
   have z0:IntKind.i64.wrap (X:Int)=(X:Int):=wz (by omega) (by omega)
   have w26:=writes47_ok C1.C
   rw [hw1] at w26
   obtain ⟨rest,hrest⟩:∃ r,r=if st.sd.writes then (X:Int) - 2 ^ k else 0:=⟨_,rfl⟩
   rw [← hrest] at hR1
   have hrb:st.sd.writes=true→0≤rest∧rest < 2 ^ k:=by
    intro hw
    have hk:=k2 hw
    rw [← hk] at lb2
    rw [hrest,if_pos hw]
    have:=Nat.pow_succ 2 k
    have e3:((2 ^ (k+1):Nat):Int)=2*2 ^ k:=by rw [Nat.pow_succ];omega
    omega
   obtain ⟨w,g1,a1,rfl,C2⟩:=(C1.num (n:=k) (v:=rest) (by omega) (by omega) (fun hw=>hrb (by rw [← hw1];exact hw))).elim
   have hlt:=St.numV_lt C1.C.ok.2.1 (n:=k) (v:=rest.toNat) (by omega)
   obtain ⟨v,hv⟩:∃ v,v=st1.numV k rest.toNat:=⟨_,rfl⟩
   rw [← hv] at a1 hlt
   have hR2:R=(some (2 ^ k+v - 1),st1.num k rest.toNat):=by rw [← hR1,hv];rfl
   have z6:IntKind.i64.wrap ((v:Int)+2 ^ k)=v+2 ^ k:=wz (by omega) (by omega)
   have z7:IntKind.i64.wrap ((v:Int)+2 ^ k - 1)=((2 ^ k+v - 1:Nat):Int):=by rw [wz (by omega) (by omega)];omega
   cases hw:st.sd.writes with
   | true =>
    rw [hw,if_pos rfl] at hrest
    rw [hw] at w26
    simp [e0,w26,e6,e1,mk,IntKind.bits,z0,z4,z5,show ¬ (k:Int) < 0 by omega]
    rw [← hrest]
    simp [a1,mk,show ¬ (k:Int) < 0 by omega,z4,z6,z7,IntKind.bits,-Int.natCast_add]
    exact ⟨_,C2.more (by omega) hm,.inl ⟨_,hR2,by omega,rfl⟩⟩
   | false =>
    rw [hw,if_neg (by simp)] at hrest
    rw [hw] at w26
    rw [hrest] at a1
    simp [e0,w26,e6,a1,mk,IntKind.bits,show ¬ (k:Int) < 0 by omega,z4,z6,z7,-Int.natCast_add]
    exact ⟨_,C2.more (by omega) hm,.inl ⟨_,hR2,by omega,rfl⟩⟩
  ·simp only at hx e4 e5 C1
   subst hx
   simp only [K83] at e4 e5
   simp [e4,e5]
   exact ⟨R.2,C1.more (by omega) hm,.inr ⟨by rw [← hR1],rfl⟩⟩
end ln
section am
variable {D:Nat→Prop} {h h':H} {c m:Nat} {st:St}
abbrev K55:List Nat:=[0,1,2,3,8,9,10,11,12,14,15]
structure I55 (D:Nat→Prop) (h:H) (c:Nat) (B:BD) (a:Int) (more M:Nat) (R:Option Nat × St) (j:Nat) (e:E) (g:H):Prop where
  j2:j≤4
  ex:∃ st,Rs D h c g (M - j) st∧st.sd.writes=B.wr∧(amoP B a more j (3+3*(4 - j))).exec st=R
  e0:e.s K55 0=.ptr c 0
  e2:e.s K55 2=.int .i64 ((7*B.colour+more:Nat):Int)
  e3:e.s K55 3=.int .i64 a
  e10:e.s K55 10=.int .i64 ((3+3*(4 - j):Nat):Int)
  e11:e.s K55 11=.int .i64 ((4 - j:Nat):Int)
structure O55 (D:Nat→Prop) (h:H) (c:Nat) (B:BD) (a:Int) (more M:Nat) (R:Option Nat × St) (s:Go.Zf.St):Prop where
  ex:∃ st,Rs D h c s.h M st∧st.sd.writes=B.wr∧((s.x=.ex 0∧(amoP B a more 0 15).exec st=R∧s.e.s K55 0=.ptr c 0∧s.e.s K55 3=.int .i64 a) ∨
   (s.x=.rt∧∃ v:Nat,v≤15∧R=(some v,st)∧s.e.s K55 8=.int .i64 (v:Nat)∧s.e.s K55 9=.int .i64 0))
theorem loop55 {B:BD} {a:Int} {more M:Nat} {R:Option Nat × St} (hcol:B.colour≤1) (ha:0≤a∧a≤1048576) (hmo:more≤6) (hM:M < 100000000) (hM2:4≤M) {e:E} {g:H} {o:Out} (ho:loopZ (l55_0 KW loopZ) e g=o) (hi:I55 D h c B a more M R 4 e g) :
   ∃ s,o=some s∧O55 D h c B a more M R s:=by
  have loop:=loop_run (body:=l55_0 KW loopZ) (I55 D h c B a more M R) (O55 D h c B a more M R) (fun j e g hi=>by
   obtain ⟨j2,⟨st,C,hwr,hR⟩,e0,e2,e3,e10,e11⟩:=hi
   cases j with
   | zero =>
    rw [Nat.sub_zero] at e10 e11 C
    simp [l55_0,e11]
    exact ⟨st,C,hwr,.inl ⟨rfl,hR,by simp [e0],by simp [e3]⟩⟩
   | succ j =>
    obtain ⟨i,hi⟩:∃ i,i=4 - (j+1):=⟨_,rfl⟩
    rw [← hi] at e10 e11 hR
    obtain ⟨sum,hsum⟩:∃ sum,sum=3+3*i:=⟨_,rfl⟩
    rw [← hsum] at e10 hR
    obtain ⟨x,hx⟩:∃ x,x=7*B.colour+more:=⟨_,rfl⟩
    rw [← hx] at e2
    have z3:IntKind.i64.wrap (a - sum)=a - sum:=wz (by omega) (by omega)
    have m1:=imax_b (a - sum) 0
    have m2:=imin_b (imax (a - sum) 0) 3
    have hc29:cx 29=14:=by decide
    have hv29:vl 29=4:=by decide
    have hv:0≤imin (imax (a - sum) 0) 3∧imin (imax (a - sum) 0) 3 < vl 29:=by rw [hv29];omega
    have cl:=clip82_ok (a - sum) g
    obtain ⟨w,g1,a1,rfl,C1⟩:=(C.sym (k:=29) (x:=x) (v:=imin (imax (a - sum) 0) 3) (by omega) (by decide) (by rw [hc29];omega) (fun _=>hv)).elim
    have hlt:=St.symV_lt C.C.ok.1 (k:=29) (x:=x) (v:=imin (imax (a - sum) 0) 3) (by decide) (by rw [hc29];omega) (fun _=>hv)
    rw [hv29] at hlt
    unfold amoP at hR
    rw [Pr.exec_sym,← hx] at hR
    have hw1:(st.sym 29 x (imin (imax (a - sum) 0) 3)).sd.writes=B.wr:=by rw [St.sym_wr,hwr]
    obtain ⟨s,hs⟩:∃ s,s=st.symV 29 x (imin (imax (a - sum) 0) 3):=⟨_,rfl⟩
    rw [← hs] at a1 hlt hR
    rw [show ((29:Nat):Int)=29 from rfl] at a1
    have z4:IntKind.i64.wrap ((sum:Int)+s)=((sum+s:Nat):Int):=by rw [wz (by omega) (by omega)];omega
    have z5:IntKind.i64.wrap ((i:Int)+1)=((4 - j:Nat):Int):=by rw [wz (by omega) (by omega)];omega
    have C1:=C1.more (m':=M - j) (by omega) (by omega)
    by_cases hs3:s < 3
    ·rw [if_pos hs3,Pr.exec_done] at hR
     simp [l55_0,e11,show (i:Int) < 4 by omega,show i < 4 by omega,e3,e10,z3,cl,e0,e2,a1,z4,show (s:Int) < 3 by omega,hs3,-Int.natCast_add]
     exact ⟨_,C1.more (by omega) hM,hw1,.inr ⟨rfl,_,by omega,hR.symm,by simp,by simp⟩⟩
    ·have hs4:s=3:=by omega
     rw [if_neg hs3] at hR
     simp [l55_0,e11,show (i:Int) < 4 by omega,show i < 4 by omega,e3,e10,z3,cl,e0,e2,a1,z4,show ¬ (s:Int) < 3 by omega,hs3,z5,-Int.natCast_add]
     refine ⟨j,by omega,by omega,⟨_,C1,hw1,?_⟩,by simp [e0],by simp [e2,hx],by simp [e3],?_,by simp⟩
     ·rw [← hR,show 3+3*(4 - j)=sum+s by omega]
     ·simp [show 3+3*(4 - j)=sum+s by omega]) 4 e g hi
  obtain ⟨s,h1,h2⟩:=loop
  exact ⟨s,by rw [← ho,h1],h2⟩
theorem amount55_ok {B:BD} (a:CoderRef D h c m st) (hwr:st.sd.writes=B.wr) (hcol:B.colour≤1) {lv:List Int} {at_ said:Nat} (hs:said≤3) (hb : -1048576≤B.src.getD at_ 0∧B.src.getD at_ 0≤1048576) (hm:m+45 < 100000000) :
   RT (fun w h'=>∃ st',Rs D h c h' (m+45) st'∧((∃ v,(amountP B lv at_ said).exec st=(some v,st')∧v < 4194304∧w=.tup [.int .i64 (v:Nat),.int .i64 0])∨((amountP B lv at_ said).exec st=(none,st')∧∃ y,w=.tup [y,.int .i64 4])))
    (KW 55 [.ptr c 0,.int .i64 said,.int .i64 ((7*B.colour+moreP lv B.n at_:Nat):Int),.int .i64 (iabs (B.src.getD at_ 0))] h):=by
  have mm:=moreP_b lv B.n at_
  have ab:=iabs_b (B.src.getD at_ 0)
  obtain ⟨y,hy⟩:∃ y,y=iabs (B.src.getD at_ 0):=⟨_,rfl⟩
  obtain ⟨mo,hmo⟩:∃ mo,mo=moreP lv B.n at_:=⟨_,rfl⟩
  unfold amountP
  rw [← hy] at ab ⊢
  rw [← hmo] at mm ⊢
  rw [w55,f55,s55]
  by_cases c3:said < 3
  ·rw [if_pos c3,Pr.exec_done]
   simp [show (said:Int) < 3 by omega,c3]
   exact ⟨_,(Rs.of a).more (by omega) hm,_,⟨rfl,rfl⟩,by omega,rfl⟩
  ·rw [if_neg c3]
   have h3:said=3:=by omega
   subst h3
   simp
   generalize ho:loopZ (l55_0 KW loopZ) _ _=o
   obtain ⟨⟨sx,se,sh⟩,rfl,st1,C1,hw1,hs⟩:=loop55 (D:=D) (h:=h) (c:=c) (B:=B) (a:=y) (more:=mo) (M:=m+4) (R:=(amoP B y mo 4 3).exec st) hcol (by omega) mm.1 (by omega) (by omega) ho
    ⟨Nat.le_refl _,⟨st,by rw [Nat.add_sub_cancel];exact Rs.of a,hwr,rfl⟩,by simp,by simp,by simp,by simp,by simp⟩
   simp only at C1
   rcases hs with ⟨hx,hR,e0,e3⟩ | ⟨hx,v,v1,hR,e8,e9⟩
   ·simp only at hx e0 e3
    subst hx
    simp only [K55] at e0 e3
    have z1:IntKind.i64.wrap (y - 15)=y - 15:=wz (by omega) (by omega)
    have mx:=imax_b (y - 15) 0
    obtain ⟨lf,hlf⟩:∃ lf:Nat,lf=(imax (y - 15) 0).toNat:=⟨_,rfl⟩
    have elf:imax (y - 15) 0=(lf:Int):=by omega
    obtain ⟨w,g1,a1,st2,C2,hend⟩:=(length83_ok C1.C (left:=lf) (by omega) (by omega)).elim
    rw [hw1] at hend
    unfold amoP at hR
    rw [show ((15:Nat):Int)=15 from rfl,← hlf] at hR
    have C3:=C1.trans C2
    rcases hend with ⟨v,q1,q2,rfl⟩ | ⟨q1,rfl⟩
    ·rw [Pr.exec_some q1,Pr.exec_done] at hR
     have z2:IntKind.i64.wrap (15+(v:Int))=((15+v:Nat):Int):=by rw [wz (by omega) (by omega)];omega
     simp [e0,e3,z1,maxV_i,-maxV2,elf,a1,z2,-Int.natCast_add]
     exact ⟨st2,C3.more (by omega) hm,.inl ⟨_,hR.symm,by omega,rfl⟩⟩
    ·rw [Pr.exec_none q1] at hR
     simp [e0,e3,z1,maxV_i,-maxV2,elf,a1]
     exact ⟨st2,C3.more (by omega) hm,.inr ⟨hR.symm,_,rfl⟩⟩
   ·simp only at hx e8 e9
    subst hx
    simp only [K55] at e8 e9
    simp [e8,e9]
    exact ⟨st1,C1.more (by omega) hm,.inl ⟨v,hR,by omega,rfl⟩⟩
end am
theorem copyInts10_ok {h:H} {v:V} {l:List Int} (hl:l.length < 100000) (hf:firstV h 1 l.length v=some (intsV l)) (hln:lenOf v=some l.length) :
   RT (fun w h'=>Ext h h'∧GrowV h.n h' w 3 1 (intsV l) l.length) (KW 10 [v] h):=by
  rw [w10,f10,s10]
  obtain ⟨v',h',k1,k2,k3,k4,k5⟩:=apZ_grow (p:=h.n) (bytes:=8) (GrowV.nil h.n h 3 1) (Nat.le_refl _) hln hf (by simp [intsV]) (by omega)
  simp [k1]
  exact ⟨⟨k3,fun c hc=>k4 c hc (fun _ _ _ e=>by cases e)⟩,by simpa using k2⟩
theorem IntsX.grow {X:Nat→Prop} {p:Nat} {h:H} {v:V} {l:List Int} (a:GrowV p h v 3 1 (intsV l) l.length) (hx:∀ b,p≤b→b < h.n→¬ X b):IntsX X h v l where
  len:=a.len
  at_:=fun i x hi=>by
   have hlt:=lt_of_get hi
   rcases a with ⟨rfl,q2,q3⟩ | ⟨b,rfl,q2,q3,q4⟩
   ·omega
   ·refine ⟨b,i,by simp [hlt],?_,hx b q4 (H.get_lt q2),H.get_lt q2⟩
    rw [rd1_of q2,intsV_get _ _ hlt];simp [hi]
  cell:=a.cell
  same:=a.same
  cells:=a.cells
end Go.Proofs.YtbajipmhnoakeaaGreat
