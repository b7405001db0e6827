import Derived.Test.YtbkmdnmncaakdaaPaMb
set_option linter.unusedVariables false
set_option linter.unusedSimpArgs false
set_option maxRecDepth 20000
namespace Go.Proofs.Ytbkmdnmncaakdaa
open Go Go.Zf
open Go.Zf (wi64)
open Pr (Rd Fit ech_sym ech_num ech_bind2)
theorem flag_fit {k c:Nat} (hk:k < 32) (hc:c < cx k) (hv:vl k=2) (b0:Bool):Fit (flagP k c) (flagP k c b0) fun _=>True:=by
 refine ⟨fun a _=>⟨[.sym k c (if a then 1 else 0)],ech_sym (by cases a <;> rfl) (by cases a <;> rfl),.sym ⟨hk,hc,by rw [hv];cases a <;> decide⟩ ?_⟩,?_⟩
 ·cases a <;> exact .done _
 ·intro a l h
  cases h with
  | @sym _ _ _ _ x _ l ok h =>
   cases h
   have hx:x < 2:=by have:=ok.2.2;rw [hv] at this;exact this
   refine ⟨trivial,ech_sym ?_ rfl⟩
   rcases (by omega:x=0∨x=1) with rfl | rfl <;> rfl
theorem mode_fit {k c top:Nat} (hk:k < 32) (hc:c < cx k) (hv:vl k=top+1) (v0:Int):Fit (modeP k c) (modeP k c (v0,0)) fun v=>(0≤v.1∧v.1≤top)∧deltaB v.1 v.2:=by
 constructor
 ·rintro ⟨m,d⟩ ⟨⟨h1,h2⟩,h3⟩
  obtain ⟨n,rfl⟩:=Int.eq_ofNat_of_zero_le h1
  have hn:n < vl k:=by rw [hv];simp only at h2;omega
  simp only [deltaB] at h3
  by_cases c:1≤n∧n≤8
  ·obtain ⟨e,rfl⟩:∃ e:Nat,d=(e:Int) - 3:=⟨(d+3).toNat,by omega⟩
   have he:e < 7:=by omega
   refine ⟨[.sym k _ n,.sym 5 (n - 1) e],ech_sym rfl ?_,.sym ⟨hk,hc,hn⟩ ?_⟩
   ·dsimp only
    rw [if_pos c]
    exact ech_sym (by omega) rfl
   ·dsimp only
    rw [if_pos c]
    exact .sym ⟨by decide,by show n - 1 < 8;omega,he⟩ (.done _)
  ·have hd:d=0:=by omega
   subst hd
   refine ⟨[.sym k _ n],ech_sym rfl ?_,.sym ⟨hk,hc,hn⟩ ?_⟩
   ·dsimp only
    rw [if_neg c]
    rfl
   ·dsimp only
    rw [if_neg c]
    exact .done _
 ·rintro ⟨m,d⟩ l h
  cases h with
  | @sym _ _ _ _ x _ l ok h =>
   have hx:x < top+1:=by have:=ok.2.2;rw [hv] at this;exact this
   dsimp only at h
   by_cases c:1≤x∧x≤8
   ·rw [if_pos c] at h
    cases h with
    | @sym _ _ _ _ y _ l ok2 h =>
     cases h
     have hy:y < 7:=ok2.2.2
     refine ⟨⟨by simp only;omega,?_⟩,ech_sym rfl ?_⟩
     ·simp only [deltaB];omega
     ·dsimp only
      rw [if_pos c]
      exact ech_sym (by omega) rfl
   ·rw [if_neg c] at h
    cases h
    refine ⟨⟨by simp only;omega,.inl rfl⟩,ech_sym rfl ?_⟩
    dsimp only
    rw [if_neg c]
    rfl
theorem sgn_b (v:Int):sgn v≤2∧(sgn v=0 ↔ v=0)∧(sgn v=1 ↔ v < 0):=by
 unfold sgn
 split
 ·omega
 ·split <;> omega
theorem mag_fit {s i:Nat} (hs:s≤2) (hi:i < 2) (v0:Int):Fit (magP s i) (magP s i v0) fun v=>sgn v=s ∧ -16≤v∧v≤16:=by
 have hk:cx 9=2:=rfl
 have hl:vl 9=16:=rfl
 constructor
 ·rintro v ⟨h1,h2,h3⟩
  have sb:=sgn_b v
  by_cases c:s=0
  ·have hv:v=0:=by omega
   subst hv c
   exact ⟨[],rfl,.done _⟩
  ·have ab:=iabs_b v
   have m1:=imax_b (iabs v) 1
   refine ⟨[.sym 9 i (v.natAbs - 1)],?_,?_⟩
   ·unfold magP
    rw [if_neg c]
    refine ech_sym (by omega) ?_
    have:(if s=1 then -(((v.natAbs - 1:Nat):Int)+1) else ((v.natAbs - 1:Nat):Int)+1)=v:=by split <;> omega
    rw [this];rfl
   ·unfold magP
    rw [if_neg c]
    refine .sym ⟨by decide,by omega,by omega⟩ ?_
    have:(if s=1 then -(((v.natAbs - 1:Nat):Int)+1) else ((v.natAbs - 1:Nat):Int)+1)=v:=by split <;> omega
    rw [this];exact .done _
 ·intro v l h
  unfold magP at h
  by_cases c:s=0
  ·rw [if_pos c] at h
   cases h
   subst c
   exact ⟨⟨rfl,by decide,by decide⟩,rfl⟩
  ·rw [if_neg c] at h
   cases h with
   | @sym _ _ _ _ x _ l ok h =>
    have hx:x < 16:=ok.2.2
    cases h
    obtain ⟨y,hy⟩:∃ y,y=(if s=1 then -((x:Int)+1) else (x:Int)+1):=⟨_,rfl⟩
    rw [← hy]
    have sb:=sgn_b y
    have ab:=iabs_b y
    have m1:=imax_b (iabs y) 1
    have hy2:(s=1∧y = -((x:Int)+1))∨(s ≠ 1∧y=(x:Int)+1):=by
     by_cases c1:s=1
     ·rw [if_pos c1] at hy;exact .inl ⟨c1,hy⟩
     ·rw [if_neg c1] at hy;exact .inr ⟨c1,hy⟩
    refine ⟨⟨by omega,by omega,by omega⟩,?_⟩
    unfold magP
    rw [if_neg c]
    refine ech_sym (x:=x) (by omega) ?_
    rw [← hy];rfl
theorem colour_fit (v0:Int × Int):Fit colourP (colourP v0) fun v=>¬ (v.1=0∧v.2=0)∧(-16≤v.1∧v.1≤16)∧(-16≤v.2∧v.2≤16):=by
 constructor
 ·rintro ⟨u,v⟩ ⟨h1,h2,h3⟩
  simp only at h1 h2 h3
  have su:=sgn_b u
  have sv:=sgn_b v
  obtain ⟨j,hj⟩:∃ j:Nat,3*(sgn u:Int)+sgn v - 1=(j:Int):=⟨3*sgn u+sgn v - 1,by omega⟩
  have hj8:j < 8:=by omega
  have e1:(j+1) / 3=sgn u:=by omega
  have e2:(j+1) % 3=sgn v:=by omega
  obtain ⟨l1,a1,b1⟩:=(mag_fit (s:=sgn u) (i:=0) (by omega) (by decide) v0.1).w u ⟨rfl,h2⟩
  obtain ⟨l2,a2,b2⟩:=(mag_fit (s:=sgn v) (i:=1) (by omega) (by decide) v0.2).w v ⟨rfl,h3⟩
  refine ⟨.sym 8 0 j :: (l1 ++ (l2 ++ [])),ech_sym hj ?_,.sym ⟨by decide,by decide,hj8⟩ ?_⟩
  ·rw [e1,e2]
   exact ech_bind2 a1 (ech_bind2 a2 rfl)
  ·rw [e1,e2]
   exact b1.bind (b2.bind (.done _))
 ·rintro ⟨u,v⟩ l h
  cases h with
  | @sym _ _ _ _ j _ l ok h =>
   have hj:j < 8:=ok.2.2
   obtain ⟨a,l1,l2,h1,h2,rfl⟩:=Rd.bind_some h
   obtain ⟨b,l3,l4,h3,h4,rfl⟩:=Rd.bind_some h2
   cases h4
   obtain ⟨⟨s1,g1⟩,a1⟩:=(mag_fit (by omega) (by decide) v0.1).u u l1 h1
   obtain ⟨⟨s2,g2⟩,a2⟩:=(mag_fit (by omega) (by decide) v0.2).u v l3 h3
   have su:=sgn_b u
   have sv:=sgn_b v
   refine ⟨⟨by simp only;omega,g1,g2⟩,ech_sym (by simp only;omega) ?_⟩
   dsimp only
   exact ech_bind2 a1 (ech_bind2 a2 rfl)
theorem ShapeB.min {b:Bk} (a:ShapeB b):∃ n,3≤n∧n≤6∧imin b.w b.h=((2 ^ n:Nat):Int)∧lgB b=n:=by
 obtain ⟨_,_,h1,h2,_⟩:=a
 have m:=imin_b b.w b.h
 unfold lgB
 have:imin b.w b.h=8∨imin b.w b.h=16∨imin b.w b.h=32∨imin b.w b.h=64:=by unfold sideB at h1 h2;omega
 rcases this with e | e | e | e <;> rw [e]
 ·exact ⟨3,by decide,by decide,rfl,by decide⟩
 ·exact ⟨4,by decide,by decide,rfl,by decide⟩
 ·exact ⟨5,by decide,by decide,rfl,by decide⟩
 ·exact ⟨6,by decide,by decide,rfl,by decide⟩
theorem size_w {lossless:Bool} {b b':Bk} (sh:ShapeB b) (si:SizeB lossless b) (ew:b'.w=b.w) (eh:b'.h=b.h) (es:b'.skip=b.skip) (ei:b'.inter=b.inter) :
  ∃ l,(sizeP true lossless b).ech=(some b.tx,l)∧Rd (sizeP false lossless b') (some b.tx) l:=by
 obtain ⟨n,n3,n6,hm,hl⟩:=sh.min
 have hl':lgB b'=n:=by rw [← hl];unfold lgB;rw [ew,eh]
 unfold sizeP SizeB at *
 rw [hl,hl',es,ei,ew,eh]
 cases lossless with
 | true=>rw [if_pos rfl] at si;rw [if_pos rfl,if_pos rfl,si];exact ⟨[],rfl,.done _⟩
 | false =>
  simp only [Bool.false_eq_true,if_false] at si ⊢
  by_cases c:b.skip=true∧b.inter=true
  ·simp only [if_pos c] at si ⊢;rw [si];exact ⟨[],rfl,.done _⟩
  ·simp only [if_neg c] at si ⊢
   rw [hm] at si ⊢
   have hd:∃ d:Nat,d < (if n=3 then 2 else 3)∧b.tx=((2 ^ n / 2 ^ d:Nat):Int):=by
    rcases si with e | e | ⟨e0,e⟩
    ·exact ⟨0,by split <;> omega,by rw [e];simp⟩
    ·exact ⟨1,by split <;> omega,by rw [e];rfl⟩
    ·exact ⟨2,by rw [if_neg (by rintro rfl;revert e0;decide)];omega,by rw [e];rfl⟩
   obtain ⟨d,d1,d2⟩:=hd
   have hdn:d≤2:=by split at d1 <;> omega
   refine ⟨[.sym (if n=3 then 10 else 11) (n - 4) d],ech_sym ?_ ?_,.sym ⟨by split <;> decide,?_,?_⟩ ?_⟩
   ·unfold depthP
    rw [if_pos rfl,hm,d2]
    simp only [Int.toNat_natCast]
    rw [Nat.pow_div (by omega) (by decide),Nat.pow_div (by omega) (by decide),show n - (n - d)=d by omega,Nat.log2_two_pow]
   ·simp only [Int.toNat_natCast];rw [d2];rfl
   ·rcases (by omega:n=3∨n=4∨n=5∨n=6) with rfl | rfl | rfl | rfl <;> decide
   ·split <;> rename_i c3
    ·rw [if_pos c3] at d1;exact d1
    ·rw [if_neg c3] at d1;exact d1
   ·simp only [Int.toNat_natCast];rw [d2];exact .done _
theorem size_u {lossless:Bool} {b:Bk} (sh:ShapeB b) {t:Int} {l:List Op} (h:Rd (sizeP false lossless b) (some t) l) :
  SizeB lossless { b with tx:=t }∧(sizeP true lossless { b with tx:=t }).ech=(some t,l):=by
 obtain ⟨n,n3,n6,hm,hl⟩:=sh.min
 have hl':lgB { b with tx:=t }=n:=hl
 unfold sizeP at h ⊢
 unfold SizeB
 rw [hl] at h
 rw [hl']
 cases lossless with
 | true=>rw [if_pos rfl] at h;cases h;exact ⟨rfl,rfl⟩
 | false =>
  simp only [Bool.false_eq_true,if_false] at h ⊢
  by_cases c:b.skip=true∧b.inter=true
  ·simp only [if_pos c] at h ⊢;cases h;exact ⟨rfl,rfl⟩
  ·simp only [if_neg c] at h ⊢
   rw [hm] at h ⊢
   cases h with
   | @sym _ _ _ _ d _ l ok h =>
    simp only [Int.toNat_natCast] at h
    cases h
    have d1:d < (if n=3 then 2 else 3):=by have:=ok.2.2;revert this;split <;> exact fun h=>h
    have hdn:d≤2:=by split at d1 <;> omega
    refine ⟨?_,ech_sym ?_ ?_⟩
    ·rcases (by omega:d=0∨d=1∨d=2) with rfl | rfl | rfl
     ·left;simp
     ·right;left;rfl
     ·right;right
      refine ⟨?_,rfl⟩
      have:n ≠ 3:=by rintro rfl;simp at d1
      rcases (by omega:n=4∨n=5∨n=6) with rfl | rfl | rfl <;> decide
    ·unfold depthP
     rw [if_pos rfl,hm]
     simp only [Int.toNat_natCast]
     rw [Nat.pow_div (by omega) (by decide),Nat.pow_div (by omega) (by decide),show n - (n - d)=d by omega,Nat.log2_two_pow]
    ·simp only [Int.toNat_natCast];rfl
theorem part_fit {c:Nat} (hc:c < 2) (v0:Int):Fit (partP c) (partP c v0) fun v=>v ≠ 0∧v.natAbs≤16376:=by
 have hl18:vl 18=11:=rfl
 constructor
 ·rintro v ⟨h1,h2⟩
  obtain ⟨m,hm⟩:∃ m,m=mOf v:=⟨_,rfl⟩
  have hmv:m+1=v.natAbs:=by rw [hm];unfold mOf;omega
  obtain ⟨w,hw⟩:∃ w,w=m / 8+1:=⟨_,rfl⟩
  have lb:=log2_b (x:=w) (by omega)
  obtain ⟨L,hL⟩:∃ L,L=Nat.log2 w:=⟨_,rfl⟩
  rw [← hL] at lb
  have hL11:L < 11:=by rw [hL];exact (Nat.log2_lt (by omega)).2 (by omega)
  have hp:=Nat.pow_succ 2 L
  have e0:(2 ^ L+(w - 2 ^ L) - 1)*8+m % 8=m:=by omega
  have ev:(if (if v < 0 then 1 else 0)=1 then -(((2 ^ L+(w - 2 ^ L) - 1)*8+m % 8:Nat):Int) - 1 else (((2 ^ L+(w - 2 ^ L) - 1)*8+m % 8:Nat):Int)+1)=v:=by
   rw [e0];by_cases c0:v < 0 <;> simp [c0] <;> omega
  refine ⟨[.num 1 (if v < 0 then 1 else 0),.sym 18 c L,.num L (w - 2 ^ L),.sym 19 c (m % 8)],?_,?_⟩
  ·unfold partP
   rw [← hm,← hw,← hL]
   refine ech_num (by unfold flg;by_cases c0:v < 0 <;> simp [c0]) (ech_sym rfl (ech_num rfl (ech_sym rfl ?_)))
   rw [ev];rfl
  ·unfold partP
   refine .num ⟨by decide,by split <;> decide⟩ (.sym ⟨by decide,hc,hL11⟩ (.num ⟨by omega,by omega⟩ (.sym ⟨by decide,hc,by show m % 8 < 8;omega⟩ ?_)))
   rw [ev];exact .done _
 ·intro v l h
  cases h with
  | @num _ _ _ b _ l ok1 h =>
  cases h with
  | @sym _ _ _ _ L _ l ok2 h =>
  cases h with
  | @num _ _ _ r _ l ok3 h =>
  cases h with
  | @sym _ _ _ _ f _ l ok4 h =>
  cases h
  have hb:b < 2:=ok1.2
  have hL:L < 11:=ok2.2.2
  have hr:=ok3.2
  have hf:f < 8:=ok4.2.2
  have hp:=Nat.pow_succ 2 L
  have hp0:0 < 2 ^ L:=Nat.two_pow_pos L
  have hp1:2 ^ L≤2 ^ 10:=Nat.pow_le_pow_right (by decide) (by omega)
  obtain ⟨v,hv⟩:∃ v,v=(if b=1 then -(((2 ^ L+r - 1)*8+f:Nat):Int) - 1 else (((2 ^ L+r - 1)*8+f:Nat):Int)+1):=⟨_,rfl⟩
  have hm:mOf v=(2 ^ L+r - 1)*8+f:=by rw [hv];unfold mOf;split <;> omega
  have e1:mOf v / 8+1=2 ^ L+r:=by rw [hm];omega
  have e2:mOf v % 8=f:=by rw [hm];omega
  have e3:Nat.log2 (2 ^ L+r)=L:=log2_of (by omega) (by omega)
  have hvn:v ≠ 0∧v.natAbs≤16376:=by rw [hv];split <;> omega
  have hneg:decide (v < 0)=decide (b=1):=by
   rw [decide_eq_decide,hv];split <;> omega
  rw [← hv]
  refine ⟨hvn,?_⟩
  unfold partP
  rw [e1,e2,e3,hneg]
  refine ech_num ?_ (ech_sym rfl (ech_num (by rw [Nat.add_sub_cancel_left]) (ech_sym rfl ?_)))
  ·rcases (by omega:b=0∨b=1) with rfl | rfl <;> rfl
  ·rw [← hv];rfl
theorem side_fit {on:Bool} {c:Nat} (hc:c < 2) (a v0:Int):Fit (halfP on c a) (halfP on c a v0) fun v=>if on then v ≠ a∧(v - a).natAbs≤16376 else v=a:=by
 cases on with
 | false =>
  exact ⟨fun v hv=>⟨[],by simp at hv;subst hv;rfl,by simp at hv;subst hv;exact .done _⟩,fun v l h=>by cases h;exact ⟨rfl,rfl⟩⟩
 | true =>
  constructor
  ·intro v hv
   rw [if_pos rfl] at hv
   obtain ⟨l,a1,b1⟩:=(part_fit hc (v0 - a)).w (v - a) ⟨by omega,hv.2⟩
   have e:a+(v - a)=v:=by omega
   refine ⟨l ++ [],ech_bind2 a1 (by rw [e];rfl),b1.bind ?_⟩
   rw [e];exact .done _
  ·intro v l h
   obtain ⟨d,l1,l2,h1,h2,rfl⟩:=Rd.bind_some (p:=partP c (v0 - a)) h
   cases h2
   obtain ⟨g,a1⟩:=(part_fit hc (v0 - a)).u d l1 h1
   have e:a+d - a=d:=by omega
   refine ⟨by rw [if_pos rfl,e];exact ⟨by omega,g.2⟩,?_⟩
   unfold halfP
   rw [if_pos rfl,e]
   exact ech_bind2 a1 rfl
theorem vector_fit {mode:Int} {a:Vc} (ha:vecB a) (v0:Vc):Fit (vectorP mode a) (vectorP mode a v0) fun v=>if mode=3 then vecB v else v=a:=by
 by_cases c:mode=3
 ·subst c
  obtain ⟨a1,a2⟩:=a
  obtain ⟨ha1,ha2,ha3,ha4⟩:=ha
  simp only at ha1 ha2 ha3 ha4
  constructor
  ·rintro ⟨x,y⟩ hv
   rw [if_pos rfl] at hv
   obtain ⟨h1,h2,h3,h4⟩:=hv
   simp only at h1 h2 h3 h4
   obtain ⟨j,hj⟩:∃ j:Nat,j=(if x ≠ a1 then 1 else 0)+(if y ≠ a2 then 2 else 0):=⟨_,rfl⟩
   have hj4:j < 4:=by rw [hj];split <;> split <;> omega
   have j1:decide (j % 2=1)=decide (x ≠ a1):=by rw [decide_eq_decide,hj];split <;> split <;> omega
   have j2:decide (2≤j)=decide (y ≠ a2):=by rw [decide_eq_decide,hj];split <;> split <;> omega
   obtain ⟨l1,e1,b1⟩:=(side_fit (on:=decide (x ≠ a1)) (c:=0) (by decide) a1 v0.1).w x (by by_cases e:x=a1 <;> simp [e];omega)
   obtain ⟨l2,e2,b2⟩:=(side_fit (on:=decide (y ≠ a2)) (c:=1) (by decide) a2 v0.2).w y (by by_cases e:y=a2 <;> simp [e];omega)
   have hv:vecB (x,y):=⟨h1,h2,h3,h4⟩
   refine ⟨.sym 17 0 j :: (l1 ++ (l2 ++ [])),?_,?_⟩
   ·unfold vectorP
    rw [if_neg (by simp)]
    refine ech_sym (by rw [hj];dsimp only;split <;> split <;> rfl) ?_
    dsimp only
    rw [j1,j2]
    exact ech_bind2 e1 (ech_bind2 e2 (by rw [if_pos hv];rfl))
   ·unfold vectorP
    rw [if_neg (by simp)]
    refine .sym ⟨by decide,by decide,hj4⟩ ?_
    dsimp only
    rw [j1,j2]
    exact b1.bind (b2.bind (by rw [if_pos hv];exact .done _))
  ·rintro ⟨x,y⟩ l h
   unfold vectorP at h
   rw [if_neg (by simp)] at h
   cases h with
   | @sym _ _ _ _ j _ l ok h =>
    have hj:j < 4:=ok.2.2
    dsimp only at h
    obtain ⟨x',l1,l2,h1,h2,rfl⟩:=Rd.bind_some h
    obtain ⟨y',l3,l4,h3,h4,rfl⟩:=Rd.bind_some h2
    by_cases hv:vecB (x',y')
    ·rw [if_pos hv] at h4
     cases h4
     obtain ⟨g1,e1⟩:=(side_fit (by decide) a1 v0.1).u x l1 h1
     obtain ⟨g2,e2⟩:=(side_fit (by decide) a2 v0.2).u y l3 h3
     refine ⟨by rw [if_pos rfl];exact hv,?_⟩
     unfold vectorP
     rw [if_neg (by simp)]
     refine ech_sym ?_ ?_
     ·dsimp only
      by_cases c1:j % 2=1 <;> by_cases c2:2≤j <;> simp [c1,c2] at g1 g2 <;> simp [g1,g2] <;> omega
     ·dsimp only
      exact ech_bind2 e1 (ech_bind2 e2 (by rw [if_pos hv];rfl))
    ·rw [if_neg hv] at h4
     cases h4
 ·constructor
  ·intro v hv
   rw [if_neg c] at hv
   subst hv
   unfold vectorP
   rw [if_pos c,if_pos c]
   exact ⟨[],rfl,.done _⟩
  ·intro v l h
   unfold vectorP at h ⊢
   rw [if_pos c] at h ⊢
   cases h
   exact ⟨by rw [if_neg c],rfl⟩
end Go.Proofs.Ytbkmdnmncaakdaa
