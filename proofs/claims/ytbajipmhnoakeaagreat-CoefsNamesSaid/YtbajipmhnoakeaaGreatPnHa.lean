import Derived.Test.YtbajipmhnoakeaaGreatPnGq
set_option linter.unusedVariables false
set_option linter.unusedSimpArgs false
set_option maxRecDepth 20000
namespace Go.Proofs.YtbajipmhnoakeaaGreat
open Go Go.Zf
open Go.Zf (wi64)
theorem wz {n:Int} (h0 : -9223372036854775808≤n) (h1:n < 9223372036854775808):IntKind.i64.wrap n=n:=Go.Zf.wi64 h0 h1
theorem imin_comm (a b:Int):imin a b=imin b a:=by
 have h1:=imin_b a b
 have h2:=imin_b b a
 omega
theorem abs52_ok (x:Int) (h:H) (hx : -9223372036854775808 < x∧x < 9223372036854775808):KW 52 [.int .i64 x] h=some (.ret (.int .i64 (iabs x)),h):=by
 rw [w52,f52,s52]
 unfold iabs imax
 by_cases c:x < 0
 ·simp (disch:=omega) [c,wz,show -x > x by omega]
 ·simp (disch:=omega) [c,wz,show ¬ -x > x by omega]
theorem clip82_ok (x:Int) (h:H):KW 82 [.int .i64 x,.int .i64 0,.int .i64 3] h=some (.ret (.int .i64 (imin (imax x 0) 3)),h):=by
 rw [w82,f82,s82]
 unfold imin imax
 by_cases c:x < 0
 ·simp [c,show (0:Int) > x by omega]
 ·by_cases d:3 < x
  ·simp [c,d,show ¬ (0:Int) > x by omega]
  ·simp [c,d,show ¬ (0:Int) > x by omega]
theorem side45_ok {s:Nat} (hs:sizeOk s) (h:H):KW 45 [.int .i64 s] h=some (.ret (.int .i64 (sideP s)),h):=by
 rw [w45,f45,s45]
 rcases hs with rfl | rfl | rfl | rfl | rfl <;> simp [sideP]
theorem side45_no {s:Int} (hs:s ≠ 4∧s ≠ 8∧s ≠ 16∧s ≠ 32∧s ≠ 64) (h:H):KW 45 [.int .i64 s] h=some (.ret (.int .i64 0),h):=by
 rw [w45,f45,s45]
 simp [hs.1,hs.2.1,hs.2.2.1,hs.2.2.2.1,hs.2.2.2.2]
theorem ends50_ok {s:Nat} (hs:sizeOk s) (h:H):KW 50 [.int .i64 s] h=some (.ret (.int .i64 (ekP s)),h):=by
 rw [w50,f50,s50]
 rcases hs with rfl | rfl | rfl | rfl | rfl <;> simp [ekP]
theorem sign16r_ok {X:Nat→Prop} {h:H} {v:V} {l:List Int} (a:IntsX X h v l):KW 16 [v] h=some (.ret (.int .i64 (signP l)),h):=by
 have sa:=a.len
 rw [w16,f16,s16]
 unfold signP
 by_cases h0:l.length=0
 ·simp [sa,h0]
 ·have hl:0 < l.length:=by omega
  obtain ⟨b,o,t1,t2,_,_⟩:=a.at_ 0 _ (List.getElem?_eq_getElem hl)
  have t1':iaS 1 v (.int .i64 0)=some (.ptr b o):=t1
  have hg:l.getD 0 0=l[0]:=by simp [List.getD,hl]
  rw [hg]
  obtain ⟨x,hx⟩:∃ x,x=l[0]:=⟨_,rfl⟩
  rw [← hx] at t2 ⊢
  have hl0:¬ (l.length:Int)=0:=by omega
  have hln:l ≠ []:=by intro e;rw [e] at h0;exact h0 rfl
  by_cases c0:x=0
  ·simp [sa,hl0,h0,t1',t2,c0,hln]
  ·by_cases c1:x < 0
   ·simp [sa,hl0,h0,t1',t2,c0,c1,hln]
   ·simp [sa,hl0,h0,t1',t2,c0,c1,hln]
def cvR (lv:List Int) (n r c:Nat) (each:Int):Int :=
 if r < n∧c < n then
  let v:=lv.getD (r*n+c) 0
  if 0≤v then imin v each else -imax v (-each)
 else 0
theorem cvR_eq (lv:List Int) (n at_:Nat) (each:Int) (d:Nat × Nat):cval lv n at_ each d=cvR lv n (at_ / n+d.1) (at_ % n+d.2) each:=rfl
theorem some81_ok {h:H} {L n r c:Nat} {lv:List Int} {m:Int} (a:LvAt h L lv) (hl:lv.length=n*n) (hn:n≤32) (hr:r≤64) (hc:c≤64) (hm:0 < m∧m < 100) :
  KW 81 [.sl L 0 (n*n) (.ex (n*n)),.int .i64 n,.int .i64 r,.int .i64 c,.int .i64 m] h=some (.ret (.int .i64 (cvR lv n r c m)),h):=by
 rw [w81,f81,s81]
 unfold cvR
 by_cases c1:r < n
 ·by_cases c2:c < n
  ·have h1:r*n+c < n*n:=by
    have:(r+1)*n≤n*n:=Nat.mul_le_mul_right n c1
    rw [Nat.succ_mul] at this;omega
   have h2:n*n≤32*32:=Nat.mul_le_mul hn hn
   have q:=a.rd (i:=r*n+c) (by rw [hl];exact h1)
   have qb:=a.bd (r*n+c)
   obtain ⟨p,hp⟩:∃ p,p=r*n+c:=⟨_,rfl⟩
   have hrn:r*n≤32*32:=Nat.mul_le_mul (by omega) hn
   have z1:IntKind.i64.wrap ((r:Int)*n)=(r:Int)*n:=by rw [← Int.natCast_mul];exact wz (by omega) (by omega)
   have z2:IntKind.i64.wrap ((r:Int)*n+c)=(p:Int):=by rw [hp,← Int.natCast_mul];rw [wz (by omega) (by omega)];omega
   rw [← hp] at q qb h1 ⊢
   obtain ⟨v,hv⟩:∃ v,v=lv.getD p 0:=⟨_,rfl⟩
   rw [← hv] at q qb ⊢
   have hp2:(p:Int) < ((n*n:Nat):Int):=by omega
   have h0:KW 81 [.int .i64 0] h=KW 81 [.int .i64 0] h:=rfl
   by_cases k1:m < v
   ·simp (disch:=omega) [c1,c2,show ¬ n≤r by omega,show ¬ n≤c by omega,z1,z2,hp2,h1,q,k1,-Int.natCast_mul,if_pos (show 0≤v by omega)]
    unfold imin;rw [if_pos (by omega)]
   ·by_cases k2:v < -m
    ·simp (disch:=omega) [c1,c2,show ¬ n≤r by omega,show ¬ n≤c by omega,z1,z2,hp2,h1,q,k1,wz,k2,-Int.natCast_mul,if_neg (show ¬ 0≤v by omega)]
     unfold imax;rw [if_pos (by omega)];omega
    ·by_cases k3:v < 0
     ·simp (disch:=omega) [c1,c2,show ¬ n≤r by omega,show ¬ n≤c by omega,z1,z2,hp2,h1,q,k1,wz,k2,k3,-Int.natCast_mul,if_neg (show ¬ 0≤v by omega)]
      unfold imax;rw [if_neg (by omega)]
     ·simp (disch:=omega) [c1,c2,show ¬ n≤r by omega,show ¬ n≤c by omega,z1,z2,hp2,h1,q,k1,wz,k2,k3,-Int.natCast_mul,if_pos (show 0≤v by omega)]
      unfold imin;rw [if_neg (by omega)]
  ·simp [c1,c2,show ¬ n≤r by omega,show n≤c by omega]
 ·simp [c1,show n≤r by omega]
theorem asked80_ok {s at_ L:Nat} (hs:sizeOk s) (hat:at_ < sideP s*sideP s) (h:H):KW 80 [.sl L 0 (sideP s*sideP s) (.ex (sideP s*sideP s)),.int .i64 s,.int .i64 at_] h=some (.ret (.bool true),h):=by
 have sb:=sideP_b hs
 have a1:=side45_ok hs h
 obtain ⟨n,hn⟩:∃ n,n=sideP s:=⟨_,rfl⟩
 rw [← hn] at a1 sb hat ⊢
 have h2:n*n≤32*32:=Nat.mul_le_mul sb.2 sb.2
 have z1:IntKind.i64.wrap ((n:Int)*n)=((n*n:Nat):Int):=by rw [← Int.natCast_mul];exact wz (by omega) (by omega)
 rw [w80,f80,s80]
 simp [a1,show 0 < n by omega,z1,show (at_:Int) < ((n*n:Nat):Int) by omega,hat,-Int.natCast_mul]
theorem base53_ok {h:H} {L s at_:Nat} {lv:List Int} (hs:sizeOk s) (a:LvAt h L lv) (hl:lv.length=sideP s*sideP s) (hat:at_ < sideP s*sideP s) :
  KW 53 [.sl L 0 (sideP s*sideP s) (.ex (sideP s*sideP s)),.int .i64 s,.int .i64 at_] h=some (.ret (.tup [.int .i64 (baseP lv (sideP s) at_:Nat),.int .i64 0]),h):=by
 have a0:=asked80_ok (L:=L) hs hat h
 have a1:=side45_ok hs h
 have sb:=sideP_b hs
 have mb:=baseP_b lv (sideP s) at_
 obtain ⟨n,hn⟩:∃ n,n=sideP s:=⟨_,rfl⟩
 rw [← hn] at a0 a1 sb hat hl mb ⊢
 have hr:at_ / n < n:=(Nat.div_lt_iff_lt_mul (by omega)).2 hat
 have hc:at_ % n < n:=Nat.mod_lt _ (by omega)
 have e1:((at_:Int).tdiv n)=((at_ / n:Nat):Int):=by rw [Int.tdiv_eq_ediv_of_nonneg (by omega)];rfl
 have e2:((at_:Int).tmod n)=((at_ % n:Nat):Int):=by rw [Int.tmod_eq_emod_of_nonneg (by omega)];rfl
 rw [mb.2]
 unfold ctxP csum baseDs
 simp only [List.map_cons,List.map_nil,List.sum_cons,List.sum_nil,cvR_eq]
 obtain ⟨r,hr'⟩:∃ r,r=at_ / n:=⟨_,rfl⟩
 obtain ⟨c,hc'⟩:∃ c,c=at_ % n:=⟨_,rfl⟩
 rw [← hr'] at hr e1 ⊢
 rw [← hc'] at hc e2 ⊢
 have S:=fun r c hr hc=>some81_ok (r:=r) (c:=c) (m:=3) a hl sb.2 hr hc (by decide)
 have s1:=S r (c+1) (by omega) (by omega)
 have s2:=S (r+1) c (by omega) (by omega)
 have s3:=S (r+1) (c+1) (by omega) (by omega)
 have s4:=S r (c+2) (by omega) (by omega)
 have s5:=S (r+2) c (by omega) (by omega)
 have B:=fun r c=>cval_b lv n (r*n+c) (each:=3) (by decide)
 have cb:∀ r c,0≤cvR lv n r c 3∧cvR lv n r c 3≤3:=by
  intro r c
  unfold cvR
  split
  ·have h1:=imin_b (lv.getD (r*n+c) 0) 3
   have h2:=imax_b (lv.getD (r*n+c) 0) (-3)
   dsimp only
   split <;> omega
  ·omega
 have b1:=cb r (c+1)
 have b2:=cb (r+1) c
 have b3:=cb (r+1) (c+1)
 have b4:=cb r (c+2)
 have b5:=cb (r+2) c
 obtain ⟨x1,hx1⟩:∃ x,x=cvR lv n r (c+1) 3:=⟨_,rfl⟩
 obtain ⟨x2,hx2⟩:∃ x,x=cvR lv n (r+1) c 3:=⟨_,rfl⟩
 obtain ⟨x3,hx3⟩:∃ x,x=cvR lv n (r+1) (c+1) 3:=⟨_,rfl⟩
 obtain ⟨x4,hx4⟩:∃ x,x=cvR lv n r (c+2) 3:=⟨_,rfl⟩
 obtain ⟨x5,hx5⟩:∃ x,x=cvR lv n (r+2) c 3:=⟨_,rfl⟩
 simp only [Nat.add_zero]
 rw [← hx1] at s1 b1 ⊢
 rw [← hx2] at s2 b2 ⊢
 rw [← hx3] at s3 b3 ⊢
 rw [← hx4] at s4 b4 ⊢
 rw [← hx5] at s5 b5 ⊢
 have zr1:IntKind.i64.wrap ((r:Int)+1)=((r+1:Nat):Int):=by rw [wz (by omega) (by omega)];omega
 have zr2:IntKind.i64.wrap ((r:Int)+2)=((r+2:Nat):Int):=by rw [wz (by omega) (by omega)];omega
 have zc1:IntKind.i64.wrap ((c:Int)+1)=((c+1:Nat):Int):=by rw [wz (by omega) (by omega)];omega
 have zc2:IntKind.i64.wrap ((c:Int)+2)=((c+2:Nat):Int):=by rw [wz (by omega) (by omega)];omega
 have zr0:IntKind.i64.wrap (r:Int)=r:=wz (by omega) (by omega)
 have zq:(x1+x2+x3+x4+x5+1).tdiv 2=(x1+x2+x3+x4+x5+1) / 2:=Int.tdiv_eq_ediv_of_nonneg (by omega)
 rw [w53,f53,s53]
 simp [a0,a1,show ¬ (n:Int)=0 by omega,show ¬ n=0 by omega,e1,e2,zr0,zr1,zr2,zc1,zc2,s1,s2,s3,s4,s5,-Int.natCast_add,minV_i,-minV2,wz (show -9223372036854775808≤x1+x2 by omega) (by omega),wz (show -9223372036854775808≤x1+x2+x3 by omega) (by omega),wz (show -9223372036854775808≤x1+x2+x3+x4 by omega) (by omega),wz (show -9223372036854775808≤x1+x2+x3+x4+x5 by omega) (by omega),wz (show -9223372036854775808≤x1+x2+x3+x4+x5+1 by omega) (by omega),zq,wz (show -9223372036854775808≤(x1+x2+x3+x4+x5+1) / 2 by omega) (by omega)]
 have e6:x1+x2+x3+x4+x5+1=x1+(x2+(x3+(x4+(x5+0))))+1:=by omega
 rw [show x1+(x2+(x3+(x4+x5)))=x1+x2+x3+x4+x5 by omega]
 exact imin_comm _ _
theorem more54_ok {h:H} {L s at_:Nat} {lv:List Int} (hs:sizeOk s) (a:LvAt h L lv) (hl:lv.length=sideP s*sideP s) (hat:at_ < sideP s*sideP s) :
  KW 54 [.sl L 0 (sideP s*sideP s) (.ex (sideP s*sideP s)),.int .i64 s,.int .i64 at_] h=some (.ret (.tup [.int .i64 (moreP lv (sideP s) at_:Nat),.int .i64 0]),h):=by
 have a0:=asked80_ok (L:=L) hs hat h
 have a1:=side45_ok hs h
 have sb:=sideP_b hs
 have mb:=moreP_b lv (sideP s) at_
 obtain ⟨n,hn⟩:∃ n,n=sideP s:=⟨_,rfl⟩
 rw [← hn] at a0 a1 sb hat hl mb ⊢
 have hr:at_ / n < n:=(Nat.div_lt_iff_lt_mul (by omega)).2 hat
 have hc:at_ % n < n:=Nat.mod_lt _ (by omega)
 have e1:((at_:Int).tdiv n)=((at_ / n:Nat):Int):=by rw [Int.tdiv_eq_ediv_of_nonneg (by omega)];rfl
 have e2:((at_:Int).tmod n)=((at_ % n:Nat):Int):=by rw [Int.tmod_eq_emod_of_nonneg (by omega)];rfl
 rw [mb.2]
 unfold ctxP csum moreDs
 simp only [List.map_cons,List.map_nil,List.sum_cons,List.sum_nil,cvR_eq]
 obtain ⟨r,hr'⟩:∃ r,r=at_ / n:=⟨_,rfl⟩
 obtain ⟨c,hc'⟩:∃ c,c=at_ % n:=⟨_,rfl⟩
 rw [← hr'] at hr e1 ⊢
 rw [← hc'] at hc e2 ⊢
 have S:=fun r c hr hc=>some81_ok (r:=r) (c:=c) (m:=15) a hl sb.2 hr hc (by decide)
 have s1:=S r (c+1) (by omega) (by omega)
 have s2:=S (r+1) c (by omega) (by omega)
 have s3:=S (r+1) (c+1) (by omega) (by omega)
 have B:=fun r c=>cval_b lv n (r*n+c) (each:=15) (by decide)
 have cb:∀ r c,0≤cvR lv n r c 15∧cvR lv n r c 15≤15:=by
  intro r c
  unfold cvR
  split
  ·have h1:=imin_b (lv.getD (r*n+c) 0) 15
   have h2:=imax_b (lv.getD (r*n+c) 0) (-15)
   dsimp only
   split <;> omega
  ·omega
 have b1:=cb r (c+1)
 have b2:=cb (r+1) c
 have b3:=cb (r+1) (c+1)
 obtain ⟨x1,hx1⟩:∃ x,x=cvR lv n r (c+1) 15:=⟨_,rfl⟩
 obtain ⟨x2,hx2⟩:∃ x,x=cvR lv n (r+1) c 15:=⟨_,rfl⟩
 obtain ⟨x3,hx3⟩:∃ x,x=cvR lv n (r+1) (c+1) 15:=⟨_,rfl⟩
 obtain ⟨x4,hx4⟩:∃ x,x=cvR lv n r (c+2) 3:=⟨_,rfl⟩
 obtain ⟨x5,hx5⟩:∃ x,x=cvR lv n (r+2) c 3:=⟨_,rfl⟩
 simp only [Nat.add_zero]
 rw [← hx1] at s1 b1 ⊢
 rw [← hx2] at s2 b2 ⊢
 rw [← hx3] at s3 b3 ⊢
 have zr1:IntKind.i64.wrap ((r:Int)+1)=((r+1:Nat):Int):=by rw [wz (by omega) (by omega)];omega
 have zc1:IntKind.i64.wrap ((c:Int)+1)=((c+1:Nat):Int):=by rw [wz (by omega) (by omega)];omega
 have zr0:IntKind.i64.wrap (r:Int)=r:=wz (by omega) (by omega)
 have zq:(x1+x2+x3+1).tdiv 2=(x1+x2+x3+1) / 2:=Int.tdiv_eq_ediv_of_nonneg (by omega)
 rw [w54,f54,s54]
 simp [a0,a1,show ¬ (n:Int)=0 by omega,show ¬ n=0 by omega,e1,e2,zr0,zr1,zc1,s1,s2,s3,-Int.natCast_add,minV_i,-minV2,wz (show -9223372036854775808≤x1+x2 by omega) (by omega),wz (show -9223372036854775808≤x1+x2+x3 by omega) (by omega),wz (show -9223372036854775808≤x1+x2+x3+1 by omega) (by omega),zq,wz (show -9223372036854775808≤(x1+x2+x3+1) / 2 by omega) (by omega)]
 rw [show x1+(x2+x3)=x1+x2+x3 by omega]
 exact imin_comm _ _
end Go.Proofs.YtbajipmhnoakeaaGreat
