import Derived.Test.YtbkmdnmncaakdaaPaMj
set_option linter.unusedVariables false
set_option linter.unusedSimpArgs false
set_option maxRecDepth 20000
namespace Go.Proofs.Ytbkmdnmncaakdaa
open Go Go.Zf
open Go.Zf (wi64)
def NmP (Post:E→H→Prop):Out→Prop
 | some ⟨.nm,e,h⟩=>Post e h
 | _=>False
theorem NmP_cg {Post:E→H→Prop} {x y:Out} (h:x=y):NmP Post x=NmP Post y:=by rw [h]
attribute [congr] NmP_cg
theorem sq_in {C:Out→Prop} {X:Out} {k:E→H→Out} (Post:E→H→Prop) (h1:NmP Post X) (h2:∀ e h,Post e h→C (k e h)):C (sq X k):=by
 unfold NmP at h1
 split at h1
 ·rw [sq_nm];exact h2 _ _ h1
 ·exact h1.elim
theorem within54_ok (n a b:Int) (h:H):KW 54 [.int .i64 n,.int .i64 a,.int .i64 b] h=some (.ret (.bool (decide (a≤n∧n≤b))),h):=by
 rw [w54,f54,s54]
 by_cases c:a≤n <;> simp [c]
theorem dir69_ok (n:Int) (h:H):KW 69 [.int .i64 n] h=some (.ret (.bool (decide (1≤n∧n≤8))),h):=by
 rw [w69,f69,s69]
 simp [within54_ok]
theorem log62_ok {x:Nat} (h0:x ≠ 0) (hx:x < 4294967296) (h:H):KW 62 [.int .i64 x] h=some (.ret (.int .i64 (Nat.log2 x:Nat)),h):=by
 have lb:Nat.log2 x < 32:=(Nat.log2_lt h0).2 (by omega)
 have z1:IntKind.u64.wrap (x:Int)=x:=wu64 (by omega) (by omega)
 have z2:IntKind.i64.wrap (((Nat.log2 x+1:Nat):Int) - 1)=(Nat.log2 x:Nat):=by rw [wi64 (by omega) (by omega)];omega
 rw [w62,f62,s62]
 simp only [bd_some1,sq_nm,E_s,lkE_cons,k62,cv_int,z1]
 simp [z1,len63_ok h0 hx,z2,-Int.natCast_add]
theorem great63_ok (b:Bk) (h:H):RT (fun w h'=>w=.int .i64 (imin b.w b.h)∧Ext h h') (KW 63 [b.v] h):=by
 rw [w63,f63,s63]
 simp [bx,-minV2,minV_i]
 exact ⟨rfl,(Ext.refl h).new _⟩
theorem col64_ok (b:Bk) (h:H):RT (fun w h'=>w=.bool (decide (imax b.w b.h≤32))∧Ext h h') (KW 64 [b.v] h):=by
 rw [w64,f64,s64]
 simp [bx,-maxV2,maxV_i]
 exact ⟨rfl,(Ext.refl h).new _⟩
instance (n:Int):Decidable (placeB n):=inferInstanceAs (Decidable (_∧_))
theorem place53_ok (n:Int) (h:H):KW 53 [.int .i64 n] h=some (.ret (.bool (decide (placeB n))),h):=by
 rw [w53,f53,s53]
 by_cases c:0≤n∧n≤248
 ·have t:n.tmod 8=n % 8:=Int.tmod_eq_emod_of_nonneg c.1
  have e:decide (placeB n)=decide (n % 8=0):=by rw [decide_eq_decide];unfold placeB;exact ⟨fun h=>h.2.2,fun h=>⟨c.1,c.2,h⟩⟩
  simp [within54_ok,c,t,e]
 ·have e:decide (placeB n)=false:=by rw [decide_eq_false_iff_not];unfold placeB;omega
  simp [within54_ok,c,e]
instance (b:Bk):Decidable (ShapeB b):=inferInstanceAs (Decidable (_∧_))
theorem shaped27_ok (b:Bk) (h:H):RT (fun w h'=>w=.bool (decide (ShapeB b))∧Ext h h') (KW 27 [b.v] h):=by
 obtain ⟨h1,hh1⟩:∃ z,z=h.new (.cells b.cs 45 false):=⟨_,rfl⟩
 have x1:Ext h h1:=by rw [hh1];exact (Ext.refl h).new _
 have g1:h1.get h.n=some (.cells b.cs 45 false):=by rw [hh1,get_new_same]
 have rd:∀ o,h1.rd1 h.n o=b.cs[o]?:=fun o=>rd1_of g1
 obtain ⟨_,h2,a2,rfl,x2⟩:=(side55_ok b.w h1).elim
 obtain ⟨_,h3,a3,rfl,x3⟩:=(side55_ok b.h h2).elim
 have g2:h2.get h.n=_:=(x2.get _ (H.get_lt g1)).trans g1
 have g3:h3.get h.n=_:=(x3.get _ (H.get_lt g2)).trans g2
 have rd2:∀ o,h2.rd1 h.n o=b.cs[o]?:=fun o=>rd1_of g2
 have rd3:∀ o,h3.rd1 h.n o=b.cs[o]?:=fun o=>rd1_of g3
 rw [w27,f27,s27]
 by_cases c1:placeB b.x
 ·by_cases c2:placeB b.y
  ·by_cases c3:sideB b.w
   ·by_cases c4:sideB b.h
    ·have z:IntKind.i64.wrap (4*imin b.w b.h)=4*imin b.w b.h:=by
      have:=imin_b b.w b.h
      unfold sideB at c3 c4
      exact wi64 (by omega) (by omega)
     have e:decide (ShapeB b)=decide (imax b.w b.h≤4*imin b.w b.h):=by rw [decide_eq_decide];exact ⟨fun h=>h.2.2.2.2,fun h=>⟨c1,c2,c3,c4,h⟩⟩
     simp [bx,← hh1,cdy_fn,place53_ok,rd,c1,c2,a2,c3,rd2,a3,c4,rd3,-minV2,minV_i,-maxV2,maxV_i,z,e]
     exact ⟨rfl,(x1.trans x2).trans x3⟩
    ·have e:decide (ShapeB b)=false:=by rw [decide_eq_false_iff_not];exact fun h=>c4 h.2.2.2.1
     simp [bx,← hh1,cdy_fn,place53_ok,rd,c1,c2,a2,c3,rd2,a3,c4,e]
     exact ⟨rfl,(x1.trans x2).trans x3⟩
   ·have e:decide (ShapeB b)=false:=by rw [decide_eq_false_iff_not];exact fun h=>c3 h.2.2.1
    simp [bx,← hh1,cdy_fn,place53_ok,rd,c1,c2,a2,c3,e]
    exact ⟨rfl,x1.trans x2⟩
  ·have e:decide (ShapeB b)=false:=by rw [decide_eq_false_iff_not];exact fun h=>c2 h.2.1
   simp [bx,← hh1,cdy_fn,place53_ok,rd,c1,c2,e]
   exact ⟨rfl,x1⟩
 ·have e:decide (ShapeB b)=false:=by rw [decide_eq_false_iff_not];exact fun h=>c1 h.1
  simp [bx,← hh1,cdy_fn,place53_ok,rd,c1,e]
  exact ⟨rfl,x1⟩
@[simp] theorem bl_shape (a b c d:Int):bl bkZ.cs [(some (0,1),.int .i64 a),(some (1,1),.int .i64 b),(some (2,1),.int .i64 c),(some (3,1),.int .i64 d)]=some (.agg ({ bkZ with x:=a,y:=b,w:=c,h:=d }:Bk).cs):=id rfl
@[simp] theorem bl_rect (x y z w:V) (a b c d:Int):bl [x,y,z,w] [(some (0,1),.int .i64 a),(some (1,1),.int .i64 b),(some (2,1),.int .i64 c),(some (3,1),.int .i64 d)]=some (.agg [.int .i64 a,.int .i64 b,.int .i64 c,.int .i64 d]):=id rfl
theorem shape29_ok (b:Bk) (h:H):RT (fun w h'=>w=(shapeB b).v∧Ext h h') (KW 29 [b.v] h):=by
 obtain ⟨h1,hh1⟩:∃ z,z=h.new (.cells b.cs 45 false):=⟨_,rfl⟩
 have x1:Ext h h1:=by rw [hh1];exact (Ext.refl h).new _
 have n1:h1.n=h.n+1:=by rw [hh1,H.n_new]
 have g1:h1.get h.n=some (.cells b.cs 45 false):=by rw [hh1,get_new_same]
 have rd:∀ X o,(h1.new X).rd1 h.n o=b.cs[o]?:=fun X o=>rd1_of (by rw [get_new_lt (by omega)];exact g1)
 rw [w29,f29,s29]
 simp [bx,nw,← hh1,rd]
 exact ⟨rfl,x1.new _⟩
theorem rect58_ok (b:Bk) (h:H):RT (fun w h'=>w=.agg [.int .i64 b.x,.int .i64 b.y,.int .i64 b.w,.int .i64 b.h]∧Ext h h') (KW 58 [b.v] h):=by
 obtain ⟨h1,hh1⟩:∃ z,z=h.new (.cells b.cs 45 false):=⟨_,rfl⟩
 have x1:Ext h h1:=by rw [hh1];exact (Ext.refl h).new _
 have n1:h1.n=h.n+1:=by rw [hh1,H.n_new]
 have g1:h1.get h.n=some (.cells b.cs 45 false):=by rw [hh1,get_new_same]
 have rd:∀ X o,(h1.new X).rd1 h.n o=b.cs[o]?:=fun X o=>rd1_of (by rw [get_new_lt (by omega)];exact g1)
 rw [w58,f58,s58]
 simp [bx,nw,← hh1,rd]
 exact ⟨rfl,x1.new _⟩
theorem vecs56_ok (b:Bk) (h:H):RT (fun w h'=>w=.int .i64 (if b.comp then 2 else 1)∧Ext h h') (KW 56 [b.v] h):=by
 rw [w56,f56,s56]
 cases c:b.comp <;> simp [bx,c] <;> exact ⟨rfl,(Ext.refl h).new _⟩
theorem vecMay67_ok (v:Vc) (h:H):RT (fun w h'=>w=.bool (decide (vecB v))∧Ext h h') (KW 67 [vcV v] h):=by
 rw [w67,f67,s67]
 by_cases c : -4095≤v.1∧v.1≤4095
 ·have e:decide (vecB v)=decide (-4095≤v.2∧v.2≤4095):=by rw [decide_eq_decide];exact ⟨fun h=>⟨h.2.2.1,h.2.2.2⟩,fun h=>⟨c.1,c.2,h.1,h.2⟩⟩
  simp [bx,within54_ok,c,e]
  exact ⟨rfl,(Ext.refl h).new _⟩
 ·have e:decide (vecB v)=false:=by rw [decide_eq_false_iff_not];exact fun h=>c ⟨h.1,h.2.1⟩
  simp [bx,within54_ok,c,e]
  exact ⟨rfl,(Ext.refl h).new _⟩
theorem said59_ok (mode:Int) (l:Vc × Vc) (h:H):RT (fun w h'=>w=vcV (saidV mode l)∧Ext h h') (KW 59 [.int .i64 mode,.agg [.int .i64 l.1.1,.int .i64 l.1.2,.int .i64 l.2.1,.int .i64 l.2.2]] h):=by
 obtain ⟨h1,hh1⟩:∃ z,z=h.new (.cells [.int .i64 l.1.1,.int .i64 l.1.2,.int .i64 l.2.1,.int .i64 l.2.2] 43 false):=⟨_,rfl⟩
 have x1:Ext h h1:=by rw [hh1];exact (Ext.refl h).new _
 have n1:h1.n=h.n+1:=by rw [hh1,H.n_new]
 have g1:h1.get h.n=some (.cells [.int .i64 l.1.1,.int .i64 l.1.2,.int .i64 l.2.1,.int .i64 l.2.2] 43 false):=by rw [hh1,get_new_same]
 have r0:∀ X,(h1.new X).rdN h.n 0 2=some [.int .i64 l.1.1,.int .i64 l.1.2]:=fun X=>by rw [rdN_of (by rw [get_new_lt (by omega)];exact g1) (by simp)];rfl
 have r2:∀ X,(h1.new X).rdN h.n 2 2=some [.int .i64 l.2.1,.int .i64 l.2.2]:=fun X=>by rw [rdN_of (by rw [get_new_lt (by omega)];exact g1) (by simp)];rfl
 rw [w59,f59,s59]
 unfold saidV
 by_cases c1:mode=1
 ·simp [bx,nw,← hh1,c1,r2];exact ⟨rfl,x1.new _⟩
 ·by_cases c2:mode=2
  ·simp [bx,nw,← hh1,c2];exact ⟨rfl,x1.new _⟩
  ·simp [bx,nw,← hh1,c1,c2,r0];exact ⟨rfl,x1.new _⟩
instance (m d:Int):Decidable (deltaB m d):=inferInstanceAs (Decidable (_∨_))
theorem delta68_ok (m d:Int) (h:H):KW 68 [.int .i64 m,.int .i64 d] h=some (.ret (.bool (decide (deltaB m d))),h):=by
 rw [w68,f68,s68]
 by_cases c0:d=0
 ·have e:decide (deltaB m d)=true:=by rw [decide_eq_true_iff];exact .inl c0
  simp [c0,e,deltaB]
 ·by_cases c1:1≤m∧m≤8
  ·have e:decide (deltaB m d)=decide (-3≤d∧d≤3):=by rw [decide_eq_decide];exact ⟨fun h=>h.elim (fun h=>(c0 h).elim) fun h=>h.2.2,fun h=>.inr ⟨c1.1,c1.2,h.1,h.2⟩⟩
   simp [c0,e,dir69_ok,c1,within54_ok]
  ·have e:decide (deltaB m d)=false:=by rw [decide_eq_false_iff_not];exact fun h=>h.elim c0 fun h=>c1 ⟨h.1,h.2.1⟩
   simp [c0,e,dir69_ok,c1]
instance (ll:Bool) (b:Bk):Decidable (SizeB ll b):=by unfold SizeB;infer_instance
theorem sized37_ok {b:Bk} (sh:ShapeB b) (ll:Bool) (h:H):RT (fun w h'=>w=.bool (decide (SizeB ll b))∧Ext h h') (KW 37 [b.v,.bool ll] h):=by
 obtain ⟨h1,hh1⟩:∃ z,z=h.new (.cells b.cs 45 false):=⟨_,rfl⟩
 have x1:Ext h h1:=by rw [hh1];exact (Ext.refl h).new _
 have g1:h1.get h.n=some (.cells b.cs 45 false):=by rw [hh1,get_new_same]
 have rb:h1.rdN h.n 0 23=some b.cs:=by rw [rdN_of g1 (by simp)];rfl
 obtain ⟨_,h2,a2,rfl,x2⟩:=(great63_ok b h1).elim
 have g2:h2.get h.n=_:=(x2.get _ (H.get_lt g1)).trans g1
 have rd:∀ o,h2.rd1 h.n o=b.cs[o]?:=fun o=>rd1_of g2
 obtain ⟨n,n3,n6,hm,_⟩:=sh.min
 have mb:8≤imin b.w b.h∧imin b.w b.h≤64:=by
  rw [hm];rcases (by omega:n=3∨n=4∨n=5∨n=6) with rfl | rfl | rfl | rfl <;> decide
 obtain ⟨m,hm'⟩:∃ m,m=imin b.w b.h:=⟨_,rfl⟩
 rw [← hm'] at a2 mb
 have q2:m.tdiv 2=m / 2:=Int.tdiv_eq_ediv_of_nonneg (by omega)
 have q4:m.tdiv 4=m / 4:=Int.tdiv_eq_ediv_of_nonneg (by omega)
 have z2:IntKind.i64.wrap (m / 2)=m / 2:=wi64 (by omega) (by omega)
 have z4:IntKind.i64.wrap (m / 4)=m / 4:=wi64 (by omega) (by omega)
 have x02:=x1.trans x2
 rw [w37,f37,s37]
 have e:SizeB ll b ↔ (if ll=true then b.tx=4 else if b.skip=true∧b.inter=true then b.tx=m else b.tx=m∨b.tx=m / 2∨(m > 8∧b.tx=m / 4)):=by unfold SizeB;rw [hm']
 cases ll with
 | true=>simp [e,bx,← hh1,rb,a2,rd];exact ⟨rfl,x02⟩
 | false =>
  by_cases c1:b.skip=true
  ·by_cases c2:b.inter=true
   ·simp [e,bx,← hh1,rb,a2,rd,c1,c2];exact ⟨rfl,x02⟩
   ·by_cases c3:b.tx=m
    ·simp [e,bx,← hh1,rb,a2,rd,c1,c2,c3];exact ⟨rfl,x02⟩
    ·by_cases c4:b.tx=m / 2
     ·simp [e,bx,← hh1,rb,a2,rd,c1,c2,c3,q2,z2,c4,show ¬ m / 2=m by omega];exact ⟨rfl,x02⟩
     ·by_cases c5:8 < m
      ·simp [e,bx,← hh1,rb,a2,rd,c1,c2,c3,q2,z2,c4,c5,q4,z4];exact ⟨rfl,x02⟩
      ·simp [e,bx,← hh1,rb,a2,rd,c1,c2,c3,q2,z2,c4,c5];exact ⟨rfl,x02⟩
  ·by_cases c3:b.tx=m
   ·simp [e,bx,← hh1,rb,a2,rd,c1,c3];exact ⟨rfl,x02⟩
   ·by_cases c4:b.tx=m / 2
    ·simp [e,bx,← hh1,rb,a2,rd,c1,c3,q2,z2,c4,show ¬ m / 2=m by omega];exact ⟨rfl,x02⟩
    ·by_cases c5:8 < m
     ·simp [e,bx,← hh1,rb,a2,rd,c1,c3,q2,z2,c4,c5,q4,z4];exact ⟨rfl,x02⟩
     ·simp [e,bx,← hh1,rb,a2,rd,c1,c3,q2,z2,c4,c5];exact ⟨rfl,x02⟩
end Go.Proofs.Ytbkmdnmncaakdaa
