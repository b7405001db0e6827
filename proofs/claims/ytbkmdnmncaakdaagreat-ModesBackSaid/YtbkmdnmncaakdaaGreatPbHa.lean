import Derived.Test.YtbkmdnmncaakdaaGreatPbMrb
set_option linter.unusedVariables false
set_option linter.unusedSimpArgs false
set_option maxRecDepth 20000
namespace Go.Proofs.YtbkmdnmncaakdaaGreat
open Go Go.Zf
open Go.Zf (wi64)
def cellB (x y:Int):Prop:=x.tmod 8=0∧y.tmod 8=0∧inT x y
theorem count89_no {D:Nat→Prop} {h:H} {g:Nat} {G:Gr} (a:GridAt D h g G) {f:V} {x y:Int} (hx:I64 x) (hy:I64 y) (c:¬ cellB x y) :
  KW 89 [.ptr g 0,.int .i64 x,.int .i64 y,f] h=some (.ret (.tup [.int .i64 0,.int .i64 2]),h):=by
 have e38:=none38_ok a
 have e40:=in40_ok a hx hy
 rw [w89,f89,s89]
 by_cases t1:x.tmod 8=0
 ·by_cases t2:y.tmod 8=0
  ·have c3:¬ inT x y:=fun h=>c ⟨t1,t2,h⟩
   simp [e38,e40,t1,t2,c3]
  ·simp [e38,t1,t2]
 ·simp [e38,t1]
theorem skip46_no {D:Nat→Prop} {h:H} {g:Nat} {G:Gr} (a:GridAt D h g G) {x y:Int} (hx:I64 x) (hy:I64 y) (c:¬ cellB x y) :
  KW 46 [.ptr g 0,.int .i64 x,.int .i64 y] h=some (.ret (.tup [.int .i64 0,.int .i64 2]),h):=by
 have e:=count89_no a (f:=.fn (.func 90) [] []) hx hy c
 rw [w46,f46,s46]
 simp [e]
theorem inter47_no {D:Nat→Prop} {h:H} {g:Nat} {G:Gr} (a:GridAt D h g G) {x y:Int} (hx:I64 x) (hy:I64 y) (c:¬ cellB x y) :
  KW 47 [.ptr g 0,.int .i64 x,.int .i64 y] h=some (.ret (.tup [.int .i64 0,.int .i64 2]),h):=by
 have e:=count89_no a (f:=.fn (.func 91) [] []) hx hy c
 rw [w47,f47,s47]
 simp [e]
def PartB (x y s:Int):Prop:=(s=64∨s=32∨s=16)∧x.tmod s=0∧y.tmod s=0∧inT x y
instance (x y s:Int):Decidable (PartB x y s):=inferInstanceAs (Decidable (_∧_))
def parN (G:Gr) (x y s:Int):Nat:=isP (fun b=>decide (b.w < s)) (G.at x (y - 1))+2*isP (fun b=>decide (b.h < s)) (G.at (x - 1) y)
theorem parN_le (G:Gr) (x y s:Int):parN G x y s < 4:=by
 have h1:=isP_le (fun b=>decide (b.w < s)) (G.at x (y - 1))
 have h2:=isP_le (fun b=>decide (b.h < s)) (G.at (x - 1) y)
 unfold parN;omega
abbrev K41:List Nat:=[0,1,2,3,8,9,10,11,12,13,14]
structure E41 (g0:H) (g:Nat) (x y s:Int) (n:Nat) (e:E) (h:H):Prop where
 xx:Ext g0 h
 e0:e.s K41 0=.ptr g 0
 e1:e.s K41 1=.int .i64 x
 e2:e.s K41 2=.int .i64 y
 e3:e.s K41 3=.int .i64 s
 e10:e.s K41 10=.int .i64 (n:Nat)
theorem gpart_ok {D:Nat→Prop} {h:H} {g:Nat} {G:Gr} (a:GridAt D h g G) {x y s:Int} (hx:I64 x) (hy:I64 y) :
  RT (fun w h'=>w=.tup (if PartB x y s then [.int .i64 (parN G x y s:Nat),.int .i64 0] else [.int .i64 0,.int .i64 2])∧Ext h h') (KW 41 [.ptr g 0,.int .i64 x,.int .i64 y,.int .i64 s] h):=by
 have e38:=none38_ok a
 have e40:=in40_ok a hx hy
 rw [w41,f41,s41]
 by_cases hs:s=64∨s=32∨s=16
 ·have nz:s ≠ 0:=by omega
  by_cases c:x.tmod s=0∧y.tmod s=0∧inT x y
  ·obtain ⟨t1,t2,c3⟩:=c
   rw [if_pos ⟨hs,t1,t2,c3⟩]
   have cx:=c3
   unfold inT at cx
   have z1:IntKind.i64.wrap (x - 1)=x - 1:=wi64 (by omega) (by omega)
   have z2:IntKind.i64.wrap (y - 1)=y - 1:=wi64 (by omega) (by omega)
   obtain ⟨Q,hQ⟩:∃ Q:V→H→Prop,Q=fun w h'=>w=.tup [.int .i64 (parN G x y s:Nat),.int .i64 0]∧Ext h h':=⟨_,rfl⟩
   rw [← hQ]
   obtain ⟨n1,hn1⟩:∃ n,n=isP (fun b=>decide (b.w < s)) (G.at x (y - 1)):=⟨_,rfl⟩
   obtain ⟨n2,hn2⟩:∃ n,n=isP (fun b=>decide (b.h < s)) (G.at (x - 1) y):=⟨_,rfl⟩
   have l1:n1≤1:=by rw [hn1];exact isP_le _ _
   have hN:parN G x y s=n1+2*n2:=by rw [hn1,hn2];rfl
   rw [hN] at hQ
   have fi:∀ e h',E41 h g x y s (n1+2*n2) e h'→Q (.tup [.int .i64 ((n1+2*n2:Nat):Int),.int .i64 0]) h':=fun e h' he=>by rw [hQ];exact ⟨rfl,he.xx⟩
   obtain ⟨P1,hP1⟩:∃ P:Nat→E→H→Prop,∀ n e h',P n e h' ↔ E41 h g x y s n e h':=⟨_,fun _ _ _=>Iff.rfl⟩
   rcases hs with rfl | rfl | rfl <;>
   ·simp [e38,e40,t1,t2,c3]
    refine sq_in (C:=fun o=>RT Q (Zf.fin Tryz.prog _ _ o)) (P1 n1) ?_ ?_
    ·obtain ⟨_,h1,a1,rfl,x1⟩:=(at74_ok a (x:=x) (y:=y - 1) hx (by omega)).elim
     cases ho:G.at x (y - 1) with
     | none =>
      rw [ho] at a1 hn1
      have hn:n1=0:=hn1
      subst hn
      simp [z2,a1,atV,nw,NmP]
      exact (hP1 _ _ _).2 ⟨x1.new _,by simp,by simp,by simp,by simp,by simp⟩
     | some b =>
      rw [ho] at a1 hn1
      obtain ⟨h2,hh2⟩:∃ z,z=h1.new (.cells b.cs 42 false):=⟨_,rfl⟩
      have zw:(h1.new (.cells bkZ.cs 42 false)).wrN h1.n 0 b.cs=some h2:=by rw [hh2];exact wrN_new _ _ _ _ (by simp)
      have rb:∀ o,h2.rd1 h1.n o=b.cs[o]?:=fun o=>rd1_of (by rw [hh2,get_new_same])
      have x2:Ext h h2:=by rw [hh2];exact x1.new _
      simp only [isP,decide_eq_true_eq] at hn1
      split at hn1
      ·rename_i hb
       subst hn1
       simp [z2,a1,atV,nw,zw,rb,hb,NmP,show IntKind.i64.wrap 1=1 from rfl]
       exact (hP1 _ _ _).2 ⟨x2,by simp,by simp,by simp,by simp,by simp⟩
      ·rename_i hb
       subst hn1
       simp [z2,a1,atV,nw,zw,rb,hb,NmP]
       exact (hP1 _ _ _).2 ⟨x2,by simp,by simp,by simp,by simp,by simp⟩
    rintro e h1 he1
    obtain ⟨x1,e0,e1,e2,e3,e10⟩:=(hP1 _ _ _).1 he1
    refine sq_in (C:=fun o=>RT Q (Zf.fin Tryz.prog _ _ o)) (P1 (n1+2*n2)) ?_ ?_
    ·obtain ⟨_,h2,a2,rfl,x2⟩:=(at74_ok (a.ext x1) (x:=x - 1) (y:=y) (by omega) hy).elim
     cases ho:G.at (x - 1) y with
     | none =>
      rw [ho] at a2 hn2
      have hn:n2=0:=hn2
      subst hn
      simp [e0,e1,e2,e3,z1,a2,atV,nw,NmP]
      exact (hP1 _ _ _).2 ⟨(x1.trans x2).new _,by simp [e0],by simp [e1],by simp [e2],by simp [e3],by simp [e10]⟩
     | some b =>
      rw [ho] at a2 hn2
      obtain ⟨h3,hh3⟩:∃ z,z=h2.new (.cells b.cs 42 false):=⟨_,rfl⟩
      have zw:(h2.new (.cells bkZ.cs 42 false)).wrN h2.n 0 b.cs=some h3:=by rw [hh3];exact wrN_new _ _ _ _ (by simp)
      have rb:∀ o,h3.rd1 h2.n o=b.cs[o]?:=fun o=>rd1_of (by rw [hh3,get_new_same])
      have x3:Ext h h3:=by rw [hh3];exact (x1.trans x2).new _
      simp only [isP,decide_eq_true_eq] at hn2
      split at hn2
      ·rename_i hb
       subst hn2
       have z3:IntKind.i64.wrap ((n1:Int)+2)=((n1+2*1:Nat):Int):=by rw [wi64 (by omega) (by omega)];omega
       simp [e0,e1,e2,e3,z1,a2,atV,nw,zw,rb,hb,NmP,e10,z3,-Int.natCast_add]
       exact (hP1 _ _ _).2 ⟨x3,by simp [e0],by simp [e1],by simp [e2],by simp [e3],by simp⟩
      ·rename_i hb
       subst hn2
       simp [e0,e1,e2,e3,z1,a2,atV,nw,zw,rb,hb,NmP]
       exact (hP1 _ _ _).2 ⟨x3,by simp [e0],by simp [e1],by simp [e2],by simp [e3],by simp [e10]⟩
    rintro e h2 he2
    have he:=(hP1 _ _ _).1 he2
    have q:=fi e h2 he
    simp [he.e10,-Int.natCast_add]
    exact q
  ·rw [if_neg fun p=>c p.2]
   by_cases t1:x.tmod s=0
   ·by_cases t2:y.tmod s=0
    ·have c3:¬ inT x y:=fun h=>c ⟨t1,t2,h⟩
     rcases hs with rfl | rfl | rfl <;> (simp [e38,e40,t1,t2,c3];exact ⟨rfl,Ext.refl _⟩)
    ·rcases hs with rfl | rfl | rfl <;> (simp [e38,t1,t2];exact ⟨rfl,Ext.refl _⟩)
   ·rcases hs with rfl | rfl | rfl <;> (simp [e38,t1];exact ⟨rfl,Ext.refl _⟩)
 ·rw [if_neg fun p=>hs p.1]
  have c1:s ≠ 64:=by omega
  have c2:s ≠ 32:=by omega
  have c3:s ≠ 16:=by omega
  simp [e38,c1,c2,c3]
  exact ⟨rfl,Ext.refl _⟩
end Go.Proofs.YtbkmdnmncaakdaaGreat
