import Derived.Test.YtbkmdnmncaakdaaGreatPbHb
set_option linter.unusedVariables false
set_option linter.unusedSimpArgs false
set_option maxRecDepth 20000
namespace Go.Proofs.YtbkmdnmncaakdaaGreat
open Go Go.Zf
open Go.Zf (wi64)
theorem cell_pl {x y:Int} (c:cellB x y):pl8 x y:=by
 obtain ⟨t1,t2,i⟩:=c
 unfold inT at i
 rw [Int.tmod_eq_emod_of_nonneg i.1] at t1
 rw [Int.tmod_eq_emod_of_nonneg i.2.2.1] at t2
 exact ⟨by omega,by omega,t1,by omega,by omega,t2⟩
theorem skip46_any {D:Nat→Prop} {h:H} {g:Nat} {G:Gr} (a:GridAt D h g G) {x y:Int} (hx:I64 x) (hy:I64 y) :
  RT (fun w h'=>(∃ n e,w=.tup [.int .i64 n,.int .i64 e]∧(cellB x y→e=0)∧(¬ cellB x y→e=2))∧Ext h h') (KW 46 [.ptr g 0,.int .i64 x,.int .i64 y] h):=by
 by_cases c:cellB x y
 ·refine (skip25_ok a (cell_pl c)).mono fun w h' ⟨e,x⟩=>⟨?_,x⟩
  rw [if_pos c.2.2] at e
  exact ⟨_,_,e,fun _=>rfl,fun nc=>(nc c).elim⟩
 ·rw [skip46_no a hx hy c]
  exact ⟨⟨_,_,rfl,fun p=>(c p).elim,fun _=>rfl⟩,Ext.refl _⟩
theorem inter47_any {D:Nat→Prop} {h:H} {g:Nat} {G:Gr} (a:GridAt D h g G) {x y:Int} (hx:I64 x) (hy:I64 y) :
  RT (fun w h'=>(∃ n e,w=.tup [.int .i64 n,.int .i64 e]∧(cellB x y→e=0)∧(¬ cellB x y→e=2))∧Ext h h') (KW 47 [.ptr g 0,.int .i64 x,.int .i64 y] h):=by
 by_cases c:cellB x y
 ·refine (inter26_ok a (cell_pl c)).mono fun w h' ⟨e,x⟩=>⟨?_,x⟩
  rw [if_pos c.2.2] at e
  exact ⟨_,_,e,fun _=>rfl,fun nc=>(nc c).elim⟩
 ·rw [inter47_no a hx hy c]
  exact ⟨⟨_,_,rfl,fun p=>(c p).elim,fun _=>rfl⟩,Ext.refl _⟩
theorem code13_no {D:Nat→Prop} {h:H} {c m:Nat} {st:St} (C:CoderAt D h c m st) (hD:∀ b,D b→b < h.n) {Dg:Nat→Prop} {g:Nat} {G:Gr} (ga:GridAt Dg h g G) (dis:∀ b,Dg b→¬ D b) {b:Bk} (hx:I64 b.x) (hy:I64 b.y) (hm:m < 100000000) {key ll:Bool}
  (no:¬ (InG G b∧(st.sd.writes=true→MayB key ll b∧AgreeB (vsOf G b) b))) :
  RT (fun w h'=>w=.tup [bkZ.v,.int .i64 2]∧Kd D h c m st h') (KW 13 [.ptr c 0,.ptr g 0,b.v,.bool key,.bool ll] h):=by
 obtain ⟨h1,hh1⟩:∃ z,z=h.new (.cells b.cs 42 false):=⟨_,rfl⟩
 obtain ⟨h2,hh2⟩:∃ z,z=h1.new (.cells bkZ.cs 42 false):=⟨_,rfl⟩
 have n1:h1.n=h.n+1:=by rw [hh1,H.n_new]
 have n2:h2.n=h1.n+1:=by rw [hh2,H.n_new]
 have x2:Ext h h2:=by rw [hh2,hh1];exact ((Ext.refl h).new _).new _
 have t2:h2.get h.n=some (.cells b.cs 42 false):=by rw [hh2,get_new_lt (by omega),hh1,get_new_same]
 have z2:h2.get h1.n=some (.cells bkZ.cs 42 false):=by rw [hh2,get_new_same]
 have nDt:¬ D h.n∧¬ D h1.n:=⟨fun hd=>by have:=hD _ hd;omega,fun hd=>by have:=hD _ hd;omega⟩
 have C2:CoderAt D h2 c m st:=C.keep x2.n fun b _ hb=>x2.get b hb
 obtain ⟨_,h3,a3,rfl,C3,M3⟩:=(there24_ok C2 hm (ga.ext x2) dis).elim
 have M3n:=M3.n
 have t3:h3.get h.n=_:=(M3.get _ (by omega) nDt.1).trans t2
 have z3:h3.get h1.n=_:=(M3.get _ (by omega) nDt.2).trans z2
 have ga3:GridAt Dg h3 g G:=(ga.ext x2).keep M3.n fun b hb=>M3.get b ((ga.ext x2).hD b hb) (dis b hb)
 have rd3:∀ o,h3.rd1 h.n o=b.cs[o]?:=fun o=>rd1_of t3
 obtain ⟨_,h4,a4,⟨v4,e4,rfl,p4,q4⟩,x4⟩:=(skip46_any ga3 hx hy).elim
 have t4:h4.get h.n=_:=(x4.get _ (H.get_lt t3)).trans t3
 have rd4:∀ o,h4.rd1 h.n o=b.cs[o]?:=fun o=>rd1_of t4
 obtain ⟨_,h5,a5,⟨v5,e5,rfl,p5,q5⟩,x5⟩:=(inter47_any (ga3.ext x4) hx hy).elim
 have t5:h5.get h.n=_:=(x5.get _ (H.get_lt t4)).trans t4
 have rb5:h5.rdN h.n 0 23=some b.cs:=by rw [rdN_of t5 (by simp)];rfl
 obtain ⟨_,h6,a6,rfl,x6⟩:=(shaped27_ok b h5).elim
 have x36:=(x4.trans x5).trans x6
 have C6:CoderAt (grow D h2 h3) h6 c m st:=C3.keep x36.n fun b _ hb=>x36.get b hb
 have t6:h6.get h.n=_:=(x6.get _ (H.get_lt t5)).trans t5
 have z6:h6.get h1.n=_:=(x36.get _ (H.get_lt z3)).trans z3
 have rb6:h6.rdN h.n 0 23=some b.cs:=by rw [rdN_of t6 (by simp)];rfl
 have x36n:=x36.n
 -- the end
 have done:∀ {hE:H},Ext h6 hE→hE.wrN h1.n 0 bkZ.cs=some (hE.put h1.n (.cells bkZ.cs 42 false))∧(hE.put h1.n (.cells bkZ.cs 42 false)).rdN h1.n 0 23=some bkZ.cs∧Kd D h c m st (hE.put h1.n (.cells bkZ.cs 42 false)):=fun {hE} xE=>by
  have zE:hE.get h1.n=_:=(xE.get _ (H.get_lt z6)).trans z6
  have xEn:=xE.n
  refine ⟨by rw [wrN_of zE (by simp)];rfl,by rw [rdN_of (get_put_same (H.get_lt zE)) (by simp)];rfl,⟨?_,⟨by rw [H.n_put];omega,fun x hxh hdx=>?_⟩⟩⟩
  ·refine ((C6.keep xE.n fun b _ hb=>xE.get b hb).keep (by rw [H.n_put];exact Nat.le_refl _) fun x hx hx2=>get_put_ne (by
    rintro rfl
    rcases hx with hd | hd
    ·exact nDt.2 hd
    ·omega)).mono fun x hx hd=>?_
   rw [H.n_put] at hx
   rcases hd with hd | hd
   ·exact .inl hd
   ·exact .inr ⟨by omega,by rw [H.n_put];exact hx⟩
  ·rw [get_put_ne (by omega),xE.get x (by omega),x36.get x (by omega),M3.get x (by omega) hdx,x2.get x hxh]
 rw [w13,f13,s13]
 by_cases sh:ShapeB b
 ·by_cases cc:cellB b.x b.y
  ·have ig:InG G b:=⟨sh,cc.2.2⟩
   have hw:st.sd.writes=true:=by
    cases hww:st.sd.writes with
    | true=>rfl
    | false=>exact (no ⟨ig,fun h=>by rw [hww] at h;cases h⟩).elim
   have wr6:=writes26_ok C6
   rw [hw] at wr6
   have ga6:=ga3.ext x36
   obtain ⟨_,h7,a7,rfl,x7⟩:=(check11_ok b key ll h6).elim
   have t7:h7.get h.n=_:=(x7.get _ (H.get_lt t6)).trans t6
   have rb7:h7.rdN h.n 0 23=some b.cs:=by rw [rdN_of t7 (by simp)];rfl
   have e0:=p4 cc
   have e1:=p5 cc
   subst e0 e1
   by_cases mb:MayB key ll b
   ·have nag:¬ AgreeB (vsOf G b) b:=fun ag=>no ⟨ig,fun _=>⟨mb,ag⟩⟩
    rw [if_pos mb] at a7
    obtain ⟨_,h8,a8,rfl,x8⟩:=(agrees30_ok (ga6.ext x7) ig (fun hi=>by have:=mb.2.2.2;rw [hi] at this;exact this)).elim
    simp only [nag,decide_false] at a8
    obtain ⟨w8,r8,k8⟩:=done (x7.trans x8)
    simp [bx,nw,← hh1,← hh2,a3,rd3,a4,rd4,a5,rb5,a6,sh,wr6,rb6,a7,rb7,a8,w8,r8]
    exact ⟨rfl,k8⟩
   ·rw [if_neg mb] at a7
    obtain ⟨w8,r8,k8⟩:=done x7
    simp [bx,nw,← hh1,← hh2,a3,rd3,a4,rd4,a5,rb5,a6,sh,wr6,rb6,a7,w8,r8]
    exact ⟨rfl,k8⟩
  ·have e0:=q4 cc
   subst e0
   obtain ⟨w8,r8,k8⟩:=done (Ext.refl _)
   simp [bx,nw,← hh1,← hh2,a3,rd3,a4,rd4,a5,rb5,a6,sh,w8,r8]
   exact ⟨rfl,k8⟩
 ·obtain ⟨w8,r8,k8⟩:=done (Ext.refl _)
  simp [bx,nw,← hh1,← hh2,a3,rd3,a4,rd4,a5,rb5,a6,sh,w8,r8]
  exact ⟨rfl,k8⟩
end Go.Proofs.YtbkmdnmncaakdaaGreat
