import Derived.Test.YtbkmdnmncaakdaaPaMe
set_option linter.unusedVariables false
set_option linter.unusedSimpArgs false
set_option maxRecDepth 20000
namespace Go.Proofs.Ytbkmdnmncaakdaa
open Go Go.Zf
open Go.Zf (wi64)
theorem flat_gen {α:Type} {f:α→List V} (hf:∀ x,(f x).length=23):∀ (bs:List α),(bs.flatMap f).length=bs.length*23∧∀ (n:Nat) (b:α),bs[n]?=some b→((bs.flatMap f).drop (n*23)).take 23=f b:=by
 intro bs
 induction bs with
 | nil=>exact ⟨rfl,fun n b h=>by simp at h⟩
 | cons x bs ih =>
  refine ⟨by rw [List.flatMap_cons,List.length_append,ih.1,hf,List.length_cons];omega,fun n b h=>?_⟩
  rw [List.flatMap_cons]
  cases n with
  | zero=>simp at h;subst h;rw [Nat.zero_mul,List.drop_zero,List.take_left' (hf x)]
  | succ n =>
   have e:(n+1)*23=23+n*23:=by omega
   rw [e,← List.drop_drop,List.drop_left' (hf x)]
   exact ih.2 n b (by simpa using h)
theorem flat_at (bs:List Bk) (n:Nat) (b:Bk) (h:bs[n]?=some b):((bs.flatMap Bk.cs).drop (n*23)).take 23=b.cs:=(flat_gen cs_len bs).2 n b h
theorem flat_len (bs:List Bk):(bs.flatMap Bk.cs).length=bs.length*23:=(flat_gen cs_len bs).1
theorem grow_at {p:Nat} {h:H} {v:V} {bs:List Bk} {t:TypeId} (a:GrowV p h v t 23 (bs.flatMap Bk.cs) bs.length) {n:Nat} {b:Bk} (hb:bs[n]?=some b) :
  ∃ c o,iaS 23 v (.int .i64 (n:Nat))=some (.ptr c o)∧h.rdN c o 23=some b.cs∧(∃ o' k m,v=.sl c o' k m):=by
 have hn:n < bs.length:=by
  rcases Nat.lt_or_ge n bs.length with h | h
  ·exact h
  ·rw [List.getElem?_eq_none h] at hb;cases hb
 rcases a with ⟨rfl,h0,_⟩ | ⟨c,rfl,h2,h3,_⟩
 ·omega
 ·refine ⟨c,n*23,by simp [hn],?_,_,_,_,rfl⟩
  rw [rdN_of h2 (by rw [flat_len];omega),flat_at _ _ _ hb]
def atV:Option Bk→V
 | some b=>.tup [b.v,.bool true]
 | none=>.tup [bkZ.v,.bool false]
theorem at74_ok {D:Nat→Prop} {h:H} {g:Nat} {G:Gr} (a:GridAt D h g G) {x y:Int} (hx : -1000≤x∧x≤1000) (hy : -1000≤y∧y≤1000) :
  RT (fun w h'=>w=atV (G.at x y)∧Ext h h') (KW 74 [.ptr g 0,.int .i64 x,.int .i64 y] h):=by
 obtain ⟨h1,hh1⟩:∃ z,z=h.new (.cells bkZ.cs 45 false):=⟨_,rfl⟩
 have x1:Ext h h1:=by rw [hh1];exact (Ext.refl h).new _
 have n1:h1.n=h.n+1:=by rw [hh1,H.n_new]
 have g1:h1.get h.n=some (.cells bkZ.cs 45 false):=by rw [hh1,get_new_same]
 have a1:=a.ext x1
 have e38:=none38_ok a1
 have e40:=in40_ok a1 hx hy
 have r1:h1.rdN h.n 0 23=some bkZ.cs:=by rw [rdN_of g1 (by simp)];rfl
 have w1:h1.wrN h.n 0 bkZ.cs=some (h1.put h.n (.cells bkZ.cs 45 false)):=by rw [wrN_of g1 (by simp)];rfl
 have r1':(h1.put h.n (.cells bkZ.cs 45 false)).rdN h.n 0 23=some bkZ.cs:=by rw [rdN_of (get_put_same (by omega)) (by simp)];rfl
 have x1':Ext h (h1.put h.n (.cells bkZ.cs 45 false)):=x1.put (Nat.le_refl _) _
 rw [w74,f74,s74]
 by_cases c:inT x y
 ·have e41:=place41_ok x y ⟨c.1,by have:=c.2.1;omega⟩ ⟨c.2.2.1,by have:=c.2.2.2;omega⟩ h1
  obtain ⟨h2,hh2⟩:∃ z,z=h1.new (.cells [.int .i64 (x / 8),.int .i64 (y / 8)] 99 false):=⟨_,rfl⟩
  rw [← hh2] at e41
  have x2:Ext h1 h2:=by rw [hh2];exact (Ext.refl h1).new _
  have a2:=a1.ext x2
  have x02:=x1.trans x2
  have g2:h2.get h.n=_:=(x2.get _ (by omega)).trans g1
  have gg1:=a1.at_
  obtain ⟨⟨vb,m,k1,k2,k3,k4,k5,k6,k7⟩,ok,hD⟩:=a
  have gg:h2.get g=_:=(x02.get g (H.get_lt k1)).trans k1
  have gm:h2.get m=_:=(x02.get m (H.get_lt k2)).trans k2
  have gg1:h1.get g=_:=(x1.get g (H.get_lt k1)).trans k1
  have q6:=rd1_of (o:=6) gg
  have q61:=rd1_of (o:=6) gg1
  have q5:=rd1_of (o:=5) gg
  have lk:=lk_ent gm (x / 8) (y / 8)
  have w2:h2.wrN h.n 0 bkZ.cs=some (h2.put h.n (.cells bkZ.cs 45 false)):=by rw [wrN_of g2 (by simp)];rfl
  have n2:=x2.n
  have r2:(h2.put h.n (.cells bkZ.cs 45 false)).rdN h.n 0 23=some bkZ.cs:=by rw [rdN_of (get_put_same (by omega)) (by simp)];rfl
  have eat:G.at x y=(findN (x / 8,y / 8) G.cs).bind fun n=>G.bs[n]?:=by unfold Gr.at;rw [if_pos c]
  rw [eat]
  cases hf:findN (x / 8,y / 8) G.cs with
  | none =>
   rw [hf] at lk
   simp [nw,← hh1,e38,e40,c,e41,q6,q61,lk,w2,r2]
   exact ⟨rfl,x02.put (Nat.le_refl _) _⟩
  | some n =>
   rw [hf] at lk
   have hn:=ok.lt _ (findN_mem hf)
   obtain ⟨b,hb⟩:∃ b,G.bs[n]?=some b:=⟨_,List.getElem?_eq_getElem hn⟩
   obtain ⟨cc,o,i1,i2,i3⟩:=grow_at (k3.ext x02) hb
   have w3:h2.wrN h.n 0 b.cs=some (h2.put h.n (.cells b.cs 45 false)):=by
    rw [wrN_of g2 (by simp)]
    have:splice bkZ.cs 0 b.cs=b.cs:=by simp [splice]
    rw [this]
   have r3:(h2.put h.n (.cells b.cs 45 false)).rdN h.n 0 23=some b.cs:=by rw [rdN_of (get_put_same (by omega)) (by simp)];rfl
   simp [nw,← hh1,e38,e40,c,e41,q6,q61,q5,lk,hb,i1,i2,w3,r3]
   exact ⟨rfl,x02.put (Nat.le_refl _) _⟩
 ·have eat:G.at x y=none:=by unfold Gr.at;rw [if_neg c]
  rw [eat]
  simp [nw,← hh1,e38,e40,c,w1,r1']
  exact ⟨rfl,x1'⟩
theorem skip51_ok (b:Bk) (h:H):RT (fun w h'=>w=.bool b.skip∧Ext h h') (KW 51 [b.v] h):=by
 rw [w51,f51,s51]
 simp [bx]
 exact ⟨rfl,(Ext.refl h).new _⟩
theorem inter52_ok (b:Bk) (h:H):RT (fun w h'=>w=.bool b.inter∧Ext h h') (KW 52 [b.v] h):=by
 rw [w52,f52,s52]
 simp [bx]
 exact ⟨rfl,(Ext.refl h).new _⟩
def isP (is:Bk→Bool):Option Bk→Nat
 | some b=>if is b then 1 else 0
 | none=>0
def cntP (is:Bk→Bool) (G:Gr) (x y:Int):Nat:=isP is (G.at (x - 1) y)+isP is (G.at x (y - 1))
theorem isP_le (is:Bk→Bool) (o:Option Bk):isP is o≤1:=by
 unfold isP;split
 ·split <;> omega
 ·omega
abbrev K50:List Nat:=[0,1,2,3,8,9,10,12,13,14,42,43]
def IsAt (f:V) (is:Bk→Bool):Prop:=V.isCell f=true∧∀ (b:Bk) (h:H),RT (fun w h'=>w=.bool (is b)∧Ext h h') (cdy KW f [b.v] h)
structure I50 (g0:H) (g:Nat) (f:V) (x y:Int) (n j:Nat) (e:E) (h:H):Prop where
 xx:Ext g0 h
 e0:e.s K50 0=.ptr g 0
 e3:e.s K50 3=f
 e10:e.s K50 10=.int .i64 (n:Nat)
 e42:e.s K50 42=.agg [.int .i64 (x - 1),.int .i64 y,.int .i64 x,.int .i64 (y - 1)]
 e43:e.s K50 43=.int .i64 (j:Nat)
def cntTo (is:Bk→Bool) (G:Gr) (x y:Int) (j:Nat):Nat:=(if 1≤j then isP is (G.at (x - 1) y) else 0)+(if 2≤j then isP is (G.at x (y - 1)) else 0)
theorem loop50 {D:Nat→Prop} {g0:H} {g:Nat} {G:Gr} (a:GridAt D g0 g G) {f:V} {is:Bk→Bool} (hf:IsAt f is) {x y:Int} (hx:0≤x∧x≤900) (hy:0≤y∧y≤900) :
  ∀ m e h,(m≤2∧I50 g0 g f x y (cntTo is G x y (2 - m)) (2 - m) e h)→LS (fun m e h=>m≤2∧I50 g0 g f x y (cntTo is G x y (2 - m)) (2 - m) e h) (fun s=>s.x=.ex 1∧I50 g0 g f x y (cntP is G x y) 2 s.e s.h) m (l50_0 KW loopZ e h):=by
 rintro m e h ⟨hm,xx,e0,e3,e10,e42,e43⟩
 obtain ⟨j,hj⟩:∃ j,j=2 - m:=⟨_,rfl⟩
 rw [← hj] at e10 e43
 by_cases hj2:j=2
 ·subst hj2
  simp [l50_0,e43]
  exact ⟨rfl,xx,by simp [e0],by simp [e3],by simp [e10,cntTo,cntP],by simp [e42],by simp [e43]⟩
 obtain ⟨n,hn⟩:∃ n,n=cntTo is G x y j:=⟨_,rfl⟩
 rw [← hn] at e10
 obtain ⟨u,hu⟩:∃ u,u=if j=0 then x - 1 else x:=⟨_,rfl⟩
 obtain ⟨v,hv⟩:∃ v,v=if j=0 then y else y - 1:=⟨_,rfl⟩
 have hnx:n+isP is (G.at u v)=cntTo is G x y (j+1):=by
  rcases (by omega:j=0∨j=1) with rfl | rfl <;> subst hu hv hn <;> simp [cntTo]
 have nb:n≤1:=by
  have:=isP_le is (G.at (x - 1) y)
  rw [hn];unfold cntTo
  rw [if_neg (show ¬ 2≤j by omega)]
  split <;> omega
 have ub : -1000≤u∧u≤1000:=by rw [hu];split <;> omega
 have vb : -1000≤v∧v≤1000:=by rw [hv];split <;> omega
 have ix:ixN 2 2 (.agg [.int .i64 (x - 1),.int .i64 y,.int .i64 x,.int .i64 (y - 1)]) (.int .i64 (j:Nat))=some (.agg [.int .i64 u,.int .i64 v]):=by
  rcases (by omega:j=0∨j=1) with rfl | rfl <;> subst hu hv <;> rfl
 obtain ⟨h1,hh1⟩:∃ z,z=h.new (.cells [.int .i64 u,.int .i64 v] 40 false):=⟨_,rfl⟩
 have x1:Ext h h1:=by rw [hh1];exact (Ext.refl h).new _
 have g1:h1.get h.n=some (.cells [.int .i64 u,.int .i64 v] 40 false):=by rw [hh1,get_new_same]
 have q0:=rd1_of (o:=0) g1
 have q1:=rd1_of (o:=1) g1
 have zw:(h.new (.cells [.int .i64 0,.int .i64 0] 40 false)).wrN h.n 0 [.int .i64 u,.int .i64 v]=some h1:=by rw [hh1];exact wrN_new _ _ _ _ rfl
 obtain ⟨w,h2,a2,rfl,x2⟩:=(at74_ok (a.ext (xx.trans x1)) ub vb).elim
 have z1:IntKind.i64.wrap ((n:Int)+1)=((n+1:Nat):Int):=by rw [wi64 (by omega) (by omega)];omega
 have z2:IntKind.i64.wrap ((j:Int)+1)=((j+1:Nat):Int):=by rw [wi64 (by omega) (by omega)];omega
 have hj3:(j:Int) < 2:=by omega
 have hjm:2 - (m - 1)=j+1:=by omega
 cases ho:G.at u v with
 | none =>
  rw [ho] at a2 hnx
  simp [l50_0,e43,hj3,e42,ix,nw,zw,q0,q1,e0,a2,atV,e3,z2,e10,-Int.natCast_add]
  refine ⟨m - 1,by omega,by omega,?_⟩
  rw [hjm,← hnx]
  exact ⟨((xx.trans x1).trans x2).new _,by simp [e0],by simp [e3],by simp [e10,isP],by simp [e42],by simp⟩
 | some b =>
  rw [ho] at a2 hnx
  obtain ⟨w,h3,a3,rfl,x3⟩:=(hf.2 b (h2.new (.cells b.cs 45 false))).elim
  have rb:(h2.new (.cells b.cs 45 false)).rdN h2.n 0 23=some b.cs:=rdN_new _ _ _ _ _ _ (by simp)
  cases hb:is b with
  | true =>
   rw [hb] at a3
   simp [l50_0,e43,hj3,e42,ix,nw,zw,q0,q1,e0,a2,atV,e3,z2,e10,rb,a3,z1,-Int.natCast_add]
   refine ⟨m - 1,by omega,by omega,?_⟩
   rw [hjm,← hnx]
   exact ⟨(((xx.trans x1).trans x2).new _).trans x3,by simp [e0],by simp [e3],by simp [e10,isP,hb],by simp [e42],by simp⟩
  | false =>
   rw [hb] at a3
   simp [l50_0,e43,hj3,e42,ix,nw,zw,q0,q1,e0,a2,atV,e3,z2,e10,rb,a3,-Int.natCast_add]
   refine ⟨m - 1,by omega,by omega,?_⟩
   rw [hjm,← hnx]
   exact ⟨(((xx.trans x1).trans x2).new _).trans x3,by simp [e0],by simp [e3],by simp [e10,isP,hb],by simp [e42],by simp⟩
def pl8 (x y:Int):Prop:=0≤x∧x≤248∧x % 8=0∧0≤y∧y≤248∧y % 8=0
theorem tmod8 {x:Int} (h:0≤x) (e:x % 8=0):x.tmod 8=0:=by rw [Int.tmod_eq_emod_of_nonneg h];exact e
theorem count50_ok {D:Nat→Prop} {h:H} {g:Nat} {G:Gr} (a:GridAt D h g G) {f:V} {is:Bk→Bool} (hf:IsAt f is) {x y:Int} (p:pl8 x y) :
  RT (fun w h'=>w=.tup (if inT x y then [.int .i64 (cntP is G x y:Nat),.int .i64 0] else [.int .i64 0,.int .i64 2])∧Ext h h') (KW 50 [.ptr g 0,.int .i64 x,.int .i64 y,f] h):=by
 obtain ⟨p1,p2,p3,p4,p5,p6⟩:=p
 have e38:=none38_ok a
 have e40:=in40_ok a (x:=x) (y:=y) (by omega) (by omega)
 have t1:=tmod8 p1 p3
 have t2:=tmod8 p4 p6
 have z1:IntKind.i64.wrap (x - 1)=x - 1:=wi64 (by omega) (by omega)
 have z2:IntKind.i64.wrap (y - 1)=y - 1:=wi64 (by omega) (by omega)
 rw [w50,f50,s50]
 by_cases c:inT x y
 ·simp [e38,e40,t1,t2,c,z1,z2]
  refine loop_in (C:=fun o=>RT _ (fin Try.prog _ _ (sq (blk 1 o) _))) _ _ (loop50 a hf (x:=x) (y:=y) ⟨p1,by omega⟩ ⟨p4,by omega⟩) 2 ⟨Nat.le_refl _,Ext.refl _,by simp,by simp,by simp [cntTo],by simp,by simp⟩ ?_
  rintro ⟨sx,se,sh⟩ ⟨h1,xx,e0,e3,e10,e42,e43⟩
  simp only at h1 e10 xx
  subst h1
  simp [e10]
  exact ⟨rfl,xx⟩
 ·simp [e38,e40,t1,t2,c]
  exact ⟨rfl,Ext.refl _⟩
theorem skip25_ok {D:Nat→Prop} {h:H} {g:Nat} {G:Gr} (a:GridAt D h g G) {x y:Int} (p:pl8 x y) :
  RT (fun w h'=>w=.tup (if inT x y then [.int .i64 (cntP Bk.skip G x y:Nat),.int .i64 0] else [.int .i64 0,.int .i64 2])∧Ext h h') (KW 25 [.ptr g 0,.int .i64 x,.int .i64 y] h):=by
 obtain ⟨w,h1,a1,rfl,x1⟩:=(count50_ok a (f:=.fn (.func 51) [] []) (is:=Bk.skip) ⟨rfl,fun b h=>by rw [cdy_fn];exact skip51_ok b h⟩ p).elim
 rw [w25,f25,s25]
 by_cases c:inT x y
 ·rw [if_pos c] at a1;simp [a1,c];exact ⟨rfl,x1⟩
 ·rw [if_neg c] at a1;simp [a1,c];exact ⟨rfl,x1⟩
theorem inter26_ok {D:Nat→Prop} {h:H} {g:Nat} {G:Gr} (a:GridAt D h g G) {x y:Int} (p:pl8 x y) :
  RT (fun w h'=>w=.tup (if inT x y then [.int .i64 (cntP Bk.inter G x y:Nat),.int .i64 0] else [.int .i64 0,.int .i64 2])∧Ext h h') (KW 26 [.ptr g 0,.int .i64 x,.int .i64 y] h):=by
 obtain ⟨w,h1,a1,rfl,x1⟩:=(count50_ok a (f:=.fn (.func 52) [] []) (is:=Bk.inter) ⟨rfl,fun b h=>by rw [cdy_fn];exact inter52_ok b h⟩ p).elim
 rw [w26,f26,s26]
 by_cases c:inT x y
 ·rw [if_pos c] at a1;simp [a1,c];exact ⟨rfl,x1⟩
 ·rw [if_neg c] at a1;simp [a1,c];exact ⟨rfl,x1⟩
theorem cntP_le (is:Bk→Bool) (G:Gr) (x y:Int):cntP is G x y < 3:=by
 have:=isP_le is (G.at (x - 1) y)
 have:=isP_le is (G.at x (y - 1))
 unfold cntP;omega
end Go.Proofs.Ytbkmdnmncaakdaa
