import Derived.Test.YtbkmdnmncaakdaaPaMf
set_option linter.unusedVariables false
set_option linter.unusedSimpArgs false
set_option maxRecDepth 20000
namespace Go.Proofs.Ytbkmdnmncaakdaa
open Go Go.Zf
open Go.Zf (wi64)
abbrev vcV (v:Vc):V:=.agg [.int .i64 v.1,.int .i64 v.2]
def vecP (b:Bk) (ref:Int):Option Vc:=if b.inter then (if b.r0=ref then some b.m0 else if b.comp∧b.r1=ref then some b.m1 else none) else none
def ovV:Option Vc→V
 | some v=>.tup [vcV v,.bool true]
 | none=>.tup [vcV (0,0),.bool false]
theorem vec75_ok (b:Bk) (ref:Int) (h:H):RT (fun w h'=>w=ovV (vecP b ref)∧Ext h h') (KW 75 [b.v,.int .i64 ref] h):=by
 obtain ⟨h1,hh1⟩:∃ z,z=h.new (.cells b.cs 45 false):=⟨_,rfl⟩
 obtain ⟨h2,hh2⟩:∃ z,z=h1.new (.cells [.int .i64 0,.int .i64 0] 42 false):=⟨_,rfl⟩
 have n1:h1.n=h.n+1:=by rw [hh1,H.n_new]
 have n2:h2.n=h1.n+1:=by rw [hh2,H.n_new]
 have x2:Ext h h2:=by rw [hh2,hh1];exact ((Ext.refl h).new _).new _
 have g1:h2.get h.n=some (.cells b.cs 45 false):=by rw [hh2,get_new_lt (by omega),hh1,get_new_same]
 have rd:∀ o,h2.rd1 h.n o=b.cs[o]?:=fun o=>rd1_of g1
 have rm0:h2.rdN h.n 17 2=some [.int .i64 b.m0.1,.int .i64 b.m0.2]:=by rw [rdN_of g1 (by simp)];rfl
 have rm1:h2.rdN h.n 19 2=some [.int .i64 b.m1.1,.int .i64 b.m1.2]:=by rw [rdN_of g1 (by simp)];rfl
 have wr:∀ a c:Int,h2.wrN h1.n 0 [.int .i64 a,.int .i64 c]=some (h1.new (.cells [.int .i64 a,.int .i64 c] 42 false)):=fun a c=>by rw [hh2];exact wrN_new _ _ _ _ rfl
 have rr:∀ a c:Int,(h1.new (.cells [.int .i64 a,.int .i64 c] 42 false)).rdN h1.n 0 2=some [.int .i64 a,.int .i64 c]:=fun a c=>rdN_new _ _ _ _ _ _ (by simp)
 have r2:h2.rdN h1.n 0 2=some [.int .i64 0,.int .i64 0]:=by rw [hh2];exact rr 0 0
 have xe:∀ c,Ext h (h1.new c):=fun c=>by rw [hh1];exact ((Ext.refl h).new _).new _
 rw [w75,f75,s75]
 unfold vecP
 by_cases c0:b.inter=true
 ·by_cases c1:b.r0=ref
  ·simp [bx,nw,← hh1,← hh2,rd,c0,c1,rm0,wr,rr,r2];exact ⟨rfl,by first | exact xe _ | exact x2⟩
  ·by_cases c2:b.comp=true
   ·by_cases c3:b.r1=ref
    ·simp [bx,nw,← hh1,← hh2,rd,c0,c1,c2,c3,rm1,wr,rr,r2];exact ⟨rfl,by first | exact xe _ | exact x2⟩
    ·simp [bx,nw,← hh1,← hh2,rd,c0,c1,c2,c3,wr,rr,r2];exact ⟨rfl,by first | exact xe _ | exact x2⟩
   ·simp [bx,nw,← hh1,← hh2,rd,c0,c1,c2,wr,rr,r2];exact ⟨rfl,by first | exact xe _ | exact x2⟩
 ·simp [bx,nw,← hh1,← hh2,rd,c0,wr,rr,r2];exact ⟨rfl,by first | exact xe _ | exact x2⟩
structure VcsAt (h:H) (b:Nat) (l:List Vc):Prop where
 lt:b < h.n
 rd:∀ i:Nat,i < l.length→h.rdN b (i*2) 2=some [.int .i64 (l.getD i (0,0)).1,.int .i64 (l.getD i (0,0)).2]
theorem VcsAt.ext {h h':H} {b:Nat} {l:List Vc} (a:VcsAt h b l) (x:Ext h h'):VcsAt h' b l :=
 ⟨by have:=a.lt;have:=x.n;omega,fun i hi=>by rw [← a.rd i hi];unfold H.rdN;rw [x.get b a.lt]⟩
abbrev K87:List Nat:=[0,1,3,4,5,7,8]
structure I87 (g0:H) (b p:Nat) (k:Cap) (v:Vc) (l:List Vc) (j:Nat) (e:E) (h:H):Prop where
 xx:Ext g0 h
 no:v ∉ l.take j
 e0:e.s K87 0=.sl b 0 l.length k
 e3:e.s K87 3=.ptr p 0
 e7:e.s K87 7=.int .i64 (l.length:Nat)
 e8:e.s K87 8=.int .i64 (j:Nat)
theorem index87_ok {h:H} {b:Nat} {l:List Vc} (a:VcsAt h b l) (k:Cap) (hl:l.length < 1000) (v:Vc) :
  RT (fun w h'=>(∃ i:Int,w=.int .i64 i ∧ -1≤i∧i < 1000∧(0≤i ↔ v ∈ l))∧Ext h h') (KW 87 [.sl b 0 l.length k,vcV v] h):=by
 obtain ⟨h1,hh1⟩:∃ z,z=h.new (.cells [.int .i64 v.1,.int .i64 v.2] 42 false):=⟨_,rfl⟩
 have x1:Ext h h1:=by rw [hh1];exact (Ext.refl h).new _
 have g1:h1.get h.n=some (.cells [.int .i64 v.1,.int .i64 v.2] 42 false):=by rw [hh1,get_new_same]
 rw [w87,f87,s87]
 simp [bx,← hh1]
 refine loop_in (C:=fun o=>RT _ (fin Try.prog _ _ (sq (blk 0 o) _))) (fun m e g=>m≤l.length∧I87 h1 b h.n k v l (l.length - m) e g)
  (fun s=>(s.x=.ex 0∧v ∉ l∧Ext h1 s.h)∨(s.x=.rt∧v ∈ l∧Ext h1 s.h∧∃ i:Nat,i < l.length∧s.e.s K87 4=.int .i64 (i:Nat))) ?_ l.length ⟨Nat.le_refl _,by simp;exact ⟨Ext.refl _,by simp,by simp,by simp,by simp,by simp⟩⟩ ?_
 ·rintro m e g ⟨hm,xx,no,e0,e3,e7,e8⟩
  obtain ⟨j,hj⟩:∃ j,j=l.length - m:=⟨_,rfl⟩
  rw [← hj] at no e8
  by_cases c:j=l.length
  ·subst c
   simp [l87_0,e8,e7]
   refine .inl ⟨rfl,?_,xx⟩
   rw [List.take_length] at no;exact no
  ·have hjl:j < l.length:=by omega
   have hjl':(j:Int) < l.length:=by omega
   have rv:g.rdN h.n 0 2=some [.int .i64 v.1,.int .i64 v.2]:=by rw [rdN_of ((xx.get _ (H.get_lt g1)).trans g1) (by simp)];rfl
   have rj:=((a.ext (x1.trans xx)).rd j hjl)
   obtain ⟨u,hu⟩:∃ u,u=l.getD j (0,0):=⟨_,rfl⟩
   rw [← hu] at rj
   have hlu:l[j]=u:=by rw [hu];simp [List.getD,hjl]
   have z2:IntKind.i64.wrap ((j:Int)+1)=((j+1:Nat):Int):=by rw [wi64 (by omega) (by omega)];omega
   by_cases cu:v=u
   ·have cu':(v.1,v.2)=(u.1,u.2):=by rw [cu]
    simp only [Prod.mk.injEq] at cu'
    simp [l87_0,e8,e7,hjl,hjl',e3,rv,e0,rj,cu'.1,cu'.2]
    exact .inr ⟨rfl,by rw [cu,← hlu];exact List.getElem_mem _,xx,j,hjl,by simp⟩
   ·have cu':¬ (v.1=u.1∧v.2=u.2):=fun h=>cu (Prod.ext h.1 h.2)
    simp [l87_0,e8,e7,hjl,hjl',e3,rv,e0,rj,cu',z2,-Int.natCast_add]
    refine ⟨m - 1,by omega,by omega,?_⟩
    rw [show l.length - (m - 1)=j+1 by omega]
    refine ⟨xx,?_,by simp [e0],by simp [e3],by simp [e7],by simp⟩
    rw [List.take_add_one,List.mem_append,List.getElem?_eq_getElem hjl,hlu]
    rintro (h | h)
    ·exact no h
    ·simp at h;exact cu h
 ·rintro ⟨sx,se,sh⟩ (⟨h1',h2,xx⟩ | ⟨h1',h2,xx,i,hi,e4⟩)
  ·simp only at h1'
   subst h1'
   simp
   exact ⟨⟨_,rfl,by decide,by decide,by simp [h2]⟩,x1.trans xx⟩
  ·simp only at h1' e4
   subst h1'
   simp [e4]
   exact ⟨⟨_,rfl,by omega,by omega,by simp [h2]⟩,x1.trans xx⟩
theorem contains76_ok {h:H} {b:Nat} {l:List Vc} (a:VcsAt h b l) (k:Cap) (hl:l.length < 1000) (v:Vc) :
  RT (fun w h'=>w=.bool (decide (v ∈ l))∧Ext h h') (KW 76 [.sl b 0 l.length k,vcV v] h):=by
 obtain ⟨h1,hh1⟩:∃ z,z=h.new (.cells [.int .i64 v.1,.int .i64 v.2] 42 false):=⟨_,rfl⟩
 have x1:Ext h h1:=by rw [hh1];exact (Ext.refl h).new _
 have rv:h1.rdN h.n 0 2=some [.int .i64 v.1,.int .i64 v.2]:=by rw [hh1];exact rdN_new _ _ _ _ _ _ (by simp)
 obtain ⟨w,h2,a2,⟨i,rfl,i1,i2,i3⟩,x2⟩:=(index87_ok (a.ext x1) k hl v).elim
 rw [w76,f76,s76]
 simp [bx,← hh1,rv,a2]
 exact ⟨by simp [i3],x1.trans x2⟩
def pushV (ref:Int) (acc:List Vc) (o:Option Bk):List Vc :=
 match o.bind fun b=>vecP b ref with
 | some v=>if acc.length < 2∧¬ v ∈ acc then acc ++ [v] else acc
 | none=>acc
def posV (x y w:Int):List (Int × Int):=[(x - 1,y),(x,y - 1),(x+w,y - 1),(x - 1,y - 1)]
def accV (G:Gr) (x y w ref:Int) (j:Nat):List Vc:=((posV x y w).take j).foldl (fun acc p=>pushV ref acc (G.at p.1 p.2)) []
def candV (G:Gr) (x y w ref:Int):(Vc × Vc) × Nat :=
 let l:=accV G x y w ref 4
 ((l.getD 0 (0,0),l.getD 1 (0,0)),l.length)
theorem accV_succ (G:Gr) (x y w ref:Int) {j:Nat} {p:Int × Int} (h:(posV x y w)[j]?=some p):accV G x y w ref (j+1)=pushV ref (accV G x y w ref j) (G.at p.1 p.2):=by
 unfold accV
 rw [List.take_add_one,h,Option.toList_some,List.foldl_append];rfl
theorem pushV_len (ref:Int) (acc:List Vc) (o:Option Bk) (h:acc.length≤2):(pushV ref acc o).length≤2:=by
 unfold pushV
 split
 ·split
  ·rw [List.length_append,List.length_singleton];omega
  ·exact h
 ·exact h
theorem accV_len (G:Gr) (x y w ref:Int):∀ j,(accV G x y w ref j).length≤2:=by
 intro j
 unfold accV
 generalize (posV x y w).take j=l
 have:∀ (l:List (Int × Int)) (acc:List Vc),acc.length≤2→(l.foldl (fun acc p=>pushV ref acc (G.at p.1 p.2)) acc).length≤2:=by
  intro l
  induction l with
  | nil=>intro acc h;exact h
  | cons p l ih=>intro acc h;exact ih _ (pushV_len ref acc _ h)
 exact this l [] (by decide)
def outC (l:List Vc):List V:=[.int .i64 (l.getD 0 (0,0)).1,.int .i64 (l.getD 0 (0,0)).2,.int .i64 (l.getD 1 (0,0)).1,.int .i64 (l.getD 1 (0,0)).2]
theorem outC_push {acc:List Vc} (h:acc.length < 2) (v:Vc):splice (outC acc) (acc.length*2) [.int .i64 v.1,.int .i64 v.2]=outC (acc ++ [v]):=by
 match acc,h with
 | [],_=>rfl
 | [a],_=>rfl
theorem outC_rd {h:H} {b:Nat} {l:List Vc} {t:TypeId} {ro:Bool} (hb:h.get b=some (.cells (outC l) t ro)) (hl:l.length≤2):VcsAt h b l:=by
 refine ⟨H.get_lt hb,fun i hi=>?_⟩
 rw [rdN_of hb (by show _≤4;omega)]
 rcases (by omega:i=0∨i=1) with rfl | rfl <;> rfl
end Go.Proofs.Ytbkmdnmncaakdaa
