import Derived.Test.YtbkmdnmncaakdaaPaMh
set_option linter.unusedVariables false
set_option linter.unusedSimpArgs false
set_option maxRecDepth 20000
namespace Go.Proofs.Ytbkmdnmncaakdaa
open Go Go.Zf
open Go.Zf (wi64)
abbrev K81:List Nat:=[0,1,4,5,7,8]
structure I81 (g0:H) (b:Nat) (k:Cap) (v:Int) (l:List Int) (j:Nat) (e:E) (h:H):Prop where
 hh:h=g0
 no:v ∉ l.take j
 e0:e.s K81 0=.sl b 0 l.length k
 e1:e.s K81 1=.int .i64 v
 e7:e.s K81 7=.int .i64 (l.length:Nat)
 e8:e.s K81 8=.int .i64 (j:Nat)
theorem index81_ok {h:H} {b:Nat} {l:List Int} {t:TypeId} {ro:Bool} (a:h.get b=some (.cells (intsV l) t ro)) (k:Cap) (hl:l.length < 1000) (v:Int) :
  RT (fun w h'=>(∃ i:Int,w=.int .i64 i ∧ -1≤i∧i < 1000∧(0≤i ↔ v ∈ l))∧h'=h) (KW 81 [.sl b 0 l.length k,.int .i64 v] h):=by
 rw [w81,f81,s81]
 simp
 refine loop_in (C:=fun o=>RT _ (fin Try.prog _ _ (sq (blk 0 o) _))) (fun m e g=>m≤l.length∧I81 h b k v l (l.length - m) e g)
  (fun s=>(s.x=.ex 0∧v ∉ l∧s.h=h)∨(s.x=.rt∧v ∈ l∧s.h=h∧∃ i:Nat,i < l.length∧s.e.s K81 4=.int .i64 (i:Nat))) ?_ l.length ⟨Nat.le_refl _,by simp;exact ⟨rfl,by simp,by simp,by simp,by simp,by simp⟩⟩ ?_
 ·rintro m e g ⟨hm,xx,no,e0,e1,e7,e8⟩
  subst xx
  obtain ⟨j,hj⟩:∃ j,j=l.length - m:=⟨_,rfl⟩
  rw [← hj] at no e8
  by_cases c:j=l.length
  ·subst c
   simp [l81_0,e8,e7]
   refine .inl ⟨rfl,?_,rfl⟩
   rw [List.take_length] at no;exact no
  ·have hjl:j < l.length:=by omega
   have hjl':(j:Int) < l.length:=by omega
   have rj:g.rd1 b j=some (.int .i64 (l.getD j 0)):=by rw [rd1_of a,intsV_get _ _ hjl]
   obtain ⟨u,hu⟩:∃ u,u=l.getD j 0:=⟨_,rfl⟩
   rw [← hu] at rj
   have hlu:l[j]=u:=by rw [hu];simp [List.getD,hjl]
   have z2:IntKind.i64.wrap ((j:Int)+1)=((j+1:Nat):Int):=by rw [wi64 (by omega) (by omega)];omega
   by_cases cu:v=u
   ·simp [l81_0,e8,e7,hjl,hjl',e0,rj,e1,cu]
    exact .inr ⟨rfl,by rw [← hlu];exact List.getElem_mem _,rfl,j,hjl,by simp⟩
   ·simp [l81_0,e8,e7,hjl,hjl',e0,rj,e1,cu,z2,-Int.natCast_add]
    refine ⟨m - 1,by omega,by omega,?_⟩
    rw [show l.length - (m - 1)=j+1 by omega]
    refine ⟨rfl,?_,by simp [e0],by simp [e1],by simp [e7],by simp⟩
    rw [List.take_add_one,List.mem_append,List.getElem?_eq_getElem hjl,hlu]
    rintro (h | h)
    ·exact no h
    ·simp at h;exact cu h
 ·rintro ⟨sx,se,sh⟩ (⟨h1',h2,xx⟩ | ⟨h1',h2,xx,i,hi,e4⟩)
  ·simp only at h1'
   subst h1'
   simp
   exact ⟨⟨_,rfl,by decide,by decide,by simp [h2]⟩,xx⟩
  ·simp only at h1' e4
   subst h1'
   simp [e4]
   exact ⟨⟨_,rfl,by omega,by omega,by simp [h2]⟩,xx⟩
theorem contains70_ok {h:H} {b:Nat} {l:List Int} {t:TypeId} {ro:Bool} (a:h.get b=some (.cells (intsV l) t ro)) (k:Cap) (hl:l.length < 1000) (v:Int) :
  RT (fun w h'=>w=.bool (decide (v ∈ l))∧h'=h) (KW 70 [.sl b 0 l.length k,.int .i64 v] h):=by
 obtain ⟨w,h2,a2,⟨i,rfl,i1,i2,i3⟩,rfl⟩:=(index81_ok a k hl v).elim
 rw [w70,f70,s70]
 simp [a2]
 exact ⟨by simp [i3],rfl⟩
instance (n:Int):Decidable (sideB n):=inferInstanceAs (Decidable (_∨_))
theorem sides_of (h:H) (n:Int):RT (fun w h'=>w=.bool (decide (sideB n))∧Ext h h') (KW 70 [.sl h.n 0 4 (.ex 4),.int .i64 n] (h.new (.cells [.int .i64 8,.int .i64 16,.int .i64 32,.int .i64 64] 3 false))):=by
 refine (contains70_ok (l:=[8,16,32,64]) (b:=h.n) (get_new_same) (.ex 4) (by decide) n).mono ?_
 rintro w h' ⟨rfl,rfl⟩
 exact ⟨by rw [V.bool.injEq,decide_eq_decide];simp [sideB],(Ext.refl h).new _⟩
@[simp] theorem bs4 (h:H) (t:Nat) (x y z w:V) (a b c d:Int):bs h t 4 [x,y,z,w] [(some (0,1),.int .i64 a),(some (1,1),.int .i64 b),(some (2,1),.int .i64 c),(some (3,1),.int .i64 d)]=some (.sl h.n 0 4 (.ex 4),h.new (.cells [.int .i64 a,.int .i64 b,.int .i64 c,.int .i64 d] t false)):=id rfl
theorem side39_ok (n:Int) (h:H):RT (fun w h'=>w=.bool (decide (sideB n))∧Ext h h') (KW 39 [.int .i64 n] h):=by
 obtain ⟨w,h1,a1,rfl,x1⟩:=(sides_of h n).elim
 rw [w39,f39,s39]
 simp [a1]
 exact ⟨rfl,x1⟩
theorem side55_ok (n:Int) (h:H):RT (fun w h'=>w=.bool (decide (sideB n))∧Ext h h') (KW 55 [.int .i64 n] h):=by
 obtain ⟨w,h1,a1,rfl,x1⟩:=(sides_of h n).elim
 rw [w55,f55,s55]
 simp [a1]
 exact ⟨rfl,x1⟩
def rowL (X Y:Int) (n:Nat):List (Int × Int):=(List.range n).map fun i=>(X+(i:Nat),Y)
def allL (X Y:Int) (c r:Nat):List (Int × Int):=(List.range r).flatMap fun j=>rowL X (Y+(j:Nat)) c
theorem rowL_succ (X Y:Int) (n:Nat):rowL X Y (n+1)=rowL X Y n ++ [(X+(n:Nat),Y)]:=by simp [rowL,List.range_succ]
theorem allL_succ (X Y:Int) (c r:Nat):allL X Y c (r+1)=allL X Y c r ++ rowL X (Y+(r:Nat)) c:=by simp [allL,List.range_succ]
theorem rowL_len (X Y:Int) (n:Nat):(rowL X Y n).length=n:=by simp [rowL]
theorem allL_len (X Y:Int) (c:Nat):∀ r,(allL X Y c r).length=r*c
 | 0=>by simp [allL]
 | r+1=>by rw [allL_succ,List.length_append,allL_len X Y c r,rowL_len,Nat.succ_mul]
theorem mem_allL {X Y:Int} {c r:Nat} {p:Int × Int}:p ∈ allL X Y c r ↔ ∃ i j:Nat,i < c∧j < r∧p=(X+i,Y+j):=by
 unfold allL rowL
 simp only [List.mem_flatMap,List.mem_range,List.mem_map]
 constructor
 ·rintro ⟨j,hj,i,hi,rfl⟩;exact ⟨i,j,hi,hj,rfl⟩
 ·rintro ⟨i,j,hi,hj,rfl⟩;exact ⟨j,hj,i,hi,rfl⟩
theorem rowL_nodup (X Y:Int) (n:Nat):(rowL X Y n).Nodup:=by
 unfold rowL
 rw [List.nodup_iff_pairwise_ne,List.pairwise_map]
 refine List.Pairwise.imp ?_ (List.nodup_range (n:=n))
 intro a b hab e
 simp only [Prod.mk.injEq] at e
 omega
theorem allL_nodup (X Y:Int) (c:Nat):∀ r,(allL X Y c r).Nodup
 | 0=>by simp [allL]
 | r+1=>by
  rw [allL_succ,List.nodup_append]
  refine ⟨allL_nodup X Y c r,rowL_nodup _ _ _,?_⟩
  intro p hp q hq e
  subst e
  obtain ⟨i,j,_,hj,rfl⟩:=mem_allL.1 hp
  unfold rowL at hq
  simp only [List.mem_map,List.mem_range,Prod.mk.injEq] at hq
  obtain ⟨k,_,_,h2⟩:=hq
  omega
def cellsB (b:Bk):List (Int × Int):=allL (b.x / 8) (b.y / 8) (b.w / 8).toNat (b.h / 8).toNat
def putP (G:Gr) (b:Bk):Gr × Int :=
 if inT b.x b.y∧inT (b.x+b.w - 1) (b.y+b.h - 1) then
  if ∀ p ∈ cellsB b,findN p G.cs=none then (⟨G.bs ++ [b],G.cs ++ (cellsB b).map fun p=>(p,G.bs.length)⟩,0) else (G,2)
 else (G,2)
theorem findN_append (k:Int × Int):∀ (l m:List ((Int × Int) × Nat)),findN k (l ++ m)=match findN k l with | some n=>some n | none=>findN k m
 | [],m=>rfl
 | (a,n) :: l,m=>by
  simp only [List.cons_append,findN]
  by_cases e:k=a
  ·simp only [e,if_true]
  ·simp only [e,if_false];exact findN_append k l m
theorem findN_none {k:Int × Int}:∀ {l:List ((Int × Int) × Nat)},(∀ e ∈ l,e.1 ≠ k)→findN k l=none
 | [],_=>rfl
 | (a,n) :: l,h=>by
  unfold findN
  rw [if_neg (fun e=>h (a,n) (List.mem_cons_self ..) e.symm)]
  exact findN_none fun e he=>h e (List.mem_cons_of_mem _ he)
theorem up_ent {h:H} {m:Nat} {l:List ((Int × Int) × Nat)} (hm:h.get m=some (.map (l.map entV))) {x y:Int} (hn:findN (x,y) l=none) (n:Nat) :
  upM [.i .i64,.i .i64] h (.map m) (.agg [.int .i64 x,.int .i64 y]) (.int .i64 (n:Nat))=some (.und,h.put m (.map ((l ++ [((x,y),n)]).map entV))):=by
 obtain ⟨j,hj⟩:=findI_ent x y l 0
 have h1:okLs [.i .i64,.i .i64] [V.int .i64 x,.int .i64 y]=true:=rfl
 rw [hn] at hj
 simp only [upM,h1,if_true,hm,hj,Option.map_none,Option.bind_some,List.map_append,List.map_cons,List.map_nil,entV]
end Go.Proofs.Ytbkmdnmncaakdaa
