import Derived.Test.YtbajipmhnoakeaaGreatPnHq
set_option linter.unusedVariables false
set_option linter.unusedSimpArgs false
set_option maxRecDepth 20000
namespace Go.Proofs.YtbajipmhnoakeaaGreat
open Go Go.Zf Go.RowKit Go.WideShapes
open Go.Zf (wi64)
def WV (h:H) (v:V) (l:List Int):Prop:=IntsX (fun _=>False) h v l∧firstV h 1 l.length v=some (intsV l)∧lenOf v=some l.length∧l.length*8≤140737488351232
theorem wv_nil (h:H):WV h .nils []:=⟨IntsX.nil' _ _,rfl,rfl,by decide⟩
theorem wv_sl {h:H} {b:Nat} {l r:List Int} {k:Cap} (hb:h.get b=some (.cells (intsV (l ++ r)) 3 false)) (hl:l.length < 1000):WV h (.sl b 0 l.length k) l:=by
 refine ⟨⟨rfl,fun i x hi=>?_,rfl,by simp [V.same],rfl⟩,?_,rfl,by omega⟩
 ·have hlt:=lt_of_get hi
  refine ⟨b,i,by simp [hlt],?_,fun h=>h,H.get_lt hb⟩
  rw [rd1_of hb,intsV_get _ _ (by simp;omega)]
  simp [List.getD,List.getElem?_append_left hlt,hi]
 ·simp only [firstV]
  rw [rdN_of hb (by rw [intsV_length];simp),intsV_append]
  simp [intsV]
theorem WV.ext {h h':H} {v:V} {l:List Int} (a:WV h v l) (x:Ext h h'):WV h' v l :=
 ⟨a.1.keep0 x fun _ _ h=>h,firstV_ext x a.2.1,a.2.2⟩
def dCells:List (Dg × V)→List V
 | []=>[]
 | (d,v) :: r=>.int .i64 d.s :: .int .i64 d.p :: .int .i64 d.q :: v :: dCells r
theorem dCells_len:∀ l,(dCells l).length=l.length*4
 | []=>rfl
 | (d,v) :: r=>by simp [dCells,dCells_len r];omega
theorem dCells_at:∀ (l:List (Dg × V)) (j:Nat) (d:Dg) (v:V),l[j]?=some (d,v)→((dCells l).drop (j*4)).take 4=[.int .i64 d.s,.int .i64 d.p,.int .i64 d.q,v]
 | [],j,d,v,h=>by simp at h
 | (d',v') :: r,0,d,v,h=>by simp at h;obtain ⟨rfl,rfl⟩:=h;simp [dCells]
 | (d',v') :: r,j+1,d,v,h=>by
  simp at h
  have:=dCells_at r j d v h
  rw [show (j+1)*4=j*4+1+1+1+1 by omega]
  simpa [dCells] using this
theorem slA_of {h:H} {b:Nat} {l:List (Dg × V)} (hb:h.get b=some (.cells (dCells l) 36 false)) (hl:l.length < 1000) (hp:∀ p ∈ l,WV h p.2 p.1.l) :
  SlA h 4 (.sl b 0 l.length (.ex l.length)) (l.map (·.1)).length fun j p=>∀ x,(l.map (·.1))[j]?=some x→DoW h p x:=by
 rw [List.length_map]
 refine ⟨by simp only [maxLen];omega,.inr ⟨b,l.length,rfl,Nat.le_refl _,by simp only [maxLen];omega,.inr ⟨_,(36,false),hb,by rw [dCells_len];omega,fun j hj x hx=>?_⟩⟩⟩
 rw [List.getElem?_map,List.getElem?_eq_getElem hj] at hx
 simp at hx
 rw [dCells_at l j l[j].1 l[j].2 (by rw [List.getElem?_eq_getElem hj]),hx]
 have:=hp _ (List.getElem_mem hj)
 rw [hx] at this
 exact ⟨_,rfl,this.1,this.2.1,this.2.2.1,this.2.2.2⟩
theorem DoW.g {h:H} {p:List V} {x:Dg} (a:DoW h p x):DoG h p x:=by
 obtain ⟨v,h1,h2,_⟩:=a
 exact ⟨v,h1,h2⟩
def three:List Int:=3 :: List.replicate 15 0
def c0:Option (List Int) × St:=(codeP (bdOf 4 0 0 z16 true)).exec (newW defS true)
def c1:Option (List Int) × St:=(codeP (bdOf 4 0 0 three true)).exec c0.2
theorem c0_1:c0.1=some z16:=by kernel_rfl
theorem c0_n:c0.2.n=1:=by kernel_rfl
theorem c0_w:c0.2.sd.writes=true:=by kernel_rfl
theorem c1_1:c1.1=some three:=by kernel_rfl
theorem c1_n:c1.2.n=6:=by kernel_rfl
abbrev KNm:List Nat:=[0,1,3,4,5,6,7,8,9,10,11,12,13,14,15,16]
structure IN (h0:H) (T:V) (j:Nat) (e:E) (g:H):Prop where
 hj:j≤4
 x:Ext h0 g
 e6:e.s KNm 6=T
 e13:e.s KNm 13=.int .i64 ((23 - j:Nat):Int)
theorem loopNm {h0:H} {T:V} {e:E} {g:H} {o:Out} (ho:loopZ (l5_0 KW loopZ) e g=o) (hi:IN h0 T 4 e g) :
  ∃ e' g',o=some ⟨.ex 0,e',g'⟩∧Ext h0 g'∧e'.s KNm 6=T:=by
 have loop:=loop_run (body:=l5_0 KW loopZ) (IN h0 T) (fun s=>s.x=.ex 0∧Ext h0 s.h∧s.e.s KNm 6=T) (fun j e g hi=>by
  obtain ⟨hj,x,e6,e13⟩:=hi
  cases j with
  | zero =>
   rw [Nat.sub_zero] at e13
   simp [l5_0,e13]
   exact ⟨rfl,x,by simp [e6]⟩
  | succ j =>
   obtain ⟨k,hk⟩:∃ k,k=23 - (j+1):=⟨_,rfl⟩
   rw [← hk] at e13
   obtain ⟨w,g1,a1,rfl,x1⟩:=(lengths25_ok (h:=g) (n:=k) (by omega)).elim
   have z1:IntKind.i64.wrap ((k:Int)+1)=((k+1:Nat):Int):=by rw [wi64 (by omega) (by omega)];omega
   simp [l5_0,e13,show (k:Int) < 23 by omega,show k < 23 by omega,a1,z1,-Int.natCast_add]
   exact ⟨j,by omega,by omega,x.trans x1,by simp [e6],by simp [show 23 - j=k+1 by omega]⟩) 4 e g hi
 obtain ⟨⟨sx,se,sh⟩,h1,h2,h3,h4⟩:=loop
 simp only at h2 h3 h4
 subst h2
 exact ⟨se,sh,by rw [← ho,h1],h3,h4⟩
end Go.Proofs.YtbajipmhnoakeaaGreat
