import Derived.Test.YtbkmdnmncaakdaaGreatPbZTool
import Derived.Test.YtbkmdnmncaakdaaGreatPbZArg
import Derived.SizedLaws
import Derived.RowKit
set_option linter.unusedVariables false
set_option linter.unusedSimpArgs false
namespace Go.Zf
open Go.ChangeShapes Go.WideShapes Go.Deep
def bytesV (l:List Nat):List V:=l.map fun x=>.int .u8 (x:Nat)
theorem bytesV_length (l:List Nat):(bytesV l).length=l.length:=by simp [bytesV]
theorem bytesV_append (l m:List Nat):bytesV (l ++ m)=bytesV l ++ bytesV m:=by simp [bytesV]
theorem bytesV_get (l:List Nat) (i:Nat) (h:i < l.length):(bytesV l)[i]?=some (.int .u8 (l.getD i 0:Nat)):=by simp [bytesV,h]
structure ByAt (h:H) (v:V) (l:List Nat):Prop where
 len:lnS v=some (.int .i64 l.length)
 lt:∀ i:Nat,i < l.length→l.getD i 0 < 256
 at_:∀ i:Nat,i < l.length→∃ b o,iaS 1 v (.int .i64 i)=some (.ptr b o)∧h.rd1 b o=some (.int .u8 (l.getD i 0:Nat))∧b < h.n
 cell:v.isCell=true
 cells:V.cells v=some [v]
 same:V.same v v=true
 ln:lenOf v=some l.length
 first:firstV h 1 l.length v=some (bytesV l)
theorem rdN_ext {h h':H} (x:Ext h h') {b o n:Nat} {l:List V} (e:h.rdN b o n=some l):h'.rdN b o n=some l:=by
 unfold H.rdN at e ⊢
 cases hb:h.get b with
 | none=>rw [hb] at e;cases e
 | some k=>rw [x.get b (H.get_lt hb),hb];rw [hb] at e;exact e
theorem firstV_ext {h h':H} (x:Ext h h') {v:V} {z n:Nat} {l:List V} (e:firstV h z n v=some l):firstV h' z n v=some l:=by
 unfold firstV at e ⊢
 split at e
 ·exact e
 ·exact rdN_ext x e
 ·exact e
 ·cases e
theorem ByAt.ext {h h':H} {v:V} {l:List Nat} (a:ByAt h v l) (x:Ext h h'):ByAt h' v l :=
 ⟨a.len,a.lt,fun i hi=>by
   obtain ⟨b,o,h1,h2,h3⟩:=a.at_ i hi
   exact ⟨b,o,h1,by rw [← h2];unfold H.rd1;rw [x.get b h3],Nat.lt_of_lt_of_le h3 x.n⟩,a.cell,a.cells,a.same,a.ln,firstV_ext x a.first⟩
theorem ByAt.stZ {h:H} {v:V} {l:List Nat} (a:ByAt h v l) (g:H) (b o:Nat):stZ 1 g (.ptr b o) v=(g.wr1 b o v).bind fun h'=>some (.und,h'):=stZ_one g b o v a.cell
theorem ByAt.nil (h:H):ByAt h .nils []:=⟨rfl,fun i hi=>by simp at hi,fun i hi=>by simp at hi,rfl,rfl,rfl,rfl,rfl⟩
theorem ByAt.of {h:H} {b:Nat} {l:List Nat} {k:Cap} {t:TypeId} {ro:Bool} (hb:h.get b=some (.cells (bytesV l) t ro)) (hl:∀ i:Nat,i < l.length→l.getD i 0 < 256):ByAt h (.sl b 0 l.length k) l :=
 ⟨rfl,hl,fun i hi=>⟨b,i,by simp [hi],by rw [rd1_of hb,bytesV_get l i hi],H.get_lt hb⟩,rfl,rfl,by simp [V.same],rfl,by
  unfold firstV;simp only [Nat.mul_one];rw [rdN_of hb (by rw [bytesV_length];omega)];simp [List.take_of_length_le,bytesV_length]⟩
def Fresh (p:Nat) (v:V):Prop:=∀ c o n k,v=.sl c o n k→p≤c
theorem Fresh.nils (p:Nat):Fresh p .nils:=fun c o n k e=>by cases e
theorem Fresh.sl {p b o n:Nat} {k:Cap} (h:p≤b):Fresh p (.sl b o n k):=fun c o n k e=>by cases e;exact h
theorem Fresh.ne {p c:Nat} {v:V} (a:Fresh p v) (hc:c < p):∀ o n k,v ≠ .sl c o n k:=fun o n k e=>by have:=a _ _ _ _ e;omega
theorem iaS_ptr {s:Nat} {v i:V} {b o:Nat} (h:iaS s v i=some (.ptr b o)):∃ o' n k,v=.sl b o' n k:=by
 unfold iaS at h
 split at h
 ·split at h
  ·cases h;exact ⟨_,_,_,rfl⟩
  ·cases h
 ·cases h
theorem ByAt.put {h:H} {v:V} {l:List Nat} (a:ByAt h v l) {c:Nat} (y:Blk) (hc:∀ o n k,v ≠ .sl c o n k):ByAt (h.put c y) v l :=
 ⟨a.len,a.lt,fun i hi=>by
  obtain ⟨b,o,h1,h2,h3⟩:=a.at_ i hi
  obtain ⟨o',n,k,e⟩:=iaS_ptr h1
  exact ⟨b,o,h1,by rw [← h2];unfold H.rd1;rw [get_put_ne (by rintro rfl;exact hc _ _ _ e)],h3⟩,a.cell,a.cells,a.same,a.ln,by
  have:=a.first
  unfold firstV at this ⊢
  split at this
  ·exact this
  ·rename_i b o n k
   unfold H.rdN at this ⊢
   rw [get_put_ne (by rintro rfl;exact hc _ _ _ rfl)];exact this
  ·exact this
  ·cases this⟩
def GrowV (p:Nat) (h:H) (v:V) (t z:Nat) (cs:List V) (n:Nat):Prop :=
 (v=.nils∧n=0∧cs=[])∨∃ b,v=.sl b 0 n (.op z)∧h.get b=some (.cells cs t false)∧cs.length=n*z∧p≤b
theorem GrowV.nil (p:Nat) (h:H) (t z:Nat):GrowV p h .nils t z [] 0:=.inl ⟨rfl,rfl,rfl⟩
theorem GrowV.ext {p:Nat} {h h':H} {v:V} {t z:Nat} {cs:List V} {n:Nat} (a:GrowV p h v t z cs n) (x:Ext h h'):GrowV p h' v t z cs n:=by
 rcases a with a | ⟨b,h1,h2,h3,h4⟩
 ·exact .inl a
 ·exact .inr ⟨b,h1,by rw [x.get b (H.get_lt h2),h2],h3,h4⟩
theorem GrowV.put {p:Nat} {h:H} {v:V} {t z:Nat} {cs:List V} {n:Nat} (a:GrowV p h v t z cs n) {c:Nat} {y:Blk} (hc:∀ o n k,v ≠ .sl c o n k):GrowV p (h.put c y) v t z cs n:=by
 rcases a with a | ⟨b,h1,h2,h3,h4⟩
 ·exact .inl a
 ·exact .inr ⟨b,h1,by rw [get_put_ne (by rintro rfl;exact hc _ _ _ h1),h2],h3,h4⟩
theorem GrowV.len {p:Nat} {h:H} {v:V} {t z:Nat} {cs:List V} {n:Nat} (a:GrowV p h v t z cs n):lnS v=some (.int .i64 n):=by
 rcases a with ⟨rfl,rfl,_⟩ | ⟨b,rfl,_⟩ <;> simp
theorem GrowV.cell {p:Nat} {h:H} {v:V} {t z:Nat} {cs:List V} {n:Nat} (a:GrowV p h v t z cs n):v.isCell=true:=by
 rcases a with ⟨rfl,rfl,_⟩ | ⟨b,rfl,_⟩ <;> rfl
theorem GrowV.same {p:Nat} {h:H} {v:V} {t z:Nat} {cs:List V} {n:Nat} (a:GrowV p h v t z cs n):V.same v v=true:=by
 rcases a with ⟨rfl,rfl,_⟩ | ⟨b,rfl,_⟩ <;> simp [V.same]
theorem GrowV.cells {p:Nat} {h:H} {v:V} {t z:Nat} {cs:List V} {n:Nat} (a:GrowV p h v t z cs n):V.cells v=some [v]:=by
 rcases a with ⟨rfl,rfl,_⟩ | ⟨b,rfl,_⟩ <;> rfl
theorem GrowV.stZ {p:Nat} {h:H} {v:V} {t z:Nat} {cs:List V} {n:Nat} (a:GrowV p h v t z cs n) (g:H) (b o:Nat):stZ 1 g (.ptr b o) v=(g.wr1 b o v).bind fun h'=>some (.und,h'):=stZ_one g b o v a.cell
theorem GrowV.by {p:Nat} {h:H} {v:V} {t:Nat} {l:List Nat} {n:Nat} (a:GrowV p h v t 1 (bytesV l) n) (hl:∀ i:Nat,i < l.length→l.getD i 0 < 256):ByAt h v l:=by
 rcases a with ⟨rfl,rfl,h3⟩ | ⟨b,rfl,h2,h3,_⟩
 ·have:l=[]:=by cases l with
   | nil=>rfl
   | cons x l=>simp [bytesV] at h3
  subst this;exact ByAt.nil h
 ·rw [bytesV_length,Nat.mul_one] at h3;subst h3;exact ByAt.of h2 hl
theorem GrowV.fresh {p:Nat} {h:H} {v:V} {t z:Nat} {cs:List V} {n:Nat} (a:GrowV p h v t z cs n):Fresh p v:=by
 rcases a with ⟨rfl,_⟩ | ⟨b,rfl,_,_,hb⟩
 ·exact Fresh.nils _
 ·exact Fresh.sl hb
theorem GrowV.under {p:Nat} {h:H} {v:V} {t z:Nat} {cs:List V} {n:Nat} (a:GrowV p h v t z cs n):∀ c o m k,v=.sl c o m k→c < h.n:=by
 rcases a with ⟨rfl,_⟩ | ⟨b,rfl,hb,_,_⟩
 ·intro c o m k e;cases e
 ·intro c o m k e;cases e;exact H.get_lt hb
theorem GrowV.keep {p:Nat} {h h':H} {v:V} {t z:Nat} {cs:List V} {n:Nat} (a:GrowV p h v t z cs n) (hk:∀ c o m k,v=.sl c o m k→h'.get c=h.get c):GrowV p h' v t z cs n:=by
 rcases a with a | ⟨b,h1,h2,h3,h4⟩
 ·exact .inl a
 ·exact .inr ⟨b,h1,by rw [hk _ _ _ _ h1,h2],h3,h4⟩
theorem apZ_grow {p e z bytes:Nat} {h:H} {v y:V} {cs new:List V} {n m:Nat} (g:GrowV p h v e z cs n) (hp:p≤h.n) (hl:lenOf y=some m) (hf:firstV h z m y=some new) (hn:new.length=m*z) (hb:(n+m)*bytes≤140737488355328) :
  ∃ v' h',apZ e z bytes h v y=some (v',h')∧GrowV p h' v' e z (cs ++ new) (n+m)∧h.n≤h'.n∧(∀ c,c < h.n→(∀ o n k,v ≠ .sl c o n k)→h'.get c=h.get c)∧((v'=v∧h'=h)∨∀ c o n k,v'=.sl c o n k→h.n≤c):=by
 rcases g with ⟨rfl,rfl,rfl⟩ | ⟨b,rfl,h2,h3,h4⟩
 ·by_cases hm:m=0
  ·subst hm
   have:new=[]:=by cases new with
    | nil=>rfl
    | cons x l=>simp at hn
   subst this
   exact ⟨.nils,h,by simp [apZ,hl,hf,apN],.inl ⟨rfl,rfl,rfl⟩,Nat.le_refl _,fun _ _ _=>rfl,.inl ⟨rfl,rfl⟩⟩
  ·have hb':m*bytes≤140737488355328:=by simpa using hb
   refine ⟨.sl h.n 0 m (.op z),h.new (.cells new e false),by simp [apZ,hl,hf,apN,hm,hb'],.inr ⟨h.n,by simp,by rw [get_new_same];simp,by simpa using hn,hp⟩,by rw [H.n_new];omega,fun c hc _=>get_new_lt hc,.inr fun c o n k e=>by cases e;exact Nat.le_refl _⟩
 ·have hbl:=H.get_lt h2
  by_cases hm:m=0
  ·subst hm
   have:new=[]:=by cases new with
    | nil=>rfl
    | cons x l=>simp at hn
   subst this
   exact ⟨.sl b 0 n (.op z),h,by simp [apZ,hl,hf,apN],.inr ⟨b,by simp,by simpa using h2,by simpa using h3,h4⟩,Nat.le_refl _,fun _ _ _=>rfl,.inl ⟨rfl,rfl⟩⟩
  ·refine ⟨.sl h.n 0 (n+m) (.op z),(h.put b .dead).new (.cells (cs ++ new) e false),?_,.inr ⟨h.n,rfl,get_new_eq (by rw [H.n_put]),by rw [List.length_append,h3,hn,Nat.add_mul],hp⟩,by rw [H.n_new,H.n_put];omega,fun c hc hv=>?_,.inr fun c o n k e=>by cases e;exact Nat.le_refl _⟩
   ·simp [apZ,hl,hf,apN,hm,hb,h2,h3,List.take_of_length_le]
   ·rw [get_new_lt (by rw [H.n_put];exact hc),get_put_ne (by rintro rfl;exact hv _ _ _ rfl)]
def intsV (l:List Int):List V:=l.map fun x=>.int .i64 x
theorem intsV_get (l:List Int) (i:Nat) (h:i < l.length):(intsV l)[i]?=some (.int .i64 (l.getD i 0)):=by simp [intsV,h]
theorem GrowV.at {p:Nat} {h:H} {v:V} {t n:Nat} {cs:List V} (a:GrowV p h v t 1 cs n) {i:Nat} (hi:i < n) {x:V} (hx:cs[i]?=some x):∃ b o,iaS 1 v (.int .i64 i)=some (.ptr b o)∧h.rd1 b o=some x∧b < h.n:=by
 rcases a with ⟨rfl,rfl,_⟩ | ⟨b,rfl,h2,h3,_⟩
 ·omega
 ·exact ⟨b,i,by simp [hi],by rw [rd1_of h2,hx],H.get_lt h2⟩
end Go.Zf
