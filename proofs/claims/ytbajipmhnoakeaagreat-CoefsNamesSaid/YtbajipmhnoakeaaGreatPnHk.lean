import Derived.Test.YtbajipmhnoakeaaGreatPnHi
set_option linter.unusedVariables false
set_option linter.unusedSimpArgs false
set_option maxRecDepth 20000
namespace Go.Proofs.YtbajipmhnoakeaaGreat
open Go Go.Zf Go.RowKit Go.WideShapes
open Go.Zf (wi64)
theorem copyIntsG_ok {h:H} {v:V} {l:List Int} (hl:l.length*8≤140737488351232) (hf:firstV h 1 l.length v=some (intsV l)) (hln:lenOf v=some l.length) :
  RT (fun w h'=>Ext h h'∧GrowV h.n h' w 3 1 (intsV l) l.length) (KW 10 [v] h):=by
 rw [w10,f10,s10]
 obtain ⟨v',h',k1,k2,k3,k4,k5⟩:=apZ_grow (p:=h.n) (bytes:=8) (GrowV.nil h.n h 3 1) (Nat.le_refl _) hln hf (by simp [intsV]) (by omega)
 simp [k1]
 exact ⟨⟨k3,fun c hc=>k4 c hc (fun _ _ _ e=>by cases e)⟩,by simpa using k2⟩
theorem eqIntsG_ok {X Y:Nat→Prop} {h:H} {va vb:V} {la lb:List Int} (a:IntsX X h va la) (b:IntsX Y h vb lb) (hl:la.length < 4611686018427387904):KW 13 [va,vb] h=some (.ret (.bool (decide (la=lb))),h):=by
 have sa:=a.len
 have sb:=b.len
 rw [w13,f13,s13]
 by_cases hlen:la.length=lb.length
 ·simp [sa,sb,hlen]
  refine loop_in (C:=fun x=>fin Tryz.prog _ _ (sq (blk 0 x) _)=_) (fun j e g=>j≤la.length∧g=h∧e.s [0,1,4,5] 0=va∧e.s [0,1,4,5] 1=vb∧e.s [0,1,4,5] 5=.int .i64 ((la.length - j:Nat):Int)∧la.take (la.length - j)=lb.take (la.length - j))
   (fun st=>st.h=h∧((st.x=.ex 0∧la=lb)∨(st.x=.rt∧la ≠ lb∧st.e.s [0,1,4,5] 4=.bool false))) ?_ la.length ⟨Nat.le_refl _,rfl,by simp,by simp,by simp,by simp⟩ ?_
  ·rintro j e g ⟨hj,rfl,e0,e1,e5,hp⟩
   cases j with
   | zero =>
    rw [Nat.sub_zero] at e5 hp
    rw [List.take_length,hlen,List.take_length] at hp
    simp [l13_0,e0,e5,sa]
    exact ⟨rfl,.inl ⟨rfl,hp⟩⟩
   | succ j =>
    obtain ⟨i,hi⟩:∃ i,i=la.length - (j+1):=⟨_,rfl⟩
    rw [← hi] at e5 hp
    have hil:i < la.length:=by omega
    have hil2:i < lb.length:=by omega
    obtain ⟨b1,o1,t1,t2,_,_⟩:=a.at_ i _ (List.getElem?_eq_getElem hil)
    obtain ⟨b2,o2,t3,t4,_,_⟩:=b.at_ i _ (List.getElem?_eq_getElem hil2)
    have z1:IntKind.i64.wrap ((i:Int)+1)=((i+1:Nat):Int):=by rw [wi64 (by omega) (by omega)];omega
    have hil':(i:Int) < la.length:=by omega
    by_cases hc:la[i]=lb[i]
    ·simp [l13_0,e0,e1,e5,sa,hil',t1,t2,t3,t4,hc,z1,-Int.natCast_add,hil]
     refine ⟨j,by omega,by omega,rfl,by simp [e0],by simp [e1],by simp [show la.length - j=i+1 by omega],?_⟩
     rw [show la.length - j=i+1 by omega,List.take_add_one,List.take_add_one,hp,List.getElem?_eq_getElem hil,List.getElem?_eq_getElem hil2,hc]
    ·simp [l13_0,e0,e1,e5,sa,hil',t1,t2,t3,t4,hc,z1,-Int.natCast_add,hil]
     refine ⟨rfl,.inr ⟨rfl,fun he=>?_,by simp⟩⟩
     subst he;exact hc rfl
  ·rintro ⟨sx,se,sh⟩ ⟨h1,h2 | h2⟩
   ·obtain ⟨h2,h3⟩:=h2
    simp only at h1 h2
    subst h1 h2
    simp [h3]
   ·obtain ⟨h2,h3,h4⟩:=h2
    simp only at h1 h2 h4
    subst h1 h2
    simp [h3,h4]
 ·have hne:¬ la=lb:=fun h=>hlen (by rw [h])
  simp [sa,sb,hlen,hne,show ¬ (la.length:Int)=lb.length by omega]
abbrev K3:List Nat:=[0,1,4,5,6,7,8,9,10,11,12,13,14,15,16,17,19,21]
structure F3 (v:V) (c r i A:Nat) (w:V) (e:E):Prop where
 e0:e.s K3 0=v
 e5:e.s K3 5=.ptr c 0
 e7:e.s K3 7=.ptr r 0
 e9:e.s K3 9=.int .i64 (i:Nat)
 e10:e.s K3 10=.ptr A 0
 e11:e.s K3 11=w
structure Bump (L:Nat) (g g':H):Prop where
 n:g'.n=g.n
 get:∀ b,b ≠ L→g'.get b=g.get b
structure IB (v:V) (c r i A:Nat) (w:V) (g0:H) (L N:Nat) (w1:V) (j:Nat) (e:E) (g:H):Prop where
 hj:j≤N
 f:F3 v c r i A w e
 b:Bump L g0 g
 l:(w1=.nils∧N=0)∨(w1=.sl L 0 N (.ex N)∧∃ l:List Int,l.length=N∧g.get L=some (.cells (intsV l) 3 false))
 e12:e.s K3 12=w1
 e16:e.s K3 16=.int .i64 ((N - j:Nat):Int)
theorem loop30 {v:V} {c r i A:Nat} {w:V} {g0:H} {L N:Nat} {w1:V} (hN:N≤1024) {e:E} {g:H} {o:Out} (ho:loopZ (l3_0 KW loopZ) e g=o) (hi:IB v c r i A w g0 L N w1 N e g) :
  ∃ e' g',o=some ⟨.ex 2,e',g'⟩∧F3 v c r i A w e'∧Bump L g0 g':=by
 have loop:=loop_run (body:=l3_0 KW loopZ) (IB v c r i A w g0 L N w1) (fun st=>st.x=.ex 2∧F3 v c r i A w st.e∧Bump L g0 st.h) (fun j e g hi=>by
  obtain ⟨hj,⟨e0,e5,e7,e9,e10,e11⟩,⟨bn,bg⟩,hl,e12,e16⟩:=hi
  cases j with
  | zero =>
   rw [Nat.sub_zero] at e16
   rcases hl with ⟨rfl,rfl⟩ | ⟨rfl,l,h1,h2⟩
   ·simp [l3_0,e12,e16]
    exact ⟨rfl,⟨by simp [e0],by simp [e5],by simp [e7],by simp [e9],by simp [e10],by simp [e11]⟩,bn,bg⟩
   ·simp [l3_0,e12,e16]
    exact ⟨rfl,⟨by simp [e0],by simp [e5],by simp [e7],by simp [e9],by simp [e10],by simp [e11]⟩,bn,bg⟩
  | succ j =>
   obtain ⟨k,hk⟩:∃ k,k=N - (j+1):=⟨_,rfl⟩
   rw [← hk] at e16
   rcases hl with ⟨rfl,h0⟩ | ⟨rfl,l,h1,h2⟩
   ·omega
   have hkl:k < l.length:=by omega
   have hkN:k < N:=by omega
   have q:g.rd1 L k=some (.int .i64 (l.getD k 0)):=by rw [rd1_of h2,intsV_get _ _ hkl]
   obtain ⟨y,hy⟩:∃ y,y=l.getD k 0:=⟨_,rfl⟩
   rw [← hy] at q
   obtain ⟨z,hz⟩:∃ z,z=IntKind.i64.wrap (y+1):=⟨_,rfl⟩
   obtain ⟨g1,hg1⟩:∃ g1,g1=g.put L (.cells ((intsV l).set k (.int .i64 z)) 3 false):=⟨_,rfl⟩
   have qw:g.wr1 L k (.int .i64 z)=some g1:=by rw [wr1_of h2 (by rw [intsV_length];exact hkl),hg1]
   have z1:IntKind.i64.wrap ((k:Int)+1)=((k+1:Nat):Int):=by rw [wi64 (by omega) (by omega)];omega
   simp [l3_0,e12,e16,show (k:Int) < N by omega,hkN,q,← hz,qw,z1,-Int.natCast_add]
   refine ⟨j,by omega,by omega,⟨by simp [e0],by simp [e5],by simp [e7],by simp [e9],by simp [e10],by simp [e11]⟩,⟨by rw [hg1,H.n_put,bn],fun b hb=>by rw [hg1,get_put_ne hb,bg b hb]⟩,.inr ⟨rfl,l.set k z,by simp [h1],?_⟩,by simp [e12],by simp [show N - j=k+1 by omega]⟩
   rw [hg1,get_put_same (H.get_lt h2)];simp [intsV,List.map_set]) N e g hi
 obtain ⟨⟨sx,se,sh⟩,h1,h2,h3,h4⟩:=loop
 simp only at h2 h3 h4
 subst h2
 exact ⟨se,sh,by rw [← ho,h1],h3,h4⟩
end Go.Proofs.YtbajipmhnoakeaaGreat
