import Derived.Test.YtbkmdnmncaakdaaGreatPbHe
set_option linter.unusedVariables false
set_option linter.unusedSimpArgs false
set_option maxRecDepth 20000
namespace Go.Proofs.YtbkmdnmncaakdaaGreat
open Go Go.Zf
open Go.Zf (wi64)
open Pr (Rd)
theorem flat_dq:∀ (bs:List Dq),(bs.flatMap Dq.cs).length=bs.length*26∧∀ (n:Nat) (b:Dq),bs[n]?=some b→((bs.flatMap Dq.cs).drop (n*26)).take 26=b.cs
 | []=>⟨rfl,fun n b h=>by simp at h⟩
 | x :: bs=>by
  obtain ⟨i1,i2⟩:=flat_dq bs
  refine ⟨by rw [List.flatMap_cons,List.length_append,i1,dcs_len,List.length_cons];omega,fun n b h=>?_⟩
  rw [List.flatMap_cons]
  cases n with
  | zero=>simp at h;subst h;rw [Nat.zero_mul,List.drop_zero,List.take_left' (dcs_len x)]
  | succ n =>
   have e:(n+1)*26=26+n*26:=by omega
   rw [e,← List.drop_drop,List.drop_left' (dcs_len x)]
   exact i2 n b (by simpa using h)
theorem dos_of {p:Nat} {h:H} {dv:V} {dn:List Dq} (gv:GrowV p h dv 44 26 (dn.flatMap Dq.cs) dn.length):DosAt h dv dn:=by
 refine ⟨gv.len,fun i d hd=>?_⟩
 have hi:i < dn.length:=by
  rcases Nat.lt_or_ge i dn.length with h | h
  ·exact h
  ·rw [List.getElem?_eq_none h] at hd;cases hd
 rcases gv with ⟨rfl,h0,_⟩ | ⟨c,rfl,h2,h3,_⟩
 ·omega
 ·refine ⟨c,i*26,by simp [hi],?_⟩
  rw [rdN_of h2 (by rw [(flat_dq dn).1];omega),(flat_dq dn).2 _ _ hd]
def R0 (D0:Nat→Prop) (hS:H) (key ll:Bool) (r hg:Nat) (T:Sr) (nE:Int) (dn:List Dq) (i:Nat) (h:H):Prop :=
 ∃ st s G d1 d2 l2 Gend,dn=d1 ++ d2∧d1.length=i∧Duo D0 (fun _=>False) hS r hg (72*i) (mateS (bytes T.1 T.2.1) s st) G h∧st.sd=wS s∧SOk s∧Went key ll G d2 l2 Gend∧(st.run l2).sd=wS T∧G.bs.length≤i∧(st.run l2).n=nE
structure I1 (D0:Nat→Prop) (hS:H) (dv:V) (key ll:Bool) (w r hg:Nat) (T:Sr) (nE:Int) (dn:List Dq) (i:Nat) (e:E) (h:H):Prop where
 st:R0 D0 hS key ll r hg T nE dn i h
 e1:e.s K3 1=.bool key
 e2:e.s K3 2=.bool ll
 e7:e.s K3 7=.ptr w 0
 e11:e.s K3 11=.ptr hg 0
 e13:e.s K3 13=dv
 e23:e.s K3 23=.ptr r 0
 e24:e.s K3 24=.int .i64 (i:Nat)
theorem wS_inj {s t:Sr} (h:wS s=wS t):s=t:=by
 injection h with a b c
 exact Prod.ext a (Prod.ext b c)
theorem loop3r {D0:Nat→Prop} {hS:H} {dv:V} {dn:List Dq} {key ll:Bool} {w r hg:Nat} {T:Sr} {nE:Int} (hT:SOk T) (hn:dn.length≤60) (hL:∀ {h:H},Mod D0 hS h→DosAt h dv dn) :
  ∀ k e h,(k≤dn.length∧I1 D0 hS dv key ll w r hg T nE dn (dn.length - k) e h)→LS (fun k e h=>k≤dn.length∧I1 D0 hS dv key ll w r hg T nE dn (dn.length - k) e h) (fun s=>s.x=.ex 2∧I1 D0 hS dv key ll w r hg T nE dn dn.length s.e s.h) k (l3_1 KW loopZ e h):=by
 rintro k e h ⟨hk,st,e1,e2,e7,e11,e13,e23,e24⟩
 obtain ⟨i,hi⟩:∃ i,i=dn.length - k:=⟨_,rfl⟩
 rw [← hi] at st e24
 have st0:=st
 obtain ⟨st,s,G,d1,d2,l2,Gend,hdn,hd1,duo,sd,ok,wl,rT,gl,rn⟩:=st
 have hln:=(hL duo.md).len
 by_cases ci:i=dn.length
 ·have:¬ (i:Int) < (dn.length:Int):=by omega
  simp [l3_1,e13,hln,e24,this]
  rw [← ci]
  exact ⟨rfl,⟨st0,by simp [e1],by simp [e2],by simp [e7],by simp [e11],by simp [e13],by simp [e23],by simp [e24]⟩⟩
 have iN:i < dn.length:=by omega
 have h1:(i:Int) < (dn.length:Int):=by omega
 obtain ⟨d,d3,rfl⟩:∃ d d3,d2=d :: d3:=by
  cases d2 with
  | nil=>rw [hdn] at iN;simp at iN;omega
  | cons d d3=>exact ⟨d,d3,rfl⟩
 have hd:dn[i]?=some d:=by rw [hdn,List.getElem?_append_right (by omega),hd1];simp
 obtain ⟨l1,l3,G1,step,wl,rfl⟩:=wl
 obtain ⟨ab,ao,ia,ra⟩:=(hL duo.md).at_ i d hd
 have ki:dn.length - (k - 1)=i+1:=by omega
 have zi:IntKind.i64.wrap ((i:Int)+1)=((i+1:Nat):Int):=by rw [wi64 (by omega) (by omega)];omega
 -- what is read
 have nb:=duo.nb
 have so:SetOk st.S:=nb.2.2
 obtain ⟨s',hs',ok',wi'⟩:=run_within l1 sd ok so step.ok
 rw [run_app] at rT rn
 -- it is copied
 obtain ⟨g1,hg1⟩:∃ z,z=h.new (.cells d.cs 44 false):=⟨_,rfl⟩
 have zw1:(h.new (.cells dqZ.cs 44 false)).wrN h.n 0 d.cs=some g1:=by rw [hg1];exact wrN_new _ _ _ _ rfl
 have q1:g1.get h.n=some (.cells d.cs 44 false):=by rw [hg1,get_new_same]
 have duo1:=duo.new (.cells d.cs 44 false)
 rw [← hg1] at duo1
 have rd1:∀ o,g1.rd1 h.n o=d.cs[o]?:=fun o=>rd1_of q1
 have next:∀ {h':H} {F:Nat→Prop} {m':Nat},Duo D0 F hS r hg m' (mateS (bytes T.1 T.2.1) s' (st.run l1)) G1 h'→m'≤72*(i+1)→G1.bs.length≤i+1→R0 D0 hS key ll r hg T nE dn (i+1) h':=fun {h' F m'} a hm' hg'=>by
  obtain ⟨md,Dc,Dg,C,rr⟩:=a.sub (F':=fun _=>False) fun b hb=>hb.elim
  exact ⟨st.run l1,s',G1,d1 ++ [d],d3,l3,Gend,by rw [hdn];simp,by simp [hd1],⟨md,Dc,Dg,C.more hm' (by omega),rr⟩,hs',ok',wl,rT,hg',rn⟩
 have wiT0:SetOk (st.run l1).S→WithinS s' T:=fun so'=>by
  obtain ⟨T',hT',_,wi2⟩:=run_within l3 hs' ok' so' wl.ok
  rw [rT] at hT'
  rw [wS_inj hT'];exact wi2
 have soR:SetOk (st.run l1).S:=by
  have aux:∀ (l:List Op) {st:St} {s:Sr},st.sd=wS s→SOk s→SetOk st.S→(∀ o ∈ l,o.ok)→SetOk (st.run l).S:=by
   intro l
   induction l with
   | nil=>intro st s _ _ h _;exact h
   | cons o l ih =>
    intro st s hs ok so ho
    obtain ⟨s',k1,k2,k3,k4,_⟩:=step_w hs ok so (ho o (by simp))
    exact ih k1 k2 k4 fun p hp=>ho p (by simp [hp])
  exact aux l1 sd ok so step.ok
 have wiT:=wiT0 soR
 unfold StepW at step
 cases hp:d.part with
 | true =>
  rw [if_pos hp] at step
  obtain ⟨pb,⟨kn,hkn,kl,rfl⟩,rfl⟩:=step
  have pm:ParMay (mateS (bytes T.1 T.2.1) s st).sd.writes d.b.x d.b.y d.side 0:=⟨pb,fun h=>by cases h⟩
  have ib:=pb.2.2.2
  unfold inT at ib
  obtain ⟨wv,g2,a2,alt,fr2⟩:=(duo1.part (x:=d.b.x) (y:=d.b.y) (s:=d.side) (kind:=0) (by omega) (by omega) (by omega)).elim
  rcases alt with ⟨_,rfl,duo2⟩ | ⟨npm,_⟩
  rotate_left
  ·exact (npm pm).elim
  obtain ⟨s2,k1,k2⟩:=Pr.exec_m hT (p:=Pr.sym (pkd d.side) (pcx G1 d.b.x d.b.y d.side) 0 fun x=>.done x) (.sym ⟨(pkd_ok _).1,pcx_ok _ _ _ _,kl⟩ (.done kn)) sd ok so ⟨s',hs',wiT⟩
  have e2':s2=s':=wS_inj (k1.symm.trans hs')
  subst e2'
  rw [Pr.exec_sym,Pr.exec_done] at k2
  have k3:(mateS (bytes T.1 T.2.1) s st).symV (pkd d.side) (pcx G1 d.b.x d.b.y d.side) 0=kn:=Option.some.inj (congrArg Prod.fst k2)
  have k4:=congrArg Prod.snd k2
  simp only at k4
  rw [k3] at a2
  rw [k4] at duo2
  have q2:g2.get h.n=_:=(fr2 _ (.inr rfl)).trans q1
  have rd2:∀ o,g2.rd1 h.n o=d.cs[o]?:=fun o=>rd1_of q2
  have pos:=next duo2 (by omega) (by omega)
  simp [l3_1,e13,hln,e24,h1,ia,ra,nw,zw1,rd1,hp,e23,e11,a2,rd2,hkn,zi,-Int.natCast_add]
  refine ⟨k - 1,by omega,by omega,?_⟩
  rw [ki]
  exact ⟨pos,by simp [e1],by simp [e2],by simp [e7],by simp [e11],by simp [e13],by simp [e23],by simp⟩
 | false =>
  rw [hp,if_neg (by decide)] at step
  obtain ⟨ig,mb,hrd,rfl⟩:=step
  obtain ⟨bb,hbb⟩:∃ bb:Bk,bb={ bkZ with x:=d.b.x,y:=d.b.y,w:=d.b.w,h:=d.b.h }:=⟨_,rfl⟩
  have hsh:shapeB bb=shapeB d.b:=by rw [hbb];rfl
  have blb:=bl_shape d.b.x d.b.y d.b.w d.b.h
  rw [← hbb] at blb
  obtain ⟨_,g2,a2,rfl,duo2,fr2⟩:=(Duo.code_m hT sd ok so duo1 (ig.sh' hsh) (by omega) (key:=key) (ll:=ll) hsh hrd hs' wiT).elim
  have q2:g2.get h.n=_:=(fr2 _ (.inr rfl)).trans q1
  obtain ⟨g3,hg3⟩:∃ z,z=g2.new (.cells d.b.cs 42 false):=⟨_,rfl⟩
  have zw3:(g2.new (.cells bkZ.cs 42 false)).wrN g2.n 0 d.b.cs=some g3:=by rw [hg3];exact wrN_new _ _ _ _ rfl
  have x3:Ext g2 g3:=by rw [hg3];exact (Ext.refl g2).new _
  have q3:g3.get h.n=_:=(x3.get _ (H.get_lt q2)).trans q2
  have p3:g3.get g2.n=some (.cells d.b.cs 42 false):=by rw [hg3,get_new_same]
  have rb3:g3.rdN h.n 0 23=some d.b.cs:=by rw [rdN_of q3 (by simp)];rfl
  have rc3:g3.rdN g2.n 0 23=some d.b.cs:=by rw [rdN_of p3 (by simp)];rfl
  obtain ⟨_,g5,a5,rfl,duo5,fr5⟩:=((duo2.ext x3).put ig.sh (vec_of mb) (by omega)).elim
  have pos:=next duo5 (by omega) (by have:=put_len G d.b;omega)
  simp [l3_1,e13,hln,e24,h1,ia,ra,nw,zw1,rd1,hp,e23,e11,e1,e2,blb,a2,zw3,rc3,rb3,a5,zi,-Int.natCast_add,-bl_shape]
  refine ⟨k - 1,by omega,by omega,?_⟩
  rw [ki]
  exact ⟨pos,by simp [e1],by simp [e2],by simp [e7],by simp [e11],by simp [e13],by simp [e23],by simp⟩
end Go.Proofs.YtbkmdnmncaakdaaGreat
