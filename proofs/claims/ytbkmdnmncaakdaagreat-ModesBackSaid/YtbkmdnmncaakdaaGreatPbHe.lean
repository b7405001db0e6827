import Derived.Test.YtbkmdnmncaakdaaGreatPbHd
set_option linter.unusedVariables false
set_option linter.unusedSimpArgs false
set_option maxRecDepth 20000
namespace Go.Proofs.YtbkmdnmncaakdaaGreat
open Go Go.Zf
open Go.Zf (wi64)
open Pr (Rd)
theorem Duo.grok {D0 F:Nat→Prop} {hS:H} {c g m:Nat} {st:St} {G:Gr} {h:H} (a:Duo D0 F hS c g m st G h):GrOk G:=by
 obtain ⟨md,Dc,Dg,C,ga,_⟩:=a
 exact ga.ok
abbrev slF (v:V):Nat→Prop:=fun b=>∃ o n k,v=.sl b o n k
theorem Duo.push {D0 F:Nat→Prop} {hS:H} {c g m:Nat} {st:St} {G:Gr} {h:H} {dv:V} {dn:List Dq} (a:Duo D0 F hS c g m st G h) (gv:GrowV hS.n h dv 44 26 (dn.flatMap Dq.cs) dn.length) (hF:∀ b,slF dv b→F b) (d:Dq) (hn:dn.length < 1000) :
  ∃ v' h',apZ 44 26 200 (h.new (.cells d.cs 44 false)) dv (.sl h.n 0 1 (.ex 1))=some (v',h')∧Duo D0 (slF v') hS c g m st G h'∧GrowV hS.n h' v' 44 26 ((dn ++ [d]).flatMap Dq.cs) (dn ++ [d]).length:=by
 have hm:=a.md.n
 obtain ⟨v',h',e,gv',hn',k4,k5⟩:=apZ_grow (bytes:=200) (gv.ext ((Ext.refl h).new (.cells d.cs 44 false))) (by rw [H.n_new];omega) (y:=.sl h.n 0 1 (.ex 1)) (m:=1) (new:=d.cs) rfl (first1 get_new_same rfl) rfl (by omega)
 rw [H.n_new] at hn'
 refine ⟨v',h',e,(a.sub hF).keep (by omega) (fun b hb hf=>?_) fun b hb=>?_,by simpa [List.flatMap_append] using gv'⟩
 ·rw [k4 b (by rw [H.n_new];omega) fun o n k e=>hf ⟨o,n,k,e⟩,get_new_lt hb]
 ·rcases k5 with ⟨rfl,_⟩ | k5
  ·exact .inl hb
  ·obtain ⟨o,n,k,e⟩:=hb
   have:=k5 b o n k e
   rw [H.n_new] at this
   exact .inr ⟨by omega,gv'.under b o n k e⟩
structure DosAt (h:H) (v:V) (L:List Dq):Prop where
 len:lnS v=some (.int .i64 (L.length:Nat))
 at_:∀ (i:Nat) (d:Dq),L[i]?=some d→∃ b o,iaS 26 v (.int .i64 (i:Nat))=some (.ptr b o)∧h.rdN b o 26=some d.cs
abbrev K3:List Nat:=[0,1,2,6,7,8,9,10,11,12,13,14,15,16,17,18,19,20,21,23,24,25,26,27,28,29]
structure Wrote (key ll:Bool) (i:Nat) (st:St) (s:Sr) (G:Gr) (dn:List Dq):Prop where
 sd:st.sd=wS s
 ok:SOk s
 run:∃ l,st=(newW defS true).run l∧Went key ll gr0 dn l G
 gl:G.bs.length≤i
 dl:dn.length≤i
def W0 (D0:Nat→Prop) (hS:H) (key ll:Bool) (w g i:Nat) (dv:V) (h:H):Prop :=
 ∃ st s G dn,Duo D0 (slF dv) hS w g (72*i) st G h∧Wrote key ll i st s G dn∧GrowV hS.n h dv 44 26 (dn.flatMap Dq.cs) dn.length
structure I0 (D0:Nat→Prop) (hS:H) (lv:V) (key ll:Bool) (w g hg:Nat) (i:Nat) (e:E) (h:H):Prop where
 st:W0 D0 hS key ll w g i (e.s K3 13) h
 e0:e.s K3 0=lv
 e1:e.s K3 1=.bool key
 e2:e.s K3 2=.bool ll
 e7:e.s K3 7=.ptr w 0
 e9:e.s K3 9=.ptr g 0
 e11:e.s K3 11=.ptr hg 0
 e14:e.s K3 14=.int .i64 (i:Nat)
theorem run_app (st:St) (a b:List Op):st.run (a ++ b)=(st.run a).run b:=List.foldl_append
theorem loop3w {D0:Nat→Prop} {hS:H} {lv:V} {L:List Dq} {key ll:Bool} {w g hg:Nat} (hL:∀ {h:H},Mod D0 hS h→DosAt h lv L) (hI:∀ d ∈ L,I64 d.b.x∧I64 d.b.y) :
  ∀ k e h,(k≤min L.length 60∧I0 D0 hS lv key ll w g hg (min L.length 60 - k) e h)→LS (fun k e h=>k≤min L.length 60∧I0 D0 hS lv key ll w g hg (min L.length 60 - k) e h) (fun s=>s.x=.ex 0∧I0 D0 hS lv key ll w g hg (min L.length 60) s.e s.h) k (l3_0 KW loopZ e h):=by
 rintro k e h ⟨hk,⟨st,s,G,dn,duo,wr,gv⟩,e0,e1,e2,e7,e9,e11,e14⟩
 obtain ⟨i,hi⟩:∃ i,i=min L.length 60 - k:=⟨_,rfl⟩
 rw [← hi] at duo wr e14
 obtain ⟨dv,hdv⟩:∃ z,z=e.s K3 13:=⟨_,rfl⟩
 rw [← hdv] at duo gv
 have hln:=(hL duo.md).len
 by_cases ci:i=min L.length 60
 ·have fin:W0 D0 hS key ll w g (min L.length 60) dv h:=by rw [← ci];exact ⟨st,s,G,dn,duo,wr,gv⟩
  by_cases cN:i=L.length
  ·have:¬ (i:Int) < (L.length:Int):=by omega
   simp [l3_0,e0,hln,e14,this]
   exact ⟨rfl,⟨by simp [← hdv];exact fin,by simp [e0],by simp [e1],by simp [e2],by simp [e7],by simp [e9],by simp [e11],by rw [← ci];simp [e14]⟩⟩
  ·have h1:(i:Int) < (L.length:Int):=by omega
   have h2:¬ (i:Int) < 60:=by omega
   simp [l3_0,e0,hln,e14,h1,h2]
   exact ⟨rfl,⟨by simp [← hdv];exact fin,by simp [e0],by simp [e1],by simp [e2],by simp [e7],by simp [e9],by simp [e11],by rw [← ci];simp [e14]⟩⟩
 have iN:i < L.length:=by omega
 have h1:(i:Int) < (L.length:Int):=by omega
 have h2:(i:Int) < 60:=by omega
 obtain ⟨d,hd⟩:∃ d,L[i]?=some d:=⟨_,List.getElem?_eq_getElem iN⟩
 obtain ⟨ab,ao,ia,ra⟩:=(hL duo.md).at_ i d hd
 obtain ⟨ix,iy⟩:=hI d (List.mem_of_getElem? hd)
 have ki:min L.length 60 - (k - 1)=i+1:=by omega
 have zi:IntKind.i64.wrap ((i:Int)+1)=((i+1:Nat):Int):=by rw [wi64 (by omega) (by omega)];omega
 -- it is copied
 obtain ⟨g1,hg1⟩:∃ z,z=h.new (.cells d.cs 44 false):=⟨_,rfl⟩
 have zw1:(h.new (.cells dqZ.cs 44 false)).wrN h.n 0 d.cs=some g1:=by rw [hg1];exact wrN_new _ _ _ _ rfl
 have q1:g1.get h.n=some (.cells d.cs 44 false):=by rw [hg1,get_new_same]
 have duo1:=duo.new (.cells d.cs 44 false)
 rw [← hg1] at duo1
 have gv1:=gv.ext ((Ext.refl h).new (.cells d.cs 44 false))
 rw [← hg1] at gv1
 obtain ⟨F1,hF1⟩:∃ F:Nat→Prop,F=fun b=>slF dv b∨b=h.n:=⟨_,rfl⟩
 rw [← hF1] at duo1
 have f1n:F1 h.n:=by rw [hF1];exact .inr rfl
 have f1s:∀ b,slF dv b→F1 b:=fun b hb=>by rw [hF1];exact .inl hb
 have rd1:∀ o,g1.rd1 h.n o=d.cs[o]?:=fun o=>rd1_of q1
 have ln60:dn.length < 1000:=by have:=wr.dl;omega
 have nb:=duo1.nb
 -- the next round,if nothing was done
 have same:∀ {h':H} {F:Nat→Prop},Duo D0 F hS w g (72*i) st G h'→(∀ b,F1 b→F b)→(∀ b,F1 b→h'.get b=g1.get b)→W0 D0 hS key ll w g (i+1) dv h':=fun {h' F} a hF hg=>by
  obtain ⟨md,Dc,Dg,C,r⟩:=a.sub (F':=slF dv) fun b hb=>hF b (f1s b hb)
  exact ⟨st,s,G,dn,⟨md,Dc,Dg,C.more (by omega) (by omega),r⟩,⟨wr.sd,wr.ok,wr.run,by have:=wr.gl;omega,by have:=wr.dl;omega⟩,gv1.keep fun c o n k e=>hg c (f1s c ⟨o,n,k,e⟩)⟩
 cases hp:d.part with
 | true =>
  obtain ⟨wv,g2,a2,alt,fr2⟩:=(duo1.part (s:=d.side) (kind:=d.kind) ix iy (by omega)).elim
  have q2:g2.get h.n=_:=(fr2 _ f1n).trans q1
  have rd2:∀ o,g2.rd1 h.n o=d.cs[o]?:=fun o=>rd1_of q2
  have rN2:g2.rdN h.n 0 26=some d.cs:=by rw [rdN_of q2 (by simp)];rfl
  rcases alt with ⟨pm,rfl,duo2⟩ | ⟨npm,rfl,duo2⟩
  ·obtain ⟨kn,hkn⟩:∃ n:Nat,d.kind=(n:Nat):=⟨d.kind.toNat,by have:=(pm.2 (by rw [wr.sd];rfl)).1;omega⟩
   have kl:=(pm.2 (by rw [wr.sd];rfl)).2
   have sv:st.symV (pkd d.side) (pcx G d.b.x d.b.y d.side) d.kind=kn:=by rw [St.symV_w (by rw [wr.sd];rfl),hkn];rfl
   rw [sv] at a2
   have gv2:=gv1.keep fun c o n k e=>fr2 c (f1s c ⟨o,n,k,e⟩)
   obtain ⟨v',g3,a3,duo3,gv3⟩:=duo2.push gv2 f1s d ln60
   have step:StepW key ll G d [.sym (pkd d.side) (pcx G d.b.x d.b.y d.side) kn] G:=by
    unfold StepW
    rw [if_pos hp]
    exact ⟨pm.1,⟨kn,hkn,by omega,rfl⟩,rfl⟩
   obtain ⟨l,hl,wl⟩:=wr.run
   obtain ⟨s',hs',ok',_⟩:=run_within [.sym (pkd d.side) (pcx G d.b.x d.b.y d.side) kn] wr.sd wr.ok nb.2.2 step.ok
   have hst:st.run [.sym (pkd d.side) (pcx G d.b.x d.b.y d.side) kn]=st.sym (pkd d.side) (pcx G d.b.x d.b.y d.side) d.kind:=by rw [hkn];rfl
   rw [hst] at hs'
   have pos:W0 D0 hS key ll w g (i+1) v' g3:=by
    obtain ⟨md,Dc,Dg,C,r⟩:=duo3
    exact ⟨_,s',G,dn ++ [d],⟨md,Dc,Dg,C.more (by omega) (by omega),r⟩,⟨hs',ok',⟨l ++ [.sym (pkd d.side) (pcx G d.b.x d.b.y d.side) kn],by rw [run_app,← hl,hst],wl.snoc step⟩,by have:=wr.gl;omega,by have:=wr.dl;simp;omega⟩,gv3⟩
   rw [hkn] at a2
   simp [l3_0,e0,hln,e14,h1,h2,ia,ra,nw,zw1,rd1,hp,e7,e9,a2,rd2,rN2,bs,← hdv,a3,hkn,zi,-Int.natCast_add]
   refine ⟨k - 1,by omega,by omega,?_⟩
   rw [ki]
   exact ⟨by simpa using pos,by simp [e0],by simp [e1],by simp [e2],by simp [e7],by simp [e9],by simp [e11],by simp⟩
  ·have pos:=same duo2 (fun b hb=>hb) fr2
   simp [l3_0,e0,hln,e14,h1,h2,ia,ra,nw,zw1,rd1,hp,e7,e9,a2,zi,-Int.natCast_add]
   refine ⟨k - 1,by omega,by omega,?_⟩
   rw [ki]
   exact ⟨by simp [← hdv];exact pos,by simp [e0],by simp [e1],by simp [e2],by simp [e7],by simp [e9],by simp [e11],by simp⟩
 | false =>
  have cnt1:=duo1.count
  have rb1:g1.rdN h.n 0 23=some d.b.cs:=by rw [rdN_of q1 (by simp)];rfl
  obtain ⟨wv,g2,a2,alt,fr2⟩:=(duo1.code_w wr.sd wr.ok (b:=d.b) (key:=key) (ll:=ll) ix iy (by omega)).elim
  have q2:g2.get h.n=_:=(fr2 _ f1n).trans q1
  rcases alt with ⟨l',ig,mb,hech,hrd,rfl,duo2⟩ | ⟨rfl,duo2⟩
  ·-- the block
   obtain ⟨g3,hg3⟩:∃ z,z=g2.new (.cells d.b.cs 42 false):=⟨_,rfl⟩
   have zw3:(g2.new (.cells bkZ.cs 42 false)).wrN g2.n 0 d.b.cs=some g3:=by rw [hg3];exact wrN_new _ _ _ _ rfl
   have x3:Ext g2 g3:=by rw [hg3];exact (Ext.refl g2).new _
   have q3:g3.get h.n=_:=(x3.get _ (H.get_lt q2)).trans q2
   have p3:g3.get g2.n=some (.cells d.b.cs 42 false):=by rw [hg3,get_new_same]
   have duo3:=duo2.new (.cells d.b.cs 42 false)
   rw [← hg3] at duo3
   have cnt3:=duo3.count
   have rb3:g3.rdN h.n 0 23=some d.b.cs:=by rw [rdN_of q3 (by simp)];rfl
   have rc3:g3.rdN g2.n 0 23=some d.b.cs:=by rw [rdN_of p3 (by simp)];rfl
   obtain ⟨_,g4,a4,rfl,x4⟩:=(check11_ok d.b key ll g3).elim
   rw [if_pos mb] at a4
   have duo4:=duo3.ext x4
   have rc4:g4.rdN g2.n 0 23=some d.b.cs:=by rw [rdN_of ((x4.get _ (H.get_lt p3)).trans p3) (by simp)];rfl
   obtain ⟨_,g5,a5,rfl,duo5,fr5⟩:=(duo4.put ig.sh (vec_of mb) (by have:=wr.gl;omega)).elim
   have q5:g5.get h.n=some (.cells d.cs 44 false):=by rw [fr5 _ (.inl f1n),x4.get _ (H.get_lt q3),q3]
   have rN5:g5.rdN h.n 0 26=some d.cs:=by rw [rdN_of q5 (by simp)];rfl
   have gv5:=gv1.keep (h':=g5) fun c o n k e=>by
    have hf:=f1s c ⟨o,n,k,e⟩
    have lt:=gv1.under c o n k e
    have m2:c < g2.n:=by rcases (duo2.ex) with ⟨Dc,Dg,_,_,_,_,_,d4⟩;exact (d4 c hf).1
    rw [fr5 c (.inl hf),x4.get c (by have:=x3.n;omega),x3.get c m2,fr2 c hf]
   obtain ⟨v',g6,a6,duo6,gv6⟩:=duo5.push gv5 (fun b hb=>.inl (f1s b hb)) d ln60
   have hcost:=hrd.cost (block_bd key ll (cntP_le Bk.skip G d.b.x d.b.y) (cntP_le Bk.inter G d.b.x d.b.y) (vsOf_ok duo1.grok d.b) ig.sh)
   have hdiff:IntKind.i64.wrap ((st.run l').n - st.n)=(costL l':Nat):=by rw [run_n,wi64 (by omega) (by omega)];omega
   have hle:¬ (64:Int) < (costL l':Nat):=by omega
   have step:StepW key ll G d l' (putP G d.b).1:=by
    unfold StepW
    rw [hp,if_neg (by decide)]
    exact ⟨ig,mb,hrd,rfl⟩
   obtain ⟨l,hl,wl⟩:=wr.run
   obtain ⟨s',hs',ok',_⟩:=run_within l' wr.sd wr.ok nb.2.2 hrd.ok
   have pos:W0 D0 hS key ll w g (i+1) v' g6 :=
    ⟨st.run l',s',(putP G d.b).1,dn ++ [d],duo6,⟨hs',ok',⟨l ++ l',by rw [run_app,← hl],wl.snoc step⟩,by have:=put_len G d.b;have:=wr.gl;omega,by have:=wr.dl;simp;omega⟩,gv6⟩
   simp [l3_0,e0,hln,e14,h1,h2,ia,ra,nw,zw1,rd1,hp,e7,e9,e1,e2,cnt1,rb1,a2,zw3,rc3,rb3,cnt3,hdiff,hle,a4,rc4,a5,rN5,bs,← hdv,a6,zi,-Int.natCast_add]
   refine ⟨k - 1,by omega,by omega,?_⟩
   rw [ki]
   exact ⟨by simpa using pos,by simp [e0],by simp [e1],by simp [e2],by simp [e7],by simp [e9],by simp [e11],by simp⟩
  ·have duo3:=duo2.new (.cells bkZ.cs 42 false)
   have cnt3:=duo3.count
   have rz:(g2.new (.cells bkZ.cs 42 false)).rdN g2.n 0 23=some bkZ.cs:=rdN_new _ _ _ _ _ _ (by simp)
   have lt1:∀ b,F1 b→b < g2.n:=fun b hb=>by rcases (duo2.ex) with ⟨Dc,Dg,_,_,_,_,_,d4⟩;exact (d4 b hb).1
   have pos:=same duo3 (fun b hb=>.inl hb) fun b hb=>by rw [get_new_lt (lt1 b hb),fr2 b hb]
   simp [l3_0,e0,hln,e14,h1,h2,ia,ra,nw,zw1,rd1,hp,e7,e9,e1,e2,cnt1,rb1,a2,cnt3,rz,zi,-Int.natCast_add]
   refine ⟨k - 1,by omega,by omega,?_⟩
   rw [ki]
   exact ⟨by simp [← hdv];exact pos,by simp [e0],by simp [e1],by simp [e2],by simp [e7],by simp [e9],by simp [e11],by simp⟩
end Go.Proofs.YtbkmdnmncaakdaaGreat
