import Derived.Test.YtbajipmhnoakeaaGreatPnHg
import Derived.Test.YtbajipmhnoakeaaGreatPnGaa
import Derived.Test.YtbajipmhnoakeaaGreatPnZNest
import Derived.SizedLaws
import Derived.OpenShut
set_option linter.unusedVariables false
set_option linter.unusedSimpArgs false
set_option maxRecDepth 20000
namespace Go.Proofs.YtbajipmhnoakeaaGreat
open Go Go.Zf Go.RowKit Go.WideShapes
open Go.Zf (wi64)
structure P2 (h1 g:H) (c r m:Nat) (st:St) (D F:Nat→Prop):Prop where
 C:CoderAt D g c m st
 R:CoderRef F g r m st
 hD:∀ b,D b→h1.n≤b∧b < g.n∧¬ F b
 hF:∀ b,F b→h1.n≤b∧b < g.n
section
variable {h1 g g' g1 g2:H} {c r m m':Nat} {st st':St} {D F:Nat→Prop}
theorem P2.ext (a:P2 h1 g c r m st D F) (x:Ext g g'):P2 h1 g' c r m st D F:=by
 have:=x.n
 exact ⟨a.C.ext x,a.R.ext x,fun b hb=>by have:=a.hD b hb;exact ⟨this.1,by omega,this.2.2⟩,fun b hb=>by have:=a.hF b hb;omega⟩
theorem P2.step (a:P2 h1 g c r m st D F) (x1:Ext h1 g) (C1:∃ E,CoderAt E g1 c m' st'∧∀ b,E b→D b∨g.n≤b) (M1:Mod D g g1) (R2:∃ E,CoderRef E g2 r m' st'∧∀ b,E b→F b∨g1.n≤b) (M2:Mod F g1 g2) :
  (∃ D F,P2 h1 g2 c r m' st' D F)∧Ext h1 g2∧(∀ b,g.n≤b→b < g1.n→g2.get b=g1.get b)∧(∀ b,b < g.n→¬ D b→¬ F b→g2.get b=g.get b):=by
 obtain ⟨hC,hR,hD,hF⟩:=a
 obtain ⟨E1,C1,s1⟩:=C1
 obtain ⟨E2,R2,s2⟩:=R2
 have n1:=M1.n
 have n2:=M2.n
 have n0:=x1.n
 refine ⟨⟨fun b=>E1 b∧b < g1.n,fun b=>E2 b∧b < g2.n,?_,R2.mono fun b h1 h2=>⟨h2,h1⟩,?_,?_⟩,⟨by omega,fun b hb=>?_⟩,fun b h1 h2=>?_,fun b h1 h2 h3=>?_⟩
 ·refine (C1.mono fun b h1 h2=>(⟨h2,h1⟩:E1 b∧b < g1.n)).keep n2 fun b hb hb2=>M2.get b hb2 fun hf=>?_
  rcases s1 b hb.1 with e | e
  ·exact (hD b e).2.2 hf
  ·have:=hF b hf;omega
 ·rintro b ⟨h1',h2'⟩
  have q:h1.n≤b:=by rcases s1 b h1' with e | e;exact (hD b e).1;omega
  refine ⟨q,by omega,fun ⟨h3,_⟩=>?_⟩
  rcases s2 b h3 with e | e
  ·rcases s1 b h1' with e' | e'
   ·exact (hD b e').2.2 e
   ·have:=hF b e;omega
  ·omega
 ·rintro b ⟨h1',h2'⟩
  rcases s2 b h1' with e | e
  ·exact ⟨(hF b e).1,h2'⟩
  ·exact ⟨by omega,h2'⟩
 ·rw [M2.get b (by omega) (fun hf=>by have:=hF b hf;omega),M1.get b (by omega) (fun hd=>by have:=hD b hd;omega),x1.get b hb]
 ·exact M2.get b h2 fun hf=>by have:=hF b hf;omega
 ·rw [M2.get b (by omega) h3,M1.get b h1 h2]
end
structure Dg where
 s:Int
 p:Int
 q:Int
 l:List Int
def DoG (h:H) (p:List V) (x:Dg):Prop:=∃ v,p=[.int .i64 x.s,.int .i64 x.p,.int .i64 x.q,v]∧IntsX (fun _=>False) h v x.l
theorem IntsX.keep0 {X:Nat→Prop} {h h':H} {v:V} {l:List Int} (a:IntsX (fun _=>False) h v l) (x:Ext h h') (hx:∀ b,b < h.n→¬ X b):IntsX X h' v l :=
 a.keep x.n (fun b hb _=>x.get b hb) (fun b hb _=>hx b hb)
theorem IntsX.nil' (X:Nat→Prop) (h:H):IntsX X h .nils []:=⟨rfl,fun i x hi=>by simp at hi,rfl,rfl,rfl⟩
abbrev K4:List Nat:=[0,1,4,5,6,7,8,9,10,11,12,13,14,15]
structure I4 (h1:H) (v:V) (n c r j:Nat) (e:E) (g:H):Prop where
 hj:j≤n∧n - j≤8
 x:Ext h1 g
 P:∃ m st D F,P2 h1 g c r m st D F∧st.sd.writes=false∧m≤50000*(n - j)
 e1:e.s K4 1=v
 e5:e.s K4 5=.ptr c 0
 e7:e.s K4 7=.ptr r 0
 e9:e.s K4 9=.int .i64 ((n - j:Nat):Int)
structure O4 (h1:H) (c r:Nat) (s:Go.Zf.St):Prop where
 hx:s.x=.ex 0
 x:Ext h1 s.h
 P:∃ m st D F,P2 h1 s.h c r m st D F∧m≤400000
 e5:s.e.s K4 5=.ptr c 0
 e7:s.e.s K4 7=.ptr r 0
theorem loop4 {h1:H} {v:V} {l:List Dg} {c r:Nat} (A:SlA h1 4 v l.length fun j p=>∀ x,l[j]?=some x→DoG h1 p x) {e:E} {g:H} {o:Out} (ho:loopZ (l4_0 KW loopZ) e g=o) (hi:I4 h1 v l.length c r l.length e g) :
  ∃ s,o=some s∧O4 h1 c r s:=by
 have loop:=loop_run (body:=l4_0 KW loopZ) (I4 h1 v l.length c r) (O4 h1 c r) (fun j e g hi=>by
  obtain ⟨hj,x,⟨m,st,D,F,P,hw,hm⟩,e1,e5,e7,e9⟩:=hi
  have sl:=A.len
  cases j with
  | zero =>
   rw [Nat.sub_zero] at e9
   simp [l4_0,e1,e9,sl,gl_t]
   exact ⟨rfl,x,⟨m,st,D,F,P,by omega⟩,by simp [e5],by simp [e7]⟩
  | succ j =>
   obtain ⟨i,hi⟩:∃ i,i=l.length - (j+1):=⟨_,rfl⟩
   rw [← hi] at e9 hm hj
   have hil:i < l.length:=by omega
   by_cases h8:i < 8
   ·obtain ⟨d,hd⟩:∃ d,l[i]?=some d:=⟨l[i],List.getElem?_eq_getElem hil⟩
    obtain ⟨b0,o0,p,t1,t2,t3,_,_⟩:=(A.ext x).at hil
    obtain ⟨vl,rfl,hI⟩:=t3 d hd
    -- the copy
    obtain ⟨g0,hg0⟩:∃ y,y=(g.new (.cells [.int .i64 0,.int .i64 0,.int .i64 0,.nils] 36 false)).put g.n (.cells [.int .i64 d.s,.int .i64 d.p,.int .i64 d.q,vl] 36 false):=⟨_,rfl⟩
    have x0:Ext g g0:=by rw [hg0];exact ((Ext.refl g).new _).put (Nat.le_refl _) _
    have n0:g0.n=g.n+1:=by rw [hg0,H.n_put,H.n_new]
    have r0:g0.get g.n=some (.cells [.int .i64 d.s,.int .i64 d.p,.int .i64 d.q,vl] 36 false):=by rw [hg0,get_put_same (by rw [H.n_new];omega)]
    have w0:(g.new (.cells [.int .i64 0,.int .i64 0,.int .i64 0,.nils] 36 false)).wrN g.n 0 [.int .i64 d.s,.int .i64 d.p,.int .i64 d.q,vl]=some g0:=by rw [wrN_of get_new_same (by simp),hg0];rfl
    have P0:=P.ext x0
    have xg:=x.trans x0
    have xn:=x.n
    have q0:g0.rd1 g.n 0=some (.int .i64 d.s):=by rw [rd1_of r0];rfl
    have q1:g0.rd1 g.n 1=some (.int .i64 d.p):=by rw [rd1_of r0];rfl
    have q2:g0.rd1 g.n 2=some (.int .i64 d.q):=by rw [rd1_of r0];rfl
    have q3:g0.rd1 g.n 3=some vl:=by rw [rd1_of r0];rfl
    have aD:¬ D g.n:=fun h=>by have:=P.hD _ h;omega
    have z1:IntKind.i64.wrap ((i:Int)+1)=((i+1:Nat):Int):=by rw [wz (by omega) (by omega)];omega
    -- what comes of both
    have both:∃ (w1 w2:V) (ec:Int) (g1 g2:H) (m':Nat) (st':St),KW 11 [.ptr c 0,.int .i64 d.s,.int .i64 d.p,.int .i64 d.q,vl] g0=some (.ret (.tup [w1,.int .i64 ec]),g1)∧KW 12 [.ptr r 0,.int .i64 d.s,.int .i64 d.p,.int .i64 d.q,.nils] g1=some (.ret (.tup [w2,.int .i64 ec]),g2) ∧
      (∃ D F,P2 h1 g2 c r m' st' D F)∧Ext h1 g2∧st'.sd.writes=false∧m'≤m+50000∧KW 13 [w1,w2] g2=some (.ret (.bool true),g2)∧g1.get g.n=g0.get g.n:=by
     by_cases ok:okIn false d.s d.p d.q d.l
     ·obtain ⟨k1,k2,k3,_⟩:=ok
      obtain ⟨s1,s2⟩:=sizeI_ok k1
      obtain ⟨size,hsz⟩:∃ n,n=d.s.toNat:=⟨_,rfl⟩
      obtain ⟨plane,hpl⟩:∃ n,n=d.p.toNat:=⟨_,rfl⟩
      obtain ⟨sign,hsg⟩:∃ n,n=d.q.toNat:=⟨_,rfl⟩
      rw [← hsz] at s1 s2
      rw [← s2,show d.p=(plane:Int) by omega,show d.q=(sign:Int) by omega]
      have hrb:∀ y ∈ List.replicate (sideP size*sideP size) (0:Int),-1048576≤y∧y≤1048576:=fun y hy=>by rw [(List.mem_replicate.1 hy).2];decide
      obtain ⟨w1,g1,a1,E1⟩:=(code10_any (src:=List.replicate (sideP size*sideP size) 0) P0.C (by omega) s1 (plane:=plane) (sign:=sign) (by omega) (by omega) (v:=vl) hI.cell (fun h=>by rw [hw] at h;cases h) (fun _=>rfl) (by simp) hrb rfl).elim
      obtain ⟨R,hR⟩:∃ R,R=(codeP (bdOf size plane sign (List.replicate (sideP size*sideP size) 0) st.sd.writes)).exec st:=⟨_,rfl⟩
      rw [← hR] at E1
      have hw':R.2.sd.writes=false:=by rw [hR,Pr.exec_wr,hw]
      have C1:∃ E,CoderAt E g1 c (m+50000) R.2∧∀ b,E b→D b∨g0.n≤b:=by
       rcases E1 with ⟨L,lv,_,_,_,K⟩ | ⟨_,_,K⟩
       ·obtain ⟨E,u1,_,u3⟩:=K.C;exact ⟨E,u1,u3⟩
       ·exact K.C
      have M1:Mod D g0 g1:=by rcases E1 with ⟨L,lv,_,_,_,K⟩ | ⟨_,_,K⟩ <;> exact K.x
      have R1:CoderRef F g1 r m st:=P0.R.keep M1.n fun b hb hb2=>M1.get b hb2 fun hd=>(P0.hD b hd).2.2 hb
      obtain ⟨w2,g2,a2,R2,M2,E2⟩:=(code12_any (R:=R) R1 (by omega) s1 (plane:=plane) (sign:=sign) (by omega) (by omega) (v:=.nils) (l:=[]) (src:=List.replicate (sideP size*sideP size) 0) (IntsX.nil' _ _) rfl rfl (fun h=>by rw [hw] at h;cases h) (fun _=>rfl) (by simp) hrb hR.symm).elim
      obtain ⟨u1,u2,u3,u4⟩:=P0.step xg C1 M1 R2 M2
      have hA:g1.get g.n=g0.get g.n:=M1.get _ (by omega) aD
      rcases E1 with ⟨L1,lv,f1,rfl,f3,K1⟩ | ⟨f1,rfl,K1⟩
      ·rcases E2 with ⟨L2,lv2,f4,rfl,f6,f7,f8⟩ | ⟨f4,rfl⟩
       ·rw [f1] at f4;cases f4
        have i1:IntsX (fun _=>False) g2 (.sl L1 0 (sideP size*sideP size) (.ex (sideP size*sideP size))) lv:=by
         have:=IntsX.of (X:=fun _=>False) (h:=g2) (b:=L1) (l:=lv) (k:=.ex (sideP size*sideP size)) (by rw [u3 L1 K1.nL (H.get_lt K1.l.get),K1.l.get]) (fun h=>h)
         rw [f3] at this;exact this
        have i2:IntsX (fun _=>False) g2 (.sl L2 0 (sideP size*sideP size) (.ex (sideP size*sideP size))) lv:=by
         have:=IntsX.of (X:=fun _=>False) (h:=g2) (b:=L2) (l:=lv) (k:=.ex (sideP size*sideP size)) f7.get (fun h=>h)
         rw [f3] at this;exact this
        have sb:=sideP_b s1
        have hnn:sideP size*sideP size≤32*32:=Nat.mul_le_mul sb.2 sb.2
        have:=eqInts11_ok i1 i2 (by omega)
        rw [decide_eq_true rfl] at this
        exact ⟨_,_,0,g1,g2,m+50000,R.2,a1,a2,u1,u2,hw',by omega,this,hA⟩
       ·rw [f1] at f4;cases f4
      ·rcases E2 with ⟨L2,lv2,f4,rfl,f6,f7,f8⟩ | ⟨f4,rfl⟩
       ·rw [f1] at f4;cases f4
       ·have:=eqInts11_ok (IntsX.nil' (fun _=>False) g2) (IntsX.nil' (fun _=>False) g2) (by decide)
        exact ⟨_,_,4,g1,g2,m+50000,R.2,a1,a2,u1,u2,hw',by omega,this,hA⟩
     ·have no:¬ okIn st.sd.writes d.s d.p d.q d.l:=by rw [hw];exact ok
      have no2:¬ okIn st.sd.writes d.s d.p d.q []:=by
       rw [hw];exact fun ⟨k1,k2,k3,_⟩=>ok ⟨k1,k2,k3,fun h=>by cases h⟩
      have hI0:IntsX D g0 vl d.l:=hI.keep0 xg fun b hb hd=>by have:=P.hD b hd;omega
      obtain ⟨w1,g1,a1,rfl,C1,M1⟩:=(code11_no P0.C (by omega) hI0 no).elim
      have R1:CoderRef F g1 r m st:=P0.R.keep M1.n fun b hb hb2=>M1.get b hb2 fun hd=>(P0.hD b hd).2.2 hb
      have a2:=code12_no R1 (IntsX.nil' (fun _=>False) g1) no2
      obtain ⟨u1,u2,u3,u4⟩:=P0.step xg ⟨_,C1,fun b hb=>by rcases hb with e | e;exact .inl e;exact .inr e.1⟩ M1 ⟨F,R1,fun b hb=>.inl hb⟩ (Mod.refl _ _)
      have:=eqInts11_ok (IntsX.nil' (fun _=>False) g1) (IntsX.nil' (fun _=>False) g1) (by decide)
      exact ⟨_,_,2,g1,g1,m,st,a1,a2,u1,u2,hw,by omega,this,M1.get _ (by omega) aD⟩
    obtain ⟨w1,w2,ec,g1,g2,m',st',a1,a2,⟨D2,F2,P2'⟩,xx,hw',hm',a3,hA⟩:=both
    have cn:=count32_ok P2'.C
    obtain ⟨vs,_,_,rn⟩:=P2'.R.set
    have p0:g1.rd1 g.n 0=some (.int .i64 d.s):=by unfold H.rd1;rw [hA];exact q0
    have p1:g1.rd1 g.n 1=some (.int .i64 d.p):=by unfold H.rd1;rw [hA];exact q1
    have p2:g1.rd1 g.n 2=some (.int .i64 d.q):=by unfold H.rd1;rw [hA];exact q2
    by_cases c4:ec=4
    ·subst c4
     simp [l4_0,e1,e5,e7,e9,sl,show (i:Int) < l.length by omega,hil,h8,show (i:Int) < 8 by omega,t1,t2,nw,w0,q0,q1,q2,q3,a1,p0,p1,p2,a2,a3,cn,rn]
     exact ⟨rfl,xx,⟨m',st',D2,F2,P2',by omega⟩,by simp [e5],by simp [e7]⟩
    ·simp [l4_0,e1,e5,e7,e9,sl,show (i:Int) < l.length by omega,hil,h8,show (i:Int) < 8 by omega,t1,t2,nw,w0,q0,q1,q2,q3,a1,p0,p1,p2,a2,a3,cn,rn,c4,z1,-Int.natCast_add]
     exact ⟨j,by omega,⟨by omega,by omega⟩,xx,⟨m',st',D2,F2,P2',hw',by rw [show l.length - j=i+1 by omega];omega⟩,by simp [e1],by simp [e5],by simp [e7],by simp [show l.length - j=i+1 by omega]⟩
   ·simp [l4_0,e1,e9,sl,show (i:Int) < l.length by omega,hil,h8,show ¬ (i:Int) < 8 by omega]
    exact ⟨rfl,x,⟨m,st,D,F,P,by omega⟩,by simp [e5],by simp [e7]⟩) l.length e g hi
 obtain ⟨s,h1,h2⟩:=loop
 exact ⟨s,by rw [← ho,h1],h2⟩
end Go.Proofs.YtbajipmhnoakeaaGreat
