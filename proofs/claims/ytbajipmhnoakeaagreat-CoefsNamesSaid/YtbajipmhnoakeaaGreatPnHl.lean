import Derived.Test.YtbajipmhnoakeaaGreatPnHk
set_option linter.unusedVariables false
set_option linter.unusedSimpArgs false
set_option maxRecDepth 20000
namespace Go.Proofs.YtbajipmhnoakeaaGreat
open Go Go.Zf Go.RowKit Go.WideShapes
open Go.Zf (wi64)
def DoW (h:H) (p:List V) (x:Dg):Prop:=∃ v,p=[.int .i64 x.s,.int .i64 x.p,.int .i64 x.q,v]∧IntsX (fun _=>False) h v x.l∧firstV h 1 x.l.length v=some (intsV x.l)∧lenOf v=some x.l.length∧x.l.length*8≤140737488351232
section
variable {h1 g g' g1 g2:H} {c r m m':Nat} {st st':St} {D F E1 E2:Nat→Prop}
theorem P2.step2 (a:P2 h1 g c r m st D F) (x1:Ext h1 g) (C1:CoderAt E1 g1 c m' st') (s1:∀ b,E1 b→D b∨g.n≤b) (M1:Mod D g g1) (R2:CoderRef E2 g2 r m' st') (s2:∀ b,E2 b→F b∨g1.n≤b) (M2:Mod F g1 g2) :
  P2 h1 g2 c r m' st' (fun b=>E1 b∧b < g1.n) (fun b=>E2 b∧b < g2.n):=by
 obtain ⟨hC,hR,hD,hF⟩:=a
 have n1:=M1.n
 have n2:=M2.n
 have n0:=x1.n
 refine ⟨?_,R2.mono fun b h1 h2=>⟨h2,h1⟩,?_,?_⟩
 ·refine (C1.mono fun b h1 h2=>(⟨h2,h1⟩:E1 b∧b < g1.n)).keep n2 fun b hb hb2=>M2.get b hb2 fun hf=>?_
  rcases s1 b hb.1 with e | e
  ·exact (hD b e).2.2 hf
  ·have:=hF b hf;omega
 ·rintro b ⟨h1',h2'⟩
  have q:h1.n≤b:=by rcases s1 b h1' with e | e;exact (hD b e).1;omega
  refine ⟨q,by omega,fun ⟨h3,_⟩=>?_⟩
  rcases s2 b h3 with e | e
  ·rcases s1 b h1' with e' | e'
   ·exact (hD b e').2.2 e
   ·have:=hF b e;omega
  ·omega
 ·rintro b ⟨h1',h2'⟩
  rcases s2 b h1' with e | e
  ·exact ⟨(hF b e).1,h2'⟩
  ·exact ⟨by omega,h2'⟩
theorem P2.bump {L:Nat} (a:P2 h1 g c r m st D F) (b:Bump L g g') (hD:¬ D L) (hF:¬ F L):P2 h1 g' c r m st D F:=by
 have hn:=b.n
 exact ⟨a.C.keep (by omega) fun x hx _=>b.get x fun e=>hD (e ▸ hx),a.R.keep (by omega) fun x hx _=>b.get x fun e=>hF (e ▸ hx),fun x hx=>by have:=a.hD x hx;exact ⟨this.1,by omega,this.2.2⟩,fun x hx=>by have:=a.hF x hx;omega⟩
end
structure Both (h1 gA g1 g2:H) (c r m' L N:Nat) (st':St) (D F:Nat→Prop) (w1 w2:V):Prop where
 P:∃ D' F',P2 h1 g2 c r m' st' D' F'∧¬ D' L∧¬ F' L
 x:Ext h1 g2
 k:∀ b,b < gA.n→¬ D b→¬ F b→g2.get b=gA.get b
 k1:∀ b,b < gA.n→¬ D b→g1.get b=gA.get b
 n:gA.n≤g2.n
 nL:gA.n≤L
 nN:N≤1024
 l:(w1=.nils∧N=0)∨(w1=.sl L 0 N (.ex N)∧∃ l:List Int,l.length=N∧g2.get L=some (.cells (intsV l) 3 false))
 eq:KW 13 [w1,w2] g2=some (.ret (.bool true),g2)
theorem both3 {h1 gA:H} {c r m:Nat} {st:St} {D F:Nat→Prop} (P0:P2 h1 gA c r m st D F) (xg:Ext h1 gA) (hm:m≤400000) (hw:st.sd.writes=true) {d:Dg} {vl w10:V} (hI:IntsX (fun _=>False) h1 vl d.l) (hfv:firstV h1 1 d.l.length vl=some (intsV d.l)) (hlo:lenOf vl=some d.l.length)
  (h10:IntsX D gA w10 d.l) :
  ∃ (w1 w2:V) (ec:Int) (g1 g2:H) (m' L N:Nat) (st':St),KW 11 [.ptr c 0,.int .i64 d.s,.int .i64 d.p,.int .i64 d.q,w10] gA=some (.ret (.tup [w1,.int .i64 ec]),g1)∧KW 12 [.ptr r 0,.int .i64 d.s,.int .i64 d.p,.int .i64 d.q,vl] g1=some (.ret (.tup [w2,.int .i64 ec]),g2) ∧
   st'.sd.writes=true∧m'≤m+50000∧Both h1 gA g1 g2 c r m' L N st' D F w1 w2:=by
 have xn:=xg.n
 have hIF:∀ {g1:H},Ext h1 g1→IntsX F g1 vl d.l:=fun x=>hI.keep0 x fun b hb hf=>by have:=P0.hF b hf;omega
 by_cases ok:okIn true d.s d.p d.q d.l
 ·obtain ⟨k1,k2,k3,k4⟩:=ok
  obtain ⟨k4,k5⟩:=k4 rfl
  obtain ⟨s1,s2⟩:=sizeI_ok k1
  obtain ⟨size,hsz⟩:∃ n,n=d.s.toNat:=⟨_,rfl⟩
  obtain ⟨plane,hpl⟩:∃ n,n=d.p.toNat:=⟨_,rfl⟩
  obtain ⟨sign,hsg⟩:∃ n,n=d.q.toNat:=⟨_,rfl⟩
  rw [← hsz] at s1 s2 k4
  rw [← s2,show d.p=(plane:Int) by omega,show d.q=(sign:Int) by omega]
  obtain ⟨w1,g1,a1,E1⟩:=(code10_any (src:=d.l) P0.C (by omega) s1 (plane:=plane) (sign:=sign) (by omega) (by omega) (v:=w10) h10.cell (fun _=>h10) (fun h=>by rw [hw] at h;cases h) k4 k5 rfl).elim
  obtain ⟨R,hR⟩:∃ R,R=(codeP (bdOf size plane sign d.l st.sd.writes)).exec st:=⟨_,rfl⟩
  rw [← hR] at E1
  have hw':R.2.sd.writes=true:=by rw [hR,Pr.exec_wr,hw]
  have M1:Mod D gA g1:=by rcases E1 with ⟨L,lv,_,_,_,K⟩ | ⟨_,_,K⟩ <;> exact K.x
  have m1:=M1.n
  have R1:CoderRef F g1 r m st:=P0.R.keep M1.n fun b hb hb2=>M1.get b hb2 fun hd=>(P0.hD b hd).2.2 hb
  have x1:Ext h1 g1:=M1.ext xg fun b hb hd=>by have:=P0.hD b hd;omega
  obtain ⟨w2,g2,a2,⟨E2,R2,s2'⟩,M2,e2⟩:=(code12_any (R:=R) R1 (by omega) s1 (plane:=plane) (sign:=sign) (by omega) (by omega) (v:=vl) (l:=d.l) (src:=d.l) (hIF x1) (firstV_ext x1 hfv) hlo (fun _=>rfl) (fun h=>by rw [hw] at h;cases h) k4 k5 hR.symm).elim
  have m2:=M2.n
  have xx:Ext h1 g2:=M2.ext x1 fun b hb hd=>by have:=P0.hF b hd;omega
  have kk:∀ b,b < gA.n→¬ D b→¬ F b→g2.get b=gA.get b:=fun b hb hD hF=>by rw [M2.get b (by omega) hF,M1.get b hb hD]
  have kk1:∀ b,b < gA.n→¬ D b→g1.get b=gA.get b:=fun b hb hD=>M1.get b hb hD
  rcases E1 with ⟨L1,lv,f1,rfl,f3,K1⟩ | ⟨f1,rfl,K1⟩
  ·obtain ⟨E1,C1,nE,s1'⟩:=K1.C
   have nF:¬ F L1:=fun hf=>by have:=P0.hF _ hf;have:=K1.nL;omega
   have gL:g2.get L1=some (.cells (intsV lv) 3 false):=by rw [M2.get L1 (H.get_lt K1.l.get) nF,K1.l.get]
   have sb:=sideP_b s1
   have hnn:sideP size*sideP size≤32*32:=Nat.mul_le_mul sb.2 sb.2
   rcases e2 with ⟨L2,lv2,f4,rfl,f6,f7,f8⟩ | ⟨f4,rfl⟩
   ·rw [f1] at f4;cases f4
    have i1:IntsX (fun _=>False) g2 (.sl L1 0 (sideP size*sideP size) (.ex (sideP size*sideP size))) lv:=by
     have:=IntsX.of (X:=fun _=>False) (h:=g2) (b:=L1) (l:=lv) (k:=.ex (sideP size*sideP size)) gL (fun h=>h)
     rw [f3] at this;exact this
    have i2:IntsX (fun _=>False) g2 (.sl L2 0 (sideP size*sideP size) (.ex (sideP size*sideP size))) lv:=by
     have:=IntsX.of (X:=fun _=>False) (h:=g2) (b:=L2) (l:=lv) (k:=.ex (sideP size*sideP size)) f7.get (fun h=>h)
     rw [f3] at this;exact this
    have:=eqInts11_ok i1 i2 (by omega)
    rw [decide_eq_true rfl] at this
    refine ⟨_,_,0,g1,g2,m+50000,L1,sideP size*sideP size,R.2,a1,a2,hw',by omega,⟨_,_,P0.step2 xg C1 s1' M1 R2 s2' M2,fun h=>nE h.1,fun h=>?_⟩,xx,kk,kk1,by omega,K1.nL,by omega,.inr ⟨rfl,lv,f3,gL⟩,this⟩
    rcases s2' L1 h.1 with e | e
    ·exact nF e
    ·have:=H.get_lt K1.l.get;omega
   ·rw [f1] at f4;cases f4
  ·obtain ⟨E1,C1,s1'⟩:=K1.C
   rcases e2 with ⟨L2,lv2,f4,rfl,f6,f7,f8⟩ | ⟨f4,rfl⟩
   ·rw [f1] at f4;cases f4
   ·have:=eqInts11_ok (IntsX.nil' (fun _=>False) g2) (IntsX.nil' (fun _=>False) g2) (by decide)
    exact ⟨_,_,4,g1,g2,m+50000,g2.n,0,R.2,a1,a2,hw',by omega,⟨_,_,P0.step2 xg C1 s1' M1 R2 s2' M2,fun h=>by omega,fun h=>by omega⟩,xx,kk,kk1,by omega,by omega,by omega,.inl ⟨rfl,rfl⟩,this⟩
 ·have no:¬ okIn st.sd.writes d.s d.p d.q d.l:=by rw [hw];exact ok
  obtain ⟨w1,g1,a1,rfl,C1,M1⟩:=(code11_no P0.C (by omega) h10 no).elim
  have m1:=M1.n
  have x1:Ext h1 g1:=M1.ext xg fun b hb hd=>by have:=P0.hD b hd;omega
  have R1:CoderRef F g1 r m st:=P0.R.keep M1.n fun b hb hb2=>M1.get b hb2 fun hd=>(P0.hD b hd).2.2 hb
  have a2:=code12_no R1 (hIF x1) no
  have:=eqInts11_ok (IntsX.nil' (fun _=>False) g1) (IntsX.nil' (fun _=>False) g1) (by decide)
  exact ⟨_,_,2,g1,g1,m,g1.n,0,st,a1,a2,hw,by omega,⟨_,_,P0.step2 xg C1 (fun b hb=>by rcases hb with e | e;exact .inl e;exact .inr e.1) M1 R1 (fun b hb=>.inl hb) (Mod.refl _ _),fun h=>by omega,fun h=>by omega⟩,x1,fun b hb hD _=>M1.get b hb hD,fun b hb hD=>M1.get b hb hD,m1,m1,by omega,.inl ⟨rfl,rfl⟩,this⟩
end Go.Proofs.YtbajipmhnoakeaaGreat
