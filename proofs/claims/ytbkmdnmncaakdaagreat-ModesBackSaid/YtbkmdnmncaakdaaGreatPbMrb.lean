import Derived.Test.YtbkmdnmncaakdaaGreatPbMr
set_option linter.unusedVariables false
set_option linter.unusedSimpArgs false
set_option maxRecDepth 20000
namespace Go.Proofs.YtbkmdnmncaakdaaGreat
open Go Go.Zf
open Go.Zf (wi64)
open Pr (Rd Fit ech_sym ech_num ech_bind2 Bd)
theorem colour65_ok {P:Nat→Prop} {h:H} {c q m:Nat} {st:St} (a:Co P h c q m st 0) {t:Nat} {b:Bk} (ht:h.get t=some (.cells b.cs 42 false)) (pt:P t) (nt:t ≠ q) (hm:m+3 < 100000000) (hb1 : -1000≤b.cu∧b.cu≤1000) (hb2 : -1000≤b.cv∧b.cv≤1000)
  (hw:st.sd.writes=true→¬ (b.cu=0∧b.cv=0)∧(-16≤b.cu∧b.cu≤16)∧(-16≤b.cv∧b.cv≤16)) :
  RT (fun w h'=>w=.tup []∧Ends (colourP (b.cu,b.cv)) st (b.cu,b.cv) fun r st'=>Res P h c q t 42 (m+3) st' ({ b with cu:=r.1,cv:=r.2 }:Bk).cs h') (KW 103 [.ptr q 0,.ptr t 0] h):=by
 have su:=sgn_b b.cu
 have sv:=sgn_b b.cv
 have rd:∀ o,h.rd1 t o=b.cs[o]?:=fun o=>rd1_of ht
 have z1:IntKind.i64.wrap (3*(sgn b.cu:Int))=3*(sgn b.cu:Int):=wi64 (by omega) (by omega)
 have z2:IntKind.i64.wrap (3*(sgn b.cu:Int)+(sgn b.cv:Int))=3*(sgn b.cu:Int)+(sgn b.cv:Int):=wi64 (by omega) (by omega)
 obtain ⟨h1,hh1⟩:∃ z,z=h.new (.cells [.int .i64 (3*(sgn b.cu:Int)+(sgn b.cv:Int))] 3 false):=⟨_,rfl⟩
 have x1:Ext h h1:=by rw [hh1];exact (Ext.refl h).new _
 have n1:h1.n=h.n+1:=by rw [hh1,H.n_new]
 have g1:h1.get h.n=some (.cells [.int .i64 (3*(sgn b.cu:Int)+(sgn b.cv:Int))] 3 false):=by rw [hh1,get_new_same]
 have a1:Co (fun b=>P b∨b=h.n) h1 c q m st 0:=by rw [hh1];exact a.box _
 have hqn:=a.lt q a.pq
 have htn:=a.lt t pt
 have hwj:st.sd.writes=true→0≤3*(sgn b.cu:Int)+(sgn b.cv:Int) - 1∧3*(sgn b.cu:Int)+(sgn b.cv:Int) - 1 < (vl 8:Nat):=fun h=>by have:=hw h;show _∧_ < ((8:Nat):Int);omega
 obtain ⟨_,h2,a2,rfl,R⟩:=(symbol60_ok a1 (t:=h.n) (o:=0) (k:=8) (x:=0) (v:=3*(sgn b.cu:Int)+(sgn b.cv:Int)) (f:=1) g1 (.inr rfl) (by omega) rfl (by omega) (by decide) (by decide) (by omega) (by decide) hwj).elim
 have j8:st.symV 8 0 (3*(sgn b.cu:Int)+(sgn b.cv:Int) - 1) < 8:=St.symV_lt a.ok.1 (k:=8) (by decide) (by decide) hwj
 have jw:st.sd.writes=true→((st.symV 8 0 (3*(sgn b.cu:Int)+(sgn b.cv:Int) - 1):Nat):Int)=3*(sgn b.cu:Int)+(sgn b.cv:Int) - 1:=fun h=>by rw [St.symV_w h];have:=hwj h;omega
 have ex:(colourP (b.cu,b.cv)).exec st=(restP (st.symV 8 0 (3*(sgn b.cu:Int)+(sgn b.cv:Int) - 1)) 0 (b.cu,b.cv)).exec (st.sym 8 0 (3*(sgn b.cu:Int)+(sgn b.cv:Int) - 1)):=rfl
 obtain ⟨j,hj⟩:∃ j,j=st.symV 8 0 (3*(sgn b.cu:Int)+(sgn b.cv:Int) - 1):=⟨_,rfl⟩
 rw [← hj] at R j8 jw ex
 have Rn:=R.kp.n
 have t2:h2.get t=_:=(R.kp.get t ⟨.inl pt,nt,by omega⟩).trans ((x1.get t htn).trans ht)
 obtain ⟨r,stF,hR⟩:=rest_ends j (b.cu,b.cv) (st.sym 8 0 (3*(sgn b.cu:Int)+(sgn b.cv:Int) - 1))
 have wF:stF.sd.writes=st.sd.writes:=(exec_wr' hR).trans (St.sym_wr _ _ _ _)
 have start:Res (fun b=>P b∨b=h.n) h2 c q t 42 (m+1+0) (st.sym 8 0 (3*(sgn b.cu:Int)+(sgn b.cv:Int) - 1)) ({ b with cu:=b.cu,cv:=b.cv }:Bk).cs h2:=⟨R.co,t2,Kp.refl _ _⟩
 have jb:h2.get h.n=some (.cells [.int .i64 ((j:Int)+1)] 3 false):=R.box
 have a2':KW 98 [.ptr q 0,.int .i64 8,.int .i64 0,.int .i64 1,.ptr h.n 0] h1=some (.ret (.tup []),h2):=a2
 rw [w103,f103,s103]
 simp [rd,sgn79_ok,z1,z2,nw,← hh1,a2']
 refine loop_in (C:=fun o=>RT _ (fin Tryz.prog _ _ (blk 0 o))) _ _ (loop65 (P:=P) (h0:=h2) (c:=c) (q:=q) (t:=t) (J:=h.n) (M:=m+1) (b:=b) (R:=(some r,stF)) (j:=j) rfl pt a.pq nt ⟨by omega,by omega⟩ (by omega) j8 (fun h=>by
  rw [wF] at h
  have h1:=hw h
  have h2:=jw h
  exact ⟨⟨by omega,h1.2.1⟩,⟨by omega,h1.2.2⟩⟩)) 2 ⟨Nat.le_refl _,⟨(b.cu,b.cv),_,start,hR.symm,hb1,hb2,fun _=>rfl⟩,jb,by simp,by simp,by simp,by simp⟩ ?_
 rintro ⟨sx,se,sh⟩ ⟨s1,⟨⟨v,st',Re,hRv,_,_,hwv⟩,_,_,_,_,_⟩⟩
 simp only at s1 Re
 subst s1
 simp
 have e2:(restP j 2 v).exec st'=(some v,st'):=rfl
 rw [e2] at hRv
 refine ⟨rfl,v,st',by rw [ex,hR,hRv],fun h=>hwv (by rw [← wF] at h;cases hRv;exact h),⟨(Re.co.less a.pq fun b hb=>.inl hb).more (by omega) hm,Re.box,⟨by have:=Re.kp.n;have:=x1.n;omega,?_⟩⟩⟩
 rintro i ⟨hi,iq,it⟩
 have:=a.lt i hi
 rw [Re.kp.get i ⟨.inl hi,iq,it⟩,R.kp.get i ⟨.inl hi,iq,by omega⟩,x1.get i this]
def SmallB (b:Bk):Prop:=(-1000≤b.ym∧b.ym≤1000)∧(-1000≤b.yd∧b.yd≤1000)∧(-1000≤b.um∧b.um≤1000)∧(-1000≤b.ud∧b.ud≤1000)∧(-1000≤b.cu∧b.cu≤1000)∧(-1000≤b.cv∧b.cv≤1000)
theorem intra32_ok {P:Nat→Prop} {h:H} {c q m:Nat} {st:St} (a:Co P h c q m st 0) {t:Nat} {b:Bk} (ht:h.get t=some (.cells b.cs 42 false)) (pt:P t) (nt:t ≠ q) (hm:m+7 < 100000000) (sh:ShapeB b) (sm:SmallB b) (hw:st.sd.writes=true→IntraB b) :
  RT (fun w h'=>w=.tup []∧Ends (intraP b) st b fun r st'=>(shapeB r=shapeB b∧r.skip=b.skip∧r.inter=b.inter∧r.tx=b.tx)∧Res P h c q t 42 (m+7) st' r.cs h') (KW 52 [.ptr q 0,.ptr t 0] h):=by
 obtain ⟨sy,syd,su,sud,scu,scv⟩:=sm
 obtain ⟨n,n3,n6,hmn,lg⟩:=sh.min
 have rb:h.rdN t 0 23=some b.cs:=by rw [rdN_of ht (by simp)];rfl
 obtain ⟨_,h1,a1,rfl,x1⟩:=(great63_ok b h).elim
 have pn:2 ^ n ≠ 0:=by have:=Nat.two_pow_pos n;omega
 have pn2:2 ^ n≤2 ^ 6:=Nat.pow_le_pow_right (by decide) n6
 rw [hmn] at a1
 have l1:=log62_ok pn (by omega) h1
 rw [Nat.log2_two_pow] at l1
 obtain ⟨mn,hmn'⟩:∃ z,z=2 ^ n:=⟨_,rfl⟩
 rw [← hmn'] at a1 l1
 have l8:=log62_ok (x:=8) (by decide) (by decide) h1
 rw [show Nat.log2 8=3 by decide,show ((8:Nat):Int)=8 from rfl,show ((3:Nat):Int)=3 from rfl] at l8
 have z3:IntKind.i64.wrap ((n:Int) - 3)=((n - 3:Nat):Int):=by rw [wi64 (by omega) (by omega)];omega
 have t1:h1.get t=_:=(x1.get t (H.get_lt ht)).trans ht
 have iw:=hw
 have wk:st.sd.writes=true→(0≤b.ym∧b.ym≤12)∧(0≤b.um∧b.um≤13)∧deltaB b.ym b.yd∧deltaB b.um b.ud∧cflB b:=fun h=>(hw h).2
 obtain ⟨_,h2,a2,rfl,r1,st1,ex1,w1,⟨k1,k2⟩,d1,R1⟩:=(mode61_ok (a.ext x1) (o1:=6) (o2:=7) (k:=4) (x:=n - 3) (v:=b.ym) (d:=b.yd) t1 pt nt rfl rfl (by decide) (by omega) (by decide) (by show n - 3 < 4;omega) sy syd (fun h=>by
  obtain ⟨h1,_,h3,_⟩:=wk h
  unfold deltaB at h3
  exact ⟨⟨h1.1,by show _ < ((13:Nat):Int);omega⟩,fun hd=>by omega⟩)).elim
 obtain ⟨b1,hb1⟩:∃ b1:Bk,b1={ b with ym:=r1.1,yd:=r1.2 }:=⟨_,rfl⟩
 have R1:Res P h1 c q t 42 (m+2) st1 b1.cs h2:=by rw [hb1];exact R1
 have rb2:h2.rdN t 0 23=some b1.cs:=by rw [rdN_of R1.box (by simp)];rfl
 obtain ⟨_,h3,a3,rfl,x3⟩:=(col64_ok b1 h2).elim
 have t3:h3.get t=_:=(x3.get t (H.get_lt R1.box)).trans R1.box
 have wr1:=exec_wr' ex1
 have uk:uvKind b1=uvKind b:=by rw [hb1];rfl
 have ukv:uvKind b < 32∧cx (uvKind b)=1∧(vl (uvKind b):Int)=(if imax b.w b.h≤32 then 14 else 13):=by unfold uvKind;split <;> refine ⟨by decide,rfl,?_⟩ <;> rfl
 obtain ⟨_,h4,a4,rfl,r2,st2,ex2,w2,⟨k3,k4⟩,d2,R2⟩:=(mode61_ok (R1.co.ext x3) (o1:=8) (o2:=9) (k:=uvKind b) (x:=0) (v:=b.um) (d:=b.ud) t3 pt nt (by rw [hb1];rfl) (by rw [hb1];rfl) (by decide) (by omega) ukv.1 (by rw [ukv.2.1];decide) su sud (fun h=>by
  rw [wr1] at h
  obtain ⟨_,h1,_,h3,h4⟩:=wk h
  unfold deltaB at h3
  unfold cflB at h4
  refine ⟨⟨h1.1,?_⟩,fun hd=>by omega⟩
  rw [ukv.2.2]
  by_cases c13:b.um=13
  ·rw [if_pos c13] at h4;rw [if_pos h4.2.1];omega
  ·split <;> omega)).elim
 obtain ⟨b2,hb2⟩:∃ b2:Bk,b2={ b1 with um:=r2.1,ud:=r2.2 }:=⟨_,rfl⟩
 have R2:Res P h3 c q t 42 (m+2+2) st2 b2.cs h4:=by rw [hb2];exact R2
 have wr2:=(exec_wr' ex2).trans wr1
 have rd4:∀ o,h4.rd1 t o=b2.cs[o]?:=fun o=>rd1_of R2.box
 have re4:=rd1_of (o:=1) R2.co.k
 have kp4:Kp (fun i=>P i∧i ≠ q∧i ≠ t) h h4:=(((Kp.of x1 fun i hi=>a.lt i hi.1).trans R1.kp).trans (Kp.of x3 fun i hi=>R1.co.lt i hi.1)).trans R2.kp
 have exA:(intraP b).exec st=(if r2.1=13 then (colourP (b.cu,b.cv)).bind fun c=>.done { b with ym:=r1.1,yd:=r1.2,um:=r2.1,ud:=r2.2,cu:=c.1,cv:=c.2 } else .done { b with ym:=r1.1,yd:=r1.2,um:=r2.1,ud:=r2.2 }).exec st2:=by
  unfold intraP
  rw [lg,Pr.exec_some ex1,Pr.exec_some ex2]
 have a4':KW 99 [.ptr q 0,.int .i64 (if imax b.w b.h≤32 then 7 else 6),.int .i64 0,.ptr t 8,.ptr t 9] h3=some (.ret (.tup []),h4):=by
  rw [← a4];unfold uvKind;split <;> rfl
 have bwh:b1.w=b.w∧b1.h=b.h:=by rw [hb1];exact ⟨rfl,rfl⟩
 rw [bwh.1,bwh.2] at a3
 have a2':KW 99 [.ptr q 0,.int .i64 4,.int .i64 ((n - 3:Nat):Int),.ptr t 6,.ptr t 7] h1=some (.ret (.tup []),h2):=a2
 have um2:b2.um=r2.1:=by rw [hb2]
 obtain ⟨Q,hQ⟩:∃ Q:V→H→Prop,Q=fun w h'=>w=.tup []∧Ends (intraP b) st b fun r st'=>(shapeB r=shapeB b∧r.skip=b.skip∧r.inter=b.inter∧r.tx=b.tx)∧Res P h c q t 42 (m+7) st' r.cs h':=⟨_,rfl⟩
 rw [← hQ]
 have eqb:st.sd.writes=true→b.ym=r1.1∧b.yd=r1.2∧b.um=r2.1∧b.ud=r2.2:=fun h=>by
  have e1:=w1 h
  have e2:=w2 (by rw [wr1];exact h)
  rw [e1,e2];exact ⟨rfl,rfl,rfl,rfl⟩
 rw [w52,f52,s52]
 by_cases c13:r2.1=13
 ·rw [if_pos c13] at exA
  obtain ⟨_,h5,a5,rfl,r3,st3,ex3,w3,R3⟩:=(colour65_ok R2.co (b:=b2) R2.box pt nt (by omega) (by rw [hb2,hb1];exact scu) (by rw [hb2,hb1];exact scv) (fun h=>by
   rw [wr2] at h
   obtain ⟨_,h1,_,h3,h4⟩:=wk h
   have um13:b.um=13:=(eqb h).2.2.1.trans c13
   unfold cflB at h4
   rw [if_pos um13] at h4
   rw [hb2,hb1]
   exact ⟨h4.1,h4.2.2.1,h4.2.2.2⟩)).elim
  have ecu:b2.cu=b.cu∧b2.cv=b.cv:=by rw [hb2,hb1];exact ⟨rfl,rfl⟩
  rw [ecu.1,ecu.2] at ex3 w3
  have hq:Q (.tup []) h5:=by
   rw [hQ]
   refine ⟨rfl,({ b with ym:=r1.1,yd:=r1.2,um:=r2.1,ud:=r2.2,cu:=r3.1,cv:=r3.2 }:Bk),st3,by rw [exA,Pr.exec_some ex3,Pr.exec_done],fun h=>?_,⟨rfl,rfl,rfl,rfl⟩,⟨R3.co.more (by omega) hm,by rw [R3.box,hb2,hb1],kp4.trans R3.kp⟩⟩
   have e3:=w3 (by rw [wr2];exact h)
   obtain ⟨q1,q2,q3,q4⟩:=eqb h
   rw [e3,← q1,← q2,← q3,← q4]
  have um2':b2.um=13:=um2.trans c13
  by_cases cc:imax b.w b.h≤32
  ·rw [if_pos cc] at a4'
   simp [rb,a1,l1,l8,z3,a2',rb2,a3,cc,a4',rd4,um2',re4,a5]
   exact hq
  ·rw [if_neg cc] at a4'
   simp [rb,a1,l1,l8,z3,a2',rb2,a3,cc,a4',rd4,um2',re4,a5]
   exact hq
 ·rw [if_neg c13] at exA
  have um2':¬ b2.um=13:=fun h=>c13 (um2.symm.trans h)
  have hq:Q (.tup []) h4:=by
   rw [hQ]
   refine ⟨rfl,({ b with ym:=r1.1,yd:=r1.2,um:=r2.1,ud:=r2.2 }:Bk),st2,by rw [exA,Pr.exec_done],fun h=>?_,⟨rfl,rfl,rfl,rfl⟩,⟨R2.co.more (by omega) hm,by rw [R2.box,hb2,hb1],kp4⟩⟩
   obtain ⟨q1,q2,q3,q4⟩:=eqb h
   rw [← q1,← q2,← q3,← q4]
  by_cases cc:imax b.w b.h≤32
  ·rw [if_pos cc] at a4'
   simp [rb,a1,l1,l8,z3,a2',rb2,a3,cc,a4',rd4,um2']
   exact hq
  ·rw [if_neg cc] at a4'
   simp [rb,a1,l1,l8,z3,a2',rb2,a3,cc,a4',rd4,um2']
   exact hq
open Go.Zf (wi64)
theorem size_depth {ll:Bool} {b:Bk} (sh:ShapeB b) (si:SizeB ll b) (nl:ll=false) (c:¬ (b.skip=true∧b.inter=true)) {n:Nat} (n3:3≤n) (n6:n≤6) (hm:imin b.w b.h=((2 ^ n:Nat):Int)) :
  ∃ d:Nat,d < (if n=3 then 2 else 3)∧b.tx=((2 ^ n / 2 ^ d:Nat):Int)∧depthP true b=(d:Nat):=by
 subst nl
 unfold SizeB at si
 simp only [Bool.false_eq_true,if_false,if_neg c] at si
 rw [hm] at si
 have hd:∃ d:Nat,d < (if n=3 then 2 else 3)∧b.tx=((2 ^ n / 2 ^ d:Nat):Int):=by
  rcases si with e | e | ⟨e0,e⟩
  ·exact ⟨0,by split <;> omega,by rw [e];simp⟩
  ·exact ⟨1,by split <;> omega,by rw [e];rfl⟩
  ·exact ⟨2,by rw [if_neg (by rintro rfl;revert e0;decide)];omega,by rw [e];rfl⟩
 obtain ⟨d,d1,d2⟩:=hd
 have hdn:d≤2:=by split at d1 <;> omega
 refine ⟨d,d1,d2,?_⟩
 unfold depthP
 rw [if_pos rfl,hm,d2]
 simp only [Int.toNat_natCast]
 rw [Nat.pow_div (by omega) (by decide),Nat.pow_div (by omega) (by decide),show n - (n - d)=d by omega,Nat.log2_two_pow]
theorem cs_tx (b:Bk) (x:Int):b.cs.set 12 (.int .i64 x)=({ b with tx:=x }:Bk).cs:=id rfl
theorem size33_ok {P:Nat→Prop} {h:H} {c q m:Nat} {st:St} (a:Co P h c q m st 0) {t:Nat} {b:Bk} (ht:h.get t=some (.cells b.cs 42 false)) (pt:P t) (nt:t ≠ q) (hm:m+1 < 100000000) (sh:ShapeB b) (ll:Bool) (hw:st.sd.writes=true→SizeB ll b) :
  RT (fun w h'=>w=.tup []∧Ends (sizeP st.sd.writes ll b) st b.tx fun r st'=>Res P h c q t 42 (m+1) st' ({ b with tx:=r }:Bk).cs h') (KW 53 [.ptr q 0,.ptr t 0,.bool ll] h):=by
 obtain ⟨n,n3,n6,hmn,lg⟩:=sh.min
 have rb:h.rdN t 0 23=some b.cs:=by rw [rdN_of ht (by simp)];rfl
 obtain ⟨_,h1,a1,rfl,x1⟩:=(great63_ok b h).elim
 have t1:h1.get t=_:=(x1.get t (H.get_lt ht)).trans ht
 have rd1:∀ o,h1.rd1 t o=b.cs[o]?:=fun o=>rd1_of t1
 have co1:=a.ext x1
 obtain ⟨F,hF⟩:∃ F:Int→List V,∀ r,F r=({ b with tx:=r }:Bk).cs:=⟨_,fun _=>rfl⟩
 have wtx:∀ r:Int,h1.wr1 t 12 (.int .i64 r)=some (h1.put t (.cells (F r) 42 false)):=fun r=>by rw [wr1_of t1 (by simp),cs_tx,hF]
 have resx:∀ r:Int,Res P h c q t 42 (m+1) st ({ b with tx:=r }:Bk).cs (h1.put t (.cells ({ b with tx:=r }:Bk).cs 42 false)):=fun r =>
  ⟨(co1.put pt nt _).more (by omega) hm,get_put_same (H.get_lt t1),⟨by rw [H.n_put];exact x1.n,fun i ⟨hi,_,it⟩=>by rw [get_put_ne it,x1.get i (a.lt i hi)]⟩⟩
 obtain ⟨Q,hQ⟩:∃ Q:V→H→Prop,Q=fun w h'=>w=.tup []∧Ends (sizeP st.sd.writes ll b) st b.tx fun r st'=>Res P h c q t 42 (m+1) st' ({ b with tx:=r }:Bk).cs h':=⟨_,rfl⟩
 rw [← hQ]
 have ixe:∀ r:Int,(sizeP st.sd.writes ll b).exec st=(some r,st)→(st.sd.writes=true→r=b.tx)→Q (.tup []) (h1.put t (.cells (F r) 42 false)):=fun r e1 e2=>by
  rw [hQ,hF];exact ⟨rfl,r,st,e1,e2,resx r⟩
 rw [w53,f53,s53]
 cases ll with
 | true =>
  have hq:=ixe 4 rfl (fun h=>by have:=hw h;unfold SizeB at this;rw [if_pos rfl] at this;exact this.symm)
  simp [rb,a1,wtx]
  exact hq
 | false =>
  by_cases c0:b.skip=true∧b.inter=true
  ·have hq:=ixe (imin b.w b.h) (by unfold sizeP;rw [if_neg (by decide),if_pos c0];rfl) (fun h=>by have:=hw h;unfold SizeB at this;simp only [Bool.false_eq_true,if_false,if_pos c0] at this;exact this.symm)
   simp [rb,a1,rd1,c0.1,c0.2,wtx]
   exact hq
  have exS:(sizeP st.sd.writes false b).exec st=(Pr.sym (if lgB b=3 then 10 else 11) (lgB b - 4) (depthP st.sd.writes b) fun d=>Pr.done (((imin b.w b.h).toNat / 2 ^ d:Nat):Int)).exec st:=by
   unfold sizeP;rw [if_neg (by decide),if_neg c0]
  rw [lg,hmn] at exS
  simp only [Int.toNat_natCast] at exS
  rw [hmn] at a1
  obtain ⟨dp,hdp⟩:∃ dp,dp=depthP st.sd.writes b:=⟨_,rfl⟩
  rw [← hdp] at exS
  have kv:(if n=3 then 10 else 11) < 32∧n - 4 < cx (if n=3 then 10 else 11)∧vl (if n=3 then 10 else 11)=(if n=3 then 2 else 3):=by
   rcases (by omega:n=3∨n=4∨n=5∨n=6) with rfl | rfl | rfl | rfl <;> decide
  have dw:st.sd.writes=true→∃ d:Nat,d < (if n=3 then 2 else 3)∧b.tx=((2 ^ n / 2 ^ d:Nat):Int)∧dp=(d:Nat):=fun h=>by
   obtain ⟨d,d1,d2,d3⟩:=size_depth sh (hw h) rfl c0 n3 n6 hmn
   exact ⟨d,d1,d2,by rw [hdp,h];exact d3⟩
  have d0:st.sd.writes=false→dp=0:=fun h=>by rw [hdp,h];rfl
  have dpb:0≤dp∧dp≤2:=by
   cases hww:st.sd.writes with
   | true=>obtain ⟨d,d1,_,d3⟩:=dw hww;split at d1 <;> omega
   | false=>have:=d0 hww;omega
  obtain ⟨h2,hh2⟩:∃ z,z=h1.new (.cells [.int .i64 dp] 3 false):=⟨_,rfl⟩
  have x2:Ext h1 h2:=by rw [hh2];exact (Ext.refl h1).new _
  have n2:h2.n=h1.n+1:=by rw [hh2,H.n_new]
  have g2:h2.get h1.n=some (.cells [.int .i64 dp] 3 false):=by rw [hh2,get_new_same]
  have co2:Co (fun b=>P b∨b=h1.n) h2 c q m st 0:=by rw [hh2];exact co1.box _
  have hqn:=co1.lt q a.pq
  have htn:=co1.lt t pt
  have wsm:st.sd.writes=true→0≤dp - 0∧dp - 0 < (vl (if n=3 then 10 else 11):Nat):=fun h=>by
   obtain ⟨d,d1,_,d3⟩:=dw h
   rw [kv.2.2];omega
  obtain ⟨_,h3,a3,rfl,R⟩:=(symbol60_ok co2 (t:=h1.n) (o:=0) (k:=if n=3 then 10 else 11) (x:=n - 4) (v:=dp) (f:=0) g2 (.inr rfl) (by omega) rfl (by omega) kv.1 kv.2.1 (by omega) (by decide) wsm).elim
  rw [Int.sub_zero,Int.add_zero] at R
  have sl:=St.symV_lt a.ok.1 kv.1 kv.2.1 (v:=dp) (fun h=>by have:=wsm h;omega)
  rw [kv.2.2] at sl
  have sw:st.sd.writes=true→((st.symV (if n=3 then 10 else 11) (n - 4) dp:Nat):Int)=dp:=fun h=>by rw [St.symV_w h];omega
  rw [Pr.exec_sym,Pr.exec_done] at exS
  obtain ⟨s,hs⟩:∃ s,s=st.symV (if n=3 then 10 else 11) (n - 4) dp:=⟨_,rfl⟩
  rw [← hs] at R sl sw exS
  have s3:s < 3:=by split at sl <;> omega
  have t3:h3.get t=_:=(R.kp.get t ⟨.inl pt,nt,by omega⟩).trans ((x2.get t htn).trans t1)
  have r3:h3.rd1 h1.n 0=some (.int .i64 (s:Nat)):=by rw [rd1_of R.box];rfl
  obtain ⟨mn,hmn'⟩:∃ z,z=2 ^ n:=⟨_,rfl⟩
  have mnb:8≤mn∧mn≤64∧((mn:Int)=8 ↔ n=3):=by rw [hmn'];rcases (by omega:n=3∨n=4∨n=5∨n=6) with rfl | rfl | rfl | rfl <;> decide
  rw [← hmn'] at a1 exS
  have shr:(mn:Int).fdiv (2 ^ min s 64)=((mn / 2 ^ s:Nat):Int):=by
   rw [hmn']
   rcases (by omega:n=3∨n=4∨n=5∨n=6) with rfl | rfl | rfl | rfl <;> rcases (by omega:s=0∨s=1∨s=2) with rfl | rfl | rfl <;> decide
  have w4:h3.wr1 t 12 (.int .i64 ((mn / 2 ^ s:Nat):Int))=some (h3.put t (.cells (F ((mn / 2 ^ s:Nat):Int)) 42 false)):=by rw [wr1_of t3 (by simp),cs_tx,hF]
  obtain ⟨y,hy⟩:∃ y,y=mn / 2 ^ s:=⟨_,rfl⟩
  rw [← hy] at shr w4 exS
  have bshr:binK 0 .shr (.int .i64 (mn:Nat)) (.int .i64 (s:Nat))=some (.int .i64 (y:Nat)):=by
   rw [binK_shr,if_neg (by omega),Int.toNat_natCast]
   show some (V.int .i64 ((mn:Int).fdiv (2 ^ min s 64)))=_
   rw [shr]
  have hq:Q (.tup []) (h3.put t (.cells (F (y:Nat)) 42 false)):=by
   rw [hQ,hF]
   refine ⟨rfl,(y:Nat),_,exS,fun h=>?_,⟨(R.co.put (.inl pt) nt _).less a.pq fun b hb=>.inl hb,get_put_same (H.get_lt t3),⟨by rw [H.n_put];have:=x1.n;have:=x2.n;have:=R.kp.n;omega,?_⟩⟩⟩
   · obtain ⟨d,d1,d2,d3⟩:=dw h
     have:=sw h
     have e:s=d:=by omega
     rw [d2,hy,hmn',e]
   · rintro i ⟨hi,iq,it⟩
     rw [get_put_ne it,R.kp.get i ⟨.inl hi,iq,by have:=co1.lt i hi;omega⟩,x2.get i (co1.lt i hi),x1.get i (a.lt i hi)]
  -- the depth as it is found
  have t10:∀ X,(h1.new X).rd1 t 12=some (.int .i64 b.tx):=fun X=>by rw [rd1_of (by rw [get_new_lt htn];exact t1)];rfl
  have q10:∀ X,(h1.new X).rd1 q 0=some (.ptr c 0):=fun X=>by rw [rd1_of (by rw [get_new_lt hqn];exact co1.k)];rfl
  have q20:h2.rd1 q 0=some (.ptr c 0):=by rw [rd1_of co2.k];rfl
  have wrt:∀ X,KW 42 [.ptr c 0] (h1.new X)=some (.ret (.bool st.sd.writes),h1.new X):=fun X=>by
   obtain ⟨⟨D,C,_⟩,_⟩:=co1.box X
   exact writes26_ok C
  have l16:=log62_ok (x:=16) (by decide) (by decide) h2
  rw [show Nat.log2 16=4 by decide,show ((16:Nat):Int)=16 from rfl,show ((4:Nat):Int)=4 from rfl] at l16
  have lmn:=log62_ok (x:=mn) (by omega) (by omega) h2
  rw [hmn',Nat.log2_two_pow,← hmn'] at lmn
  have z4:n ≠ 3→IntKind.i64.wrap ((n:Int) - 4)=((n - 4:Nat):Int):=fun h=>by rw [wi64 (by omega) (by omega)];omega
  have zc:n=3→KW 98 [.ptr q 0,.int .i64 10,.int .i64 0,.int .i64 0,.ptr h1.n 0] h2=some (.ret (.tup []),h3):=fun h=>by rw [← a3,if_pos h,h];rfl
  have zd:n ≠ 3→KW 98 [.ptr q 0,.int .i64 11,.int .i64 ((n - 4:Nat):Int),.int .i64 0,.ptr h1.n 0] h2=some (.ret (.tup []),h3):=fun h=>by rw [← a3,if_neg h];rfl
  have tail:∀ e:E,e.s [0,1,2,6,7] 0=.ptr q 0→e.s [0,1,2,6,7] 1=.ptr t 0→e.s [0,1,2,6,7] 6=.int .i64 (mn:Nat)→e.s [0,1,2,6,7] 7=.ptr h1.n 0→True:=fun _ _ _ _ _=>trivial
  cases hww:st.sd.writes with
  | false =>
   have e0:=d0 hww
   rw [e0] at hh2
   have wrt2:KW 42 [.ptr c 0] h2=some (.ret (.bool false),h2):=by rw [hh2,wrt,hww]
   have w20:h2.wr1 h1.n 0 (.int .i64 0)=some h2:=by rw [hh2,wr1_new _ _ _ _ _ (by simp)];rfl
   by_cases cs:b.skip=true
   · have ci:b.inter=false:=by cases h:b.inter with
      | false=>rfl
      | true=>exact (c0 ⟨cs,h⟩).elim
     by_cases c3:n=3
     ·simp [rb,a1,rd1,cs,ci,nw,← hh2,w20,q20,wrt2,eq_true (mnb.2.2.2 c3),zc c3,r3,-binK_shr,bshr,w4]
      exact hq
     ·have m8:¬ (mn:Int)=8:=fun h=>c3 (mnb.2.2.1 h)
      simp [rb,a1,rd1,cs,ci,nw,← hh2,w20,q20,wrt2,m8,lmn,l16,z4 c3,zd c3,r3,-binK_shr,bshr,w4]
      exact hq
   · by_cases c3:n=3
     ·simp [rb,a1,rd1,cs,nw,← hh2,w20,q20,wrt2,eq_true (mnb.2.2.2 c3),zc c3,r3,-binK_shr,bshr,w4]
      exact hq
     ·have m8:¬ (mn:Int)=8:=fun h=>c3 (mnb.2.2.1 h)
      simp [rb,a1,rd1,cs,nw,← hh2,w20,q20,wrt2,m8,lmn,l16,z4 c3,zd c3,r3,-binK_shr,bshr,w4]
      exact hq
  | true =>
   obtain ⟨d,d1,d2,d3⟩:=dw hww
   have d2':d≤2:=by split at d1 <;> omega
   rw [← hmn'] at d2
   have wrt0:∀ X,KW 42 [.ptr c 0] (h1.new X)=some (.ret (.bool true),h1.new X):=fun X=>by rw [wrt,hww]
   have txn:¬ b.tx=0∧(mn:Int).tdiv b.tx=((2 ^ d:Nat):Int):=by
     rw [d2,hmn']
     rcases (by omega:n=3∨n=4∨n=5∨n=6) with rfl | rfl | rfl | rfl <;> rcases (by omega:d=0∨d=1∨d=2) with rfl | rfl | rfl <;> decide
   obtain ⟨pd,hpd⟩:∃ z,z=2 ^ d:=⟨_,rfl⟩
   have pdb:pd ≠ 0∧pd≤4:=by rw [hpd];rcases (by omega:d=0∨d=1∨d=2) with rfl | rfl | rfl <;> decide
   rw [← hpd] at txn
   have zpd:IntKind.i64.wrap (pd:Int)=pd:=wi64 (by omega) (by omega)
   have lpd:∀ X,KW 100 [.int .i64 (pd:Nat)] (h1.new X)=some (.ret (.int .i64 dp),h1.new X):=fun X=>by
     rw [log62_ok pdb.1 (by omega),hpd,Nat.log2_two_pow,d3]
   by_cases cs:b.skip=true
   · have ci:b.inter=false:=by cases h:b.inter with
      | false=>rfl
      | true=>exact (c0 ⟨cs,h⟩).elim
     by_cases c3:n=3
     ·simp [rb,a1,rd1,cs,ci,nw,q10,wrt0,t10,txn.1,txn.2,zpd,lpd,← hh2,eq_true (mnb.2.2.2 c3),zc c3,r3,-binK_shr,bshr,w4]
      exact hq
     ·have m8:¬ (mn:Int)=8:=fun h=>c3 (mnb.2.2.1 h)
      simp [rb,a1,rd1,cs,ci,nw,q10,wrt0,t10,txn.1,txn.2,zpd,lpd,← hh2,m8,lmn,l16,z4 c3,zd c3,r3,-binK_shr,bshr,w4]
      exact hq
   · by_cases c3:n=3
     ·simp [rb,a1,rd1,cs,nw,q10,wrt0,t10,txn.1,txn.2,zpd,lpd,← hh2,eq_true (mnb.2.2.2 c3),zc c3,r3,-binK_shr,bshr,w4]
      exact hq
     ·have m8:¬ (mn:Int)=8:=fun h=>c3 (mnb.2.2.1 h)
      simp [rb,a1,rd1,cs,nw,q10,wrt0,t10,txn.1,txn.2,zpd,lpd,← hh2,m8,lmn,l16,z4 c3,zd c3,r3,-binK_shr,bshr,w4]
      exact hq
open Go.Zf (wi64)
theorem or8 {a b:Nat} (ha:a < 4611686018427387) (hb:b < 8):binK 0 .or (.int .i64 ((8*a:Nat):Int)) (.int .i64 (b:Nat))=some (.int .i64 ((8*a+b:Nat):Int)):=by
 have e1:(BitVec.ofInt 64 ((8*a:Nat):Int)).toNat=8*a:=by
  rw [BitVec.ofInt_natCast,BitVec.toNat_ofNat,Nat.mod_eq_of_lt (by omega)]
 have e2:(BitVec.ofInt 64 (b:Int)).toNat=b:=by
  rw [BitVec.ofInt_natCast,BitVec.toNat_ofNat,Nat.mod_eq_of_lt (by omega)]
 rw [binK_or]
 show some (V.int .i64 (IntKind.i64.wrap ((BitVec.ofInt 64 ((8*a:Nat):Int) ||| BitVec.ofInt 64 (b:Int)).toNat:Int)))=_
 rw [BitVec.toNat_or,e1,e2]
 have:=Nat.shiftLeft_add_eq_or_of_lt (a:=a) (i:=3) (b:=b) (by omega)
 rw [Nat.shiftLeft_eq,show 2 ^ 3=8 from rfl,Nat.mul_comm a 8] at this
 rw [← this,wi64 (by omega) (by omega)]
theorem shl_p {k:Nat} (hk:k≤30) {a:Nat} (ha:a≤1000000):binK 0 .shl (.int .i64 (a:Nat)) (.int .i64 (k:Nat))=some (.int .i64 ((a*2 ^ k:Nat):Int)):=by
 have h1:2 ^ k≤2 ^ 30:=Nat.pow_le_pow_right (by decide) hk
 have h2:a*2 ^ k≤1000000*2 ^ 30:=Nat.mul_le_mul ha h1
 rw [binK_shl,if_neg (by omega),Int.toNat_natCast]
 show some (V.int .i64 (IntKind.i64.wrap ((a:Int)*2 ^ min k 64)))=_
 rw [Nat.min_eq_left (by omega),wi64 (by have:=two_pow_cast k;rw [← this,← Int.natCast_mul];omega) (by have:=two_pow_cast k;rw [← this,← Int.natCast_mul];omega)]
 rw [Int.natCast_mul,two_pow_cast]
def partV (b cl r f:Nat):Int:=if b=1 then -(((2 ^ cl+r - 1)*8+f:Nat):Int) - 1 else (((2 ^ cl+r - 1)*8+f:Nat):Int)+1
theorem part80_ok {P:Nat→Prop} {h:H} {c q m:Nat} {st:St} (a:Co P h c q m st 0) {x:Nat} (hx:x < 2) {v:Int} (hb : -20000≤v∧v≤20000) (hm:m+13 < 100000000) (hw:st.sd.writes=true→v ≠ 0∧v.natAbs≤16376) :
  RT (fun w h'=>∃ r:Int,w=.int .i64 r∧∃ st',(partP x v).exec st=(some r,st')∧(st.sd.writes=true→r=v)∧(-20000≤r∧r≤20000)∧Co P h' c q (m+13) st' 0∧Kp (fun b=>P b∧b ≠ q) h h') (KW 145 [.ptr q 0,.int .i64 (x:Nat),.int .i64 v] h):=by
 have ab:=iabs_b v
 have mb:=imax_b (iabs v) 1
 have hqn:=a.lt q a.pq
 have m3:maxV [.int .i64 v,.int .i64 (-v),.int .i64 1]=some (.int .i64 (imax (iabs v) 1)):=max3 v (-v) 1
 have zn:IntKind.i64.wrap (-v) = -v:=wi64 (by omega) (by omega)
 obtain ⟨M,hM⟩:∃ M,M=mOf v:=⟨_,rfl⟩
 have Mb:M≤20000∧imax (iabs v) 1 - 1=(M:Int):=by rw [hM];unfold mOf;omega
 have zM:IntKind.i64.wrap (imax (iabs v) 1 - 1)=(M:Int):=by rw [wi64 (by omega) (by omega)];exact Mb.2
 -- below
 obtain ⟨h1,hh1⟩:∃ z,z=h.new (.cells [.int .i64 (flg (decide (v < 0)))] 3 false):=⟨_,rfl⟩
 have x1:Ext h h1:=by rw [hh1];exact (Ext.refl h).new _
 have n1:h1.n=h.n+1:=by rw [hh1,H.n_new]
 have g1:h1.get h.n=some (.cells [.int .i64 (flg (decide (v < 0)))] 3 false):=by rw [hh1,get_new_same]
 have a1:Co (fun b=>P b∨b=h.n) h1 c q m st 0:=by rw [hh1];exact a.box _
 have fb:0≤flg (decide (v < 0))∧flg (decide (v < 0))≤1:=by cases decide (v < 0) <;> decide
 obtain ⟨_,h2,a2,rfl,R2⟩:=(bits93_ok a1 (t:=h.n) (o:=0) (n:=1) (v:=flg (decide (v < 0))) g1 (.inr rfl) (by omega) rfl (by omega) (by decide) (fun _=>by show _∧_ < ((2:Nat):Int);omega)).elim
 have bl:=St.numV_lt (v:=(flg (decide (v < 0))).toNat) a.ok.2 (n:=1) (by omega)
 have bw:st.sd.writes=true→st.numV 1 (flg (decide (v < 0))).toNat=(flg (decide (v < 0))).toNat:=fun h=>St.numV_w h 1 _ (by show _ < 2;omega)
 obtain ⟨below,hbe⟩:∃ z,z=st.numV 1 (flg (decide (v < 0))).toNat:=⟨_,rfl⟩
 obtain ⟨st2,hst2⟩:∃ z,z=st.num 1 (flg (decide (v < 0))).toNat:=⟨_,rfl⟩
 rw [← hbe] at R2 bl bw
 rw [← hst2] at R2
 have w2:st2.sd.writes=st.sd.writes:=by rw [hst2];exact St.num_wr _ _ _
 have a2':KW 169 [.ptr q 0,.int .i64 1,.ptr h.n 0] h1=some (.ret (.tup []),h2):=a2
 have n2:=R2.kp.n
 have b2:h2.get h.n=some (.cells [.int .i64 (below:Nat)] 3 false):=R2.box
 -- frac,class,rest
 obtain ⟨h3,hh3⟩:∃ z,z=h2.new (.cells [.int .i64 ((M % 8:Nat):Int)] 3 false):=⟨_,rfl⟩
 have x3:Ext h2 h3:=by rw [hh3];exact (Ext.refl h2).new _
 have n3:h3.n=h2.n+1:=by rw [hh3,H.n_new]
 have a3:Co (fun b=>(P b∨b=h.n)∨b=h2.n) h3 c q (m+1) st2 0:=by rw [hh3];exact R2.co.box _
 have L0:M / 8+1 ≠ 0:=by omega
 have lb:=log2_b L0
 have L11:Nat.log2 (M / 8+1) < 12:=(Nat.log2_lt L0).2 (by omega)
 have lg:=log62_ok L0 (by omega) h3
 obtain ⟨L,hL⟩:∃ L,L=Nat.log2 (M / 8+1):=⟨_,rfl⟩
 rw [← hL] at lb L11 lg
 obtain ⟨h4,hh4⟩:∃ z,z=h3.new (.cells [.int .i64 (L:Nat)] 3 false):=⟨_,rfl⟩
 have x4:Ext h3 h4:=by rw [hh4];exact (Ext.refl h3).new _
 have n4:h4.n=h3.n+1:=by rw [hh4,H.n_new]
 have a4:Co (fun b=>((P b∨b=h.n)∨b=h2.n)∨b=h3.n) h4 c q (m+1) st2 0:=by rw [hh4];exact a3.box _
 have r4:h4.rd1 h3.n 0=some (.int .i64 (L:Nat)):=by rw [hh4];exact rd1_new _ _ _ _ _
 have pc:=two_pow_cast L
 obtain ⟨rest,hrest⟩:∃ z,z=M / 8+1 - 2 ^ L:=⟨_,rfl⟩
 have pL:=Nat.pow_succ 2 L
 have s1:binK 0 .shl (.int .i64 1) (.int .i64 (L:Nat))=some (.int .i64 ((2 ^ L:Nat):Int)):=by have:=shl_p (k:=L) (by omega) (a:=1) (by decide);rw [Nat.one_mul] at this;exact this
 obtain ⟨pw_,hpw⟩:∃ z,z=2 ^ L:=⟨_,rfl⟩
 rw [← hpw] at s1 hrest lb
 rw [pL,← hpw] at lb
 have zr:IntKind.i64.wrap (((M / 8+1:Nat):Int) - (pw_:Nat))=(rest:Nat):=by rw [wi64 (by omega) (by omega)];omega
 obtain ⟨h5,hh5⟩:∃ z,z=h4.new (.cells [.int .i64 (rest:Nat)] 3 false):=⟨_,rfl⟩
 have x5:Ext h4 h5:=by rw [hh5];exact (Ext.refl h4).new _
 have n5:h5.n=h4.n+1:=by rw [hh5,H.n_new]
 have a5:Co (fun b=>(((P b∨b=h.n)∨b=h2.n)∨b=h3.n)∨b=h4.n) h5 c q (m+1) st2 0:=by rw [hh5];exact a4.box _
 have g5a:h5.get h.n=some (.cells [.int .i64 (below:Nat)] 3 false):=by rw [x5.get _ (by omega),x4.get _ (by omega),x3.get _ (by omega)];exact b2
 have g5b:h5.get h2.n=some (.cells [.int .i64 ((M % 8:Nat):Int)] 3 false):=by rw [x5.get _ (by omega),x4.get _ (by omega),hh3];exact get_new_same
 have g5c:h5.get h3.n=some (.cells [.int .i64 (L:Nat)] 3 false):=by rw [x5.get _ (by omega),hh4];exact get_new_same
 have g5d:h5.get h4.n=some (.cells [.int .i64 (rest:Nat)] 3 false):=by rw [hh5];exact get_new_same
 -- the class
 have hwv:st.sd.writes=true→M≤16375∧L < 11∧M+1=v.natAbs:=fun h=>by
  obtain ⟨h1,h2⟩:=hw h
  have e:M+1=v.natAbs:=by rw [hM];unfold mOf;omega
  refine ⟨by omega,?_,e⟩
  rw [hL];exact (Nat.log2_lt L0).2 (by omega)
 have cw:st2.sd.writes=true→0≤(L:Int) - 0∧(L:Int) - 0 < (vl 18:Nat):=fun h=>by
  have:=hwv (by rw [← w2];exact h)
  show _∧_ < ((11:Nat):Int);omega
 obtain ⟨_,h6,a6,rfl,R6⟩:=(symbol60_ok a5 (t:=h3.n) (o:=0) (k:=18) (x:=x) (v:=(L:Nat)) (f:=0) g5c (.inl (.inr rfl)) (by omega) rfl (by omega) (by decide) hx (by omega) (by decide) cw).elim
 rw [Int.sub_zero,Int.add_zero] at R6
 have cl_l:st2.symV 18 x (L:Nat) < 11:=St.symV_lt a5.ok.1 (k:=18) (by decide) hx (fun h=>by have:=cw h;omega)
 have cl_w:st2.sd.writes=true→st2.symV 18 x (L:Nat)=L:=fun h=>by rw [St.symV_w h];omega
 obtain ⟨cl,hcl⟩:∃ z,z=st2.symV 18 x (L:Nat):=⟨_,rfl⟩
 obtain ⟨st6,hst6⟩:∃ z,z=st2.sym 18 x (L:Nat):=⟨_,rfl⟩
 rw [← hcl] at R6 cl_l cl_w
 rw [← hst6] at R6
 have w6:st6.sd.writes=st.sd.writes:=by rw [hst6,St.sym_wr,w2]
 have n6:=R6.kp.n
 have a6':KW 98 [.ptr q 0,.int .i64 18,.int .i64 (x:Nat),.int .i64 0,.ptr h3.n 0] h5=some (.ret (.tup []),h6):=a6
 have g6a:h6.get h.n=_:=(R6.kp.get _ ⟨.inl (.inl (.inl (.inr rfl))),by omega,by omega⟩).trans g5a
 have g6b:h6.get h2.n=_:=(R6.kp.get _ ⟨.inl (.inl (.inr rfl)),by omega,by omega⟩).trans g5b
 have g6c:h6.get h3.n=some (.cells [.int .i64 (cl:Nat)] 3 false):=R6.box
 have g6d:h6.get h4.n=_:=(R6.kp.get _ ⟨.inr rfl,by omega,by omega⟩).trans g5d
 -- what is more
 have rw_:st6.sd.writes=true→0≤(rest:Int)∧(rest:Int) < pw cl:=fun h=>by
  have hh:=hwv (by rw [← w6];exact h)
  have:=cl_w (by rw [w2,← w6];exact h)
  unfold pw
  rw [this,← hpw];omega
 obtain ⟨_,h7,a7,rfl,R7⟩:=(bits93_ok R6.co (t:=h4.n) (o:=0) (n:=cl) (v:=(rest:Nat)) g6d (.inr rfl) (by omega) rfl (by omega) (by omega) rw_).elim
 rw [Int.toNat_natCast] at R7
 have re_l:=St.numV_lt (v:=rest) R6.co.ok.2 (n:=cl) (by omega)
 have re_w:st6.sd.writes=true→st6.numV cl rest=rest:=fun h=>St.numV_w h cl _ (by have:=(rw_ h).2;unfold pw at this;omega)
 obtain ⟨re,hre⟩:∃ z,z=st6.numV cl rest:=⟨_,rfl⟩
 obtain ⟨st7,hst7⟩:∃ z,z=st6.num cl rest:=⟨_,rfl⟩
 rw [← hre] at R7 re_l re_w
 rw [← hst7] at R7
 have w7:st7.sd.writes=st.sd.writes:=by rw [hst7,St.num_wr,w6]
 have n7:=R7.kp.n
 have g7a:h7.get h.n=_:=(R7.kp.get _ ⟨.inl (.inl (.inl (.inr rfl))),by omega,by omega⟩).trans g6a
 have g7b:h7.get h2.n=_:=(R7.kp.get _ ⟨.inl (.inl (.inr rfl)),by omega,by omega⟩).trans g6b
 have g7c:h7.get h3.n=_:=(R7.kp.get _ ⟨.inl (.inr rfl),by omega,by omega⟩).trans g6c
 have g7d:h7.get h4.n=some (.cells [.int .i64 (re:Nat)] 3 false):=R7.box
 -- the fraction
 obtain ⟨_,h8,a8,rfl,R8⟩:=(symbol60_ok R7.co (t:=h2.n) (o:=0) (k:=19) (x:=x) (v:=((M % 8:Nat):Int)) (f:=0) g7b (.inl (.inl (.inr rfl))) (by omega) rfl (by omega) (by decide) hx (by omega) (by decide) (fun _=>by show _∧_ < ((8:Nat):Int);omega)).elim
 rw [Int.sub_zero,Int.add_zero] at R8
 have f_l:st7.symV 19 x ((M % 8:Nat):Int) < 8:=St.symV_lt R7.co.ok.1 (k:=19) (by decide) hx (fun _=>by show _∧_ < ((8:Nat):Int);omega)
 have f_w:st7.sd.writes=true→st7.symV 19 x ((M % 8:Nat):Int)=M % 8:=fun h=>by rw [St.symV_w h];omega
 obtain ⟨f,hf⟩:∃ z,z=st7.symV 19 x ((M % 8:Nat):Int):=⟨_,rfl⟩
 rw [← hf] at R8 f_l f_w
 have n8:=R8.kp.n
 have a8':KW 98 [.ptr q 0,.int .i64 19,.int .i64 (x:Nat),.int .i64 0,.ptr h2.n 0] h7=some (.ret (.tup []),h8):=a8
 have q8a:=rd1_of (o:=0) ((R8.kp.get h.n ⟨.inl (.inl (.inl (.inr rfl))),by omega,by omega⟩).trans g7a)
 have q8b:h8.rd1 h2.n 0=some (.int .i64 (f:Nat)):=by rw [rd1_of R8.box];rfl
 have q8c:=rd1_of (o:=0) ((R8.kp.get h3.n ⟨.inl (.inr rfl),by omega,by omega⟩).trans g7c)
 have q8d:=rd1_of (o:=0) ((R8.kp.get h4.n ⟨.inr rfl,by omega,by omega⟩).trans g7d)
 have q6c:=rd1_of (o:=0) g6c
 have pcl:2 ^ cl≤2 ^ 10:=Nat.pow_le_pow_right (by decide) (by omega)
 have pcl0:=Nat.two_pow_pos cl
 have s2:binK 0 .shl (.int .i64 1) (.int .i64 (cl:Nat))=some (.int .i64 ((2 ^ cl:Nat):Int)):=by have:=shl_p (k:=cl) (by omega) (a:=1) (by decide);rw [Nat.one_mul] at this;exact this
 have exP:(partP x v).exec st=(some (partV below cl re f),st7.sym 19 x ((M % 8:Nat):Int)):=by
  unfold partP partV
  rw [← hM,← hL,← hpw,← hrest]
  rw [Pr.exec_num,← hbe,← hst2,Pr.exec_sym,← hcl,← hst6,Pr.exec_num,Int.toNat_natCast,← hre,← hst7,Pr.exec_sym,← hf,Pr.exec_done]
 obtain ⟨pc_,hpc⟩:∃ z,z=2 ^ cl:=⟨_,rfl⟩
 have hpv:partV below cl re f=if below=1 then -((8*(pc_+re - 1)+f:Nat):Int) - 1 else ((8*(pc_+re - 1)+f:Nat):Int)+1:=by
  unfold partV;rw [← hpc,Nat.mul_comm]
 rw [← hpc] at s2 pcl pcl0 re_l
 obtain ⟨A,hA⟩:∃ A,A=pc_+re - 1:=⟨_,rfl⟩
 rw [← hA] at hpv
 have Ab:A≤2046:=by omega
 have zz1:IntKind.i64.wrap ((pc_:Int)+re)=((pc_+re:Nat):Int):=by rw [wi64 (by omega) (by omega)];omega
 have zz2:IntKind.i64.wrap (((pc_+re:Nat):Int) - 1)=(A:Nat):=by rw [wi64 (by omega) (by omega)];omega
 have s3:binK 0 .shl (.int .i64 (A:Nat)) (.int .u64 3)=some (.int .i64 ((8*A:Nat):Int)):=by
  rw [binK_shl,if_neg (by decide)]
  show some (V.int .i64 (IntKind.i64.wrap ((A:Int)*2 ^ min (3:Int).toNat 64)))=_
  rw [show min (3:Int).toNat 64=3 by decide,show (2:Int) ^ 3=8 by decide,wi64 (by omega) (by omega)]
  congr 2;omega
 have s4:=or8 (a:=A) (b:=f) (by omega) f_l
 have s5:binK 0 .shr (.int .i64 (M:Nat)) (.int .u64 3)=some (.int .i64 ((M / 8:Nat):Int)):=by
  rw [binK_shr,if_neg (by decide)]
  show some (V.int .i64 ((M:Int).fdiv (2 ^ min (3:Int).toNat 64)))=_
  rw [show min (3:Int).toNat 64=3 by decide,show (2:Int) ^ 3=8 by decide]
  congr 2;rw [Int.fdiv_eq_ediv_of_nonneg _ (by decide)];omega
 have s6:binK 0 .and (.int .i64 (M:Nat)) (.int .i64 7)=some (.int .i64 ((M % 8:Nat):Int)):=by
  have:=binK_mask 0 (M:Int) 3 (by decide)
  rw [show (2:Int) ^ 3 - 1=7 by decide,show (2:Int) ^ 3=8 by decide] at this
  rw [this];congr 2
 obtain ⟨M8,hM8⟩:∃ z,z=M / 8:=⟨_,rfl⟩
 obtain ⟨Mr,hMr⟩:∃ z,z=M % 8:=⟨_,rfl⟩
 rw [← hM8] at s5 zr lg
 rw [← hMr] at s6 hh3
 have zM8:IntKind.i64.wrap ((M8:Int)+1)=((M8+1:Nat):Int):=by rw [wi64 (by omega) (by omega)];omega
 obtain ⟨T,hT⟩:∃ z,z=8*A+f:=⟨_,rfl⟩
 rw [← hT] at s4 hpv
 obtain ⟨A8,hA8⟩:∃ z,z=8*A:=⟨_,rfl⟩
 rw [← hA8] at s3 s4
 have zT1:IntKind.i64.wrap (-(T:Int)) = -(T:Int):=wi64 (by omega) (by omega)
 have zT2:IntKind.i64.wrap (-(T:Int) - 1) = -(T:Int) - 1:=wi64 (by omega) (by omega)
 have zT3:IntKind.i64.wrap ((T:Int)+1)=(T:Int)+1:=wi64 (by omega) (by omega)
 have coF:Co P h8 c q (m+13) (st7.sym 19 x ((M % 8:Nat):Int)) 0:=(R8.co.less a.pq fun b hb=>.inl (.inl (.inl (.inl hb)))).more (by omega) hm
 have kpF:Kp (fun b=>P b∧b ≠ q) h h8:=by
  refine ⟨by have:=x1.n;omega,?_⟩
  rintro i ⟨hi,iq⟩
  have hin:=a.lt i hi
  rw [R8.kp.get i ⟨.inl (.inl (.inl (.inl hi))),iq,by omega⟩,R7.kp.get i ⟨.inl (.inl (.inl (.inl hi))),iq,by omega⟩,R6.kp.get i ⟨.inl (.inl (.inl (.inl hi))),iq,by omega⟩,x5.get i (by omega),x4.get i (by omega),x3.get i (by omega),R2.kp.get i ⟨.inl hi,iq,by omega⟩,x1.get i hin]
 have hval:st.sd.writes=true→partV below cl re f=v:=fun h=>by
  obtain ⟨h1,h2,h3⟩:=hwv h
  have e1:=bw h
  have e2:=cl_w (by rw [w2];exact h)
  have e3:=re_w (by rw [w6];exact h)
  have e4:=f_w (by rw [w7];exact h)
  have e5:pc_=pw_:=by rw [hpc,hpw,e2]
  rw [hpv]
  have e6:T=M:=by omega
  rw [e6]
  by_cases c0:v < 0
  ·have:below=1:=by rw [e1];simp [flg,c0]
   rw [if_pos this];omega
  ·have:¬ below=1:=by rw [e1];simp [flg,c0]
   rw [if_neg this];omega
 obtain ⟨Q,hQ⟩:∃ Q:V→H→Prop,Q=fun w h'=>∃ r:Int,w=.int .i64 r∧∃ st',(partP x v).exec st=(some r,st')∧(st.sd.writes=true→r=v)∧(-20000≤r∧r≤20000)∧Co P h' c q (m+13) st' 0∧Kp (fun b=>P b∧b ≠ q) h h':=⟨_,rfl⟩
 rw [← hQ]
 have hq:∀ r,r=partV below cl re f→Q (.int .i64 r) h8:=fun r e=>by
  rw [hQ];exact ⟨r,rfl,_,by rw [e];exact exP,fun h=>by rw [e];exact hval h,by rw [e,hpv];split <;> omega,coF,kpF⟩
 rw [w145,f145,s145]
 have wr1:(h.new (.cells [.int .i64 0] 3 false)).wr1 h.n 0 (.int .i64 1)=some (h.new (.cells [.int .i64 1] 3 false)):=wr1_new _ _ _ _ _ (by simp)
 by_cases c0:v < 0
 ·have e1:flg (decide (v < 0))=1:=by simp [flg,c0]
  rw [e1] at hh1
  by_cases cb:below=1
  ·have cb':(below:Int)=1:=by omega
   rw [if_pos cb] at hpv
   have:=hq _ hpv.symm
   simp [zn,m3,zM,nw,wr1,c0,← hh1,a2',-binK_shr,s5,-binK_and,s6,← hh3,zM8,-Int.natCast_add,lg,← hh4,r4,-binK_shl,s1,zr,← hh5,a6',q6c,a7,a8',q8a,q8b,q8c,q8d,s2,zz1,zz2,s3,-binK_or,s4,eq_true cb',zT1,zT2]
   exact this
  ·have cb':¬ (below:Int)=1:=by omega
   rw [if_neg cb] at hpv
   have:=hq _ hpv.symm
   simp [zn,m3,zM,nw,wr1,c0,← hh1,a2',-binK_shr,s5,-binK_and,s6,← hh3,zM8,-Int.natCast_add,lg,← hh4,r4,-binK_shl,s1,zr,← hh5,a6',q6c,a7,a8',q8a,q8b,q8c,q8d,s2,zz1,zz2,s3,-binK_or,s4,cb',zT3]
   exact this
 ·have e1:flg (decide (v < 0))=0:=by simp [flg,c0]
  rw [e1] at hh1
  have wr0:h1.wr1 h.n 0 (.int .i64 0)=some h1:=by rw [hh1,wr1_new _ _ _ _ _ (by simp)];rfl
  by_cases cb:below=1
  ·have cb':(below:Int)=1:=by omega
   rw [if_pos cb] at hpv
   have:=hq _ hpv.symm
   simp [zn,m3,zM,nw,wr0,c0,← hh1,a2',-binK_shr,s5,-binK_and,s6,← hh3,zM8,-Int.natCast_add,lg,← hh4,r4,-binK_shl,s1,zr,← hh5,a6',q6c,a7,a8',q8a,q8b,q8c,q8d,s2,zz1,zz2,s3,-binK_or,s4,eq_true cb',zT1,zT2]
   exact this
  ·have cb':¬ (below:Int)=1:=by omega
   rw [if_neg cb] at hpv
   have:=hq _ hpv.symm
   simp [zn,m3,zM,nw,wr0,c0,← hh1,a2',-binK_shr,s5,-binK_and,s6,← hh3,zM8,-Int.natCast_add,lg,← hh4,r4,-binK_shl,s1,zr,← hh5,a6',q6c,a7,a8',q8a,q8b,q8c,q8d,s2,zz1,zz2,s3,-binK_or,s4,cb',zT3]
   exact this
open Go.Zf (wi64)
structure Slot (G:Vc→List V) (o:Nat):Prop where
 len:∀ v,o+2≤(G v).length
 g0:∀ v,(G v)[o]?=some (.int .i64 v.1)
 g1:∀ v,(G v)[o+1]?=some (.int .i64 v.2)
 sp:∀ v x y,splice (G v) o [.int .i64 x,.int .i64 y]=G (x,y)
 s0:∀ v x,(G v).set o (.int .i64 x)=G (x,v.2)
 s1:∀ v y,(G v).set (o+1) (.int .i64 y)=G (v.1,y)
 tk:∀ v,((G v).drop o).take 2=[.int .i64 v.1,.int .i64 v.2]
theorem slot0 (b:Bk):Slot (fun v=>({ b with m0:=v }:Bk).cs) 17:=⟨fun _=>by show 19≤23;omega,fun _=>rfl,fun _=>rfl,fun _ _ _=>rfl,fun _ _=>rfl,fun _ _=>rfl,fun _=>rfl⟩
theorem slot1 (b:Bk):Slot (fun v=>({ b with m1:=v }:Bk).cs) 19:=⟨fun _=>by show 21≤23;omega,fun _=>rfl,fun _=>rfl,fun _ _ _=>rfl,fun _ _=>rfl,fun _ _=>rfl,fun _=>rfl⟩
theorem band1 (j:Nat):binK 0 .and (.int .i64 (j:Nat)) (.int .i64 1)=some (.int .i64 ((j % 2:Nat):Int)):=by
 have:=binK_mask 0 (j:Int) 1 (by decide)
 rw [show (2:Int) ^ 1 - 1=1 by decide,show (2:Int) ^ 1=2 by decide] at this
 rw [this];congr 2
theorem band2 {j:Nat} (h:j < 4):binK 0 .and (.int .i64 (j:Nat)) (.int .i64 2)=some (.int .i64 (if 2≤j then 2 else 0)):=by
 rcases (by omega:j=0∨j=1∨j=2∨j=3) with rfl | rfl | rfl | rfl <;> rfl
abbrev K66:List Nat:=[0,1,2,3,6,8,9,10]
def VEnd (P:Nat→Prop) (h:H) (c q t tt m:Nat) (st:St) (G:Vc→List V) (v:Vc) (R:Option Vc × St) (h':H):Prop :=
 match R with
 | (some r,st')=>(st.sd.writes=true→r=v)∧Res P h c q t tt m st' (G r) h'
 | (none,st')=>st.sd.writes=false∧Co P h' c q m st' 4∧(∃ r,h'.get t=some (.cells (G r) tt false))∧Kp (fun b=>P b∧b ≠ q∧b ≠ t) h h'
structure E66 (q t o B8 B9:Nat) (e:E):Prop where
 e0:e.s K66 0=.ptr q 0
 e3:e.s K66 3=.ptr t o
 e8:e.s K66 8=.ptr B8 0
 e9:e.s K66 9=.ptr B9 0
theorem vector66_ok {P:Nat→Prop} {h:H} {c q m:Nat} {st:St} (a:Co P h c q m st 0) {t o tt:Nat} {G:Vc→List V} {v:Vc} {mode:Int} {l:Vc × Vc} (S:Slot G o) (ht:h.get t=some (.cells (G v) tt false)) (pt:P t) (nt:t ≠ q)
  (hm:m+27 < 100000000) (hv:(-5000≤v.1∧v.1≤5000)∧(-5000≤v.2∧v.2≤5000)) (hl:vecB l.1∧vecB l.2) (hw:st.sd.writes=true→if mode=3 then vecB v else v=saidV mode l) :
  RT (fun w h'=>w=.tup []∧VEnd P h c q t tt (m+27) st G v ((vectorP mode (saidV mode l) v).exec st) h') (KW 104 [.ptr q 0,.int .i64 mode,.agg [.int .i64 l.1.1,.int .i64 l.1.2,.int .i64 l.2.1,.int .i64 l.2.2],.ptr t o] h):=by
 have htn:=a.lt t pt
 have hqn:=a.lt q a.pq
 obtain ⟨h1,hh1⟩:∃ z,z=h.new (.cells [.int .i64 l.1.1,.int .i64 l.1.2,.int .i64 l.2.1,.int .i64 l.2.2] 40 false):=⟨_,rfl⟩
 have x1:Ext h h1:=by rw [hh1];exact (Ext.refl h).new _
 have n1:h1.n=h.n+1:=by rw [hh1,H.n_new]
 have r1:h1.rdN h.n 0 4=some [.int .i64 l.1.1,.int .i64 l.1.2,.int .i64 l.2.1,.int .i64 l.2.2]:=by rw [hh1];exact rdN_new _ _ _ _ _ _ (by simp)
 obtain ⟨_,h2,a2,rfl,x2⟩:=(said59_ok mode l h1).elim
 have va:vecB (saidV mode l):=by
  unfold saidV
  split
  ·exact hl.2
  ·split
   · decide
   · exact hl.1
 obtain ⟨A,hA⟩:∃ A,A=saidV mode l:=⟨_,rfl⟩
 rw [← hA] at a2 va hw ⊢
 obtain ⟨vA1,vA2,vA3,vA4⟩:=va
 obtain ⟨h3,hh3⟩:∃ z,z=h2.new (.cells [.int .i64 A.1,.int .i64 A.2] 39 false):=⟨_,rfl⟩
 have x3:Ext h2 h3:=by rw [hh3];exact (Ext.refl h2).new _
 have n3:h3.n=h2.n+1:=by rw [hh3,H.n_new]
 have g3:h3.get h2.n=some (.cells [.int .i64 A.1,.int .i64 A.2] 39 false):=by rw [hh3,get_new_same]
 have r3:h3.rdN h2.n 0 2=some [.int .i64 A.1,.int .i64 A.2]:=by rw [rdN_of g3 (by simp)];rfl
 have zw3:(h2.new (.cells [.int .i64 0,.int .i64 0] 39 false)).wrN h2.n 0 [.int .i64 A.1,.int .i64 A.2]=some h3:=by rw [hh3];exact wrN_new _ _ _ _ rfl
 have x02:=x1.trans x2
 have x03:=x02.trans x3
 have x02n:=x02.n
 have a3:Co (fun b=>P b∨b=h2.n) h3 c q m st 0:=by rw [hh3];exact (a.ext x02).box _
 have t3:h3.get t=_:=(x03.get t htn).trans ht
 have vA:(A.1,A.2)=A:=rfl
 have wA:∀ {g:H} {u:Vc},g.get t=some (.cells (G u) tt false)→g.wrN t o [.int .i64 A.1,.int .i64 A.2]=some (g.put t (.cells (G A) tt false)):=fun {g u} hg=>by
  rw [wrN_of hg (S.len u),S.sp,vA]
 rw [w104,f104,s104]
 by_cases c3:mode=3
 rotate_left
 ·have hq:V.tup []=V.tup []∧VEnd P h c q t tt (m+27) st G v ((vectorP mode A v).exec st) (h3.put t (.cells (G A) tt false)):=by
   have e:(vectorP mode A v).exec st=(some A,st):=by unfold vectorP;rw [if_pos c3];rfl
   rw [e]
   refine ⟨rfl,fun h=>by have:=hw h;rw [if_neg c3] at this;exact this.symm,((a3.put (.inl pt) nt _).less a.pq fun b hb=>.inl hb).more (by omega) hm,get_put_same (H.get_lt t3),⟨by rw [H.n_put];exact x03.n,?_⟩⟩
   rintro i ⟨hi,iq,it⟩
   rw [get_put_ne it,x03.get i (a.lt i hi)]
  simp [bx,nw,← hh1,r1,a2,zw3,c3,r3,wA t3]
  exact hq
 subst c3
 have ex:(vectorP 3 A v).exec st=((halfP (decide (st.symV 17 0 ((if v.1 ≠ A.1 then 1 else 0)+(if v.2 ≠ A.2 then 2 else 0)) % 2=1)) 0 A.1 v.1).bind fun x=>(halfP (decide (2≤st.symV 17 0 ((if v.1 ≠ A.1 then 1 else 0)+(if v.2 ≠ A.2 then 2 else 0)))) 1 A.2 v.2).bind fun y=>if vecB (x,y) then Pr.done (x,y) else .stop).exec (st.sym 17 0 ((if v.1 ≠ A.1 then 1 else 0)+(if v.2 ≠ A.2 then 2 else 0))):=by
  unfold vectorP;rw [if_neg (by simp)];rfl
 obtain ⟨J0,hJ0⟩:∃ J0:Nat,((if v.1 ≠ A.1 then 1 else 0)+(if v.2 ≠ A.2 then 2 else 0):Int)=(J0:Nat):=⟨(if v.1 ≠ A.1 then 1 else 0)+(if v.2 ≠ A.2 then 2 else 0),by split <;> split <;> rfl⟩
 have J4:J0 < 4:=by split at hJ0 <;> split at hJ0 <;> omega
 rw [hJ0] at ex
 -- the joint
 obtain ⟨h4,hh4⟩:∃ z,z=h3.new (.cells [.int .i64 (J0:Nat)] 3 false):=⟨_,rfl⟩
 have x4:Ext h3 h4:=by rw [hh4];exact (Ext.refl h3).new _
 have n4:h4.n=h3.n+1:=by rw [hh4,H.n_new]
 have g4:h4.get h3.n=some (.cells [.int .i64 (J0:Nat)] 3 false):=by rw [hh4,get_new_same]
 have a4:Co (fun b=>(P b∨b=h2.n)∨b=h3.n) h4 c q m st 0:=by rw [hh4];exact a3.box _
 obtain ⟨_,h5,a5,rfl,R5⟩:=(symbol60_ok a4 (t:=h3.n) (o:=0) (k:=17) (x:=0) (v:=(J0:Nat)) (f:=0) g4 (.inr rfl) (by omega) rfl (by omega) (by decide) (by decide) (by omega) (by decide) (fun _=>by show _∧_ < ((4:Nat):Int);omega)).elim
 rw [Int.sub_zero,Int.add_zero] at R5
 have j4:st.symV 17 0 (J0:Nat) < 4:=St.symV_lt a.ok.1 (k:=17) (by decide) (by decide) (fun _=>by show _∧_ < ((4:Nat):Int);omega)
 have jw:st.sd.writes=true→st.symV 17 0 (J0:Nat)=J0:=fun h=>by rw [St.symV_w h];omega
 obtain ⟨j,hj⟩:∃ j,j=st.symV 17 0 (J0:Nat):=⟨_,rfl⟩
 obtain ⟨st5,hst5⟩:∃ z,z=st.sym 17 0 (J0:Nat):=⟨_,rfl⟩
 rw [← hj] at R5 j4 jw ex
 rw [← hst5] at R5 ex
 have w5:st5.sd.writes=st.sd.writes:=by rw [hst5];exact St.sym_wr _ _ _ _
 have a5':KW 98 [.ptr q 0,.int .i64 17,.int .i64 0,.int .i64 0,.ptr h3.n 0] h4=some (.ret (.tup []),h5):=a5
 have n5:=R5.kp.n
 have t5:h5.get t=_:=(R5.kp.get t ⟨.inl (.inl pt),nt,by omega⟩).trans ((x4.get t (by omega)).trans t3)
 have g5:h5.get h2.n=_:=(R5.kp.get h2.n ⟨.inl (.inr rfl),by omega,by omega⟩).trans ((x4.get h2.n (by omega)).trans g3)
 have q50:=rd1_of (o:=0) g5
 have q51:=rd1_of (o:=1) g5
 have v50:=(rd1_of (o:=o) t5).trans (S.g0 v)
 have v51:=(rd1_of (o:=o+1) t5).trans (S.g1 v)
 have zd0:IntKind.i64.wrap (v.1 - A.1)=v.1 - A.1:=wi64 (by omega) (by omega)
 have zd1:IntKind.i64.wrap (v.2 - A.2)=v.2 - A.2:=wi64 (by omega) (by omega)
 -- the difference
 obtain ⟨h6,hh6⟩:∃ z,z=h5.new (.cells [.int .i64 (v.1 - A.1),.int .i64 (v.2 - A.2)] 39 false):=⟨_,rfl⟩
 have x6:Ext h5 h6:=by rw [hh6];exact (Ext.refl h5).new _
 have n6:h6.n=h5.n+1:=by rw [hh6,H.n_new]
 have zw6:(h5.new (.cells [.int .i64 0,.int .i64 0] 39 false)).wrN h5.n 0 [.int .i64 (v.1 - A.1),.int .i64 (v.2 - A.2)]=some h6:=by rw [hh6];exact wrN_new _ _ _ _ rfl
 have t6:h6.get t=_:=(x6.get t (by omega)).trans t5
 have r6:h6.rdN h2.n 0 2=some [.int .i64 A.1,.int .i64 A.2]:=by rw [rdN_of ((x6.get h2.n (by omega)).trans g5) (by simp)];rfl
 have a6:Co (fun b=>((P b∨b=h2.n)∨b=h3.n)∨b=h5.n) h6 c q (m+1) st5 0:=by rw [hh6];exact R5.co.box _
 obtain ⟨h7,hh7⟩:∃ z,z=h6.put t (.cells (G A) tt false):=⟨_,rfl⟩
 have w7:h6.wrN t o [.int .i64 A.1,.int .i64 A.2]=some h7:=by rw [wA t6,hh7]
 have n7:h7.n=h6.n:=by rw [hh7,H.n_put]
 have a7:Co (fun b=>((P b∨b=h2.n)∨b=h3.n)∨b=h5.n) h7 c q (m+1) st5 0:=by rw [hh7];exact a6.put (.inl (.inl (.inl pt))) nt _
 have t7:h7.get t=some (.cells (G A) tt false):=by rw [hh7,get_put_same (H.get_lt t6)]
 have g79:h7.get h3.n=some (.cells [.int .i64 (j:Nat)] 3 false):=by rw [hh7,get_put_ne (by omega),x6.get _ (by omega)];exact R5.box
 have g710:h7.get h5.n=some (.cells [.int .i64 (v.1 - A.1),.int .i64 (v.2 - A.2)] 39 false):=by rw [hh7,get_put_ne (by omega),hh6];exact get_new_same
 have kp7:Kp (fun b=>P b∧b ≠ q∧b ≠ t) h h7:=by
  refine ⟨by have:=x03.n;omega,?_⟩
  rintro i ⟨hi,iq,it⟩
  have hin:=a.lt i hi
  rw [hh7,get_put_ne it,x6.get i (by omega),R5.kp.get i ⟨.inl (.inl hi),iq,by omega⟩,x4.get i (by omega),x03.get i hin]
 -- what is left to be shown,by halves
 obtain ⟨Q,hQ⟩:∃ Q:V→H→Prop,Q=fun w h'=>w=.tup []∧VEnd P h c q t tt (m+27) st G v ((vectorP 3 A v).exec st) h':=⟨_,rfl⟩
 rw [← hQ]
 have dJ:(st.sd.writes=true)→(decide (j % 2=1)=decide (v.1 ≠ A.1))∧(decide (2≤j)=decide (v.2 ≠ A.2)):=fun h=>by
  have:=jw h
  constructor
  ·rw [decide_eq_decide];split at hJ0 <;> split at hJ0 <;> rename_i c1 c2 <;> constructor <;> intro hh <;> first | exact c1 | omega | exact (hh (Decidable.not_not.1 c1)).elim
  ·rw [decide_eq_decide];split at hJ0 <;> split at hJ0 <;> rename_i c1 c2 <;> constructor <;> intro hh <;> first | exact c2 | omega | exact (hh (Decidable.not_not.1 c2)).elim
 have v30:∀ X,(h3.new X).rd1 t o=some (.int .i64 v.1):=fun X=>(rd1_of (by rw [get_new_lt (by omega)];exact t3)).trans (S.g0 v)
 have v31:∀ X,(h3.new X).rd1 t (o+1)=some (.int .i64 v.2):=fun X=>(rd1_of (by rw [get_new_lt (by omega)];exact t3)).trans (S.g1 v)
 have q30:∀ X,(h3.new X).rd1 h2.n 0=some (.int .i64 A.1):=fun X=>by rw [rd1_of (by rw [get_new_lt (by omega)];exact g3)];rfl
 have q31:∀ X,(h3.new X).rd1 h2.n 1=some (.int .i64 A.2):=fun X=>by rw [rd1_of (by rw [get_new_lt (by omega)];exact g3)];rfl
 simp [bx,nw,← hh1,r1,a2,zw3]
 refine sq_in (C:=fun o=>RT _ (fin Tryz.prog _ _ o)) (fun e g=>g=h3.new (.cells [.int .i64 (if v.1 ≠ A.1 then 1 else 0)] 3 false)∧E66 q t o h2.n h3.n e) ?_ ?_
 ·by_cases c1:v.1=A.1
  ·simp [NmP,v30,q30,c1];exact ⟨by simp,by simp,by simp,by simp⟩
  ·simp [NmP,v30,q30,c1];exact ⟨by simp,by simp,by simp,by simp⟩
 rintro e g ⟨rfl,⟨e0,e3,e8,e9⟩⟩
 have zj:IntKind.i64.wrap ((if v.1 ≠ A.1 then 1 else 0)+2)=(if v.1 ≠ A.1 then 1 else 0)+2:=by split <;> rfl
 refine sq_in (C:=fun o=>RT _ (fin Tryz.prog _ _ o)) (fun e g=>g=h4∧E66 q t o h2.n h3.n e) ?_ ?_
 ·by_cases c2:v.2=A.2
  ·rw [if_neg (fun h:v.2 ≠ A.2=>h c2),Int.add_zero] at hJ0
   rw [hJ0,← hh4]
   have v40:=v31 (.cells [.int .i64 (J0:Nat)] 3 false)
   have q40:=q31 (.cells [.int .i64 (J0:Nat)] 3 false)
   rw [← hh4] at v40 q40
   simp [NmP,e0,e3,e8,e9,v40,q40,c2];exact ⟨by simp [e0],by simp [e3],by simp [e8],by simp [e9]⟩
  ·rw [if_pos c2] at hJ0
   obtain ⟨y,hy⟩:∃ y:Int,y=(if v.1 ≠ A.1 then 1 else 0):=⟨_,rfl⟩
   rw [← hy] at hJ0 ⊢
   have zy:IntKind.i64.wrap (y+2)=(J0:Nat):=by rw [hJ0];exact wi64 (by omega) (by omega)
   simp [NmP,e0,e3,e8,e9,v31,q31,c2,zy,← hh4];exact ⟨by simp [e0],by simp [e3],by simp [e8],by simp [e9]⟩
 rintro e g ⟨rfl,⟨e0,e3,e8,e9⟩⟩
 simp [e0,e9,a5',e3,e8,v50,v51,q50,q51,zd0,zd1,nw,zw6,r6,w7]
 have hb:∀ {cc:Nat} {u a':Int} {on:Bool} {s:St},s.sd.writes=st.sd.writes→(-5000≤u∧u≤5000)→(-4095≤a'∧a'≤4095)→(st.sd.writes=true→on=decide (u ≠ a') ∧ -4095≤u∧u≤4095)→on=true→s.sd.writes=true→u - a' ≠ 0∧(u - a').natAbs≤16376:=fun hs hu ha hh ho hw'=>by
  obtain ⟨h1,h2,h3⟩:=hh (by rw [← hs];exact hw')
  rw [ho] at h1
  have:=of_decide_eq_true h1.symm
  omega
 have wB:st.sd.writes=true→(-4095≤v.1∧v.1≤4095)∧(-4095≤v.2∧v.2≤4095):=fun h=>by
  have:=hw h;rw [if_pos rfl] at this;exact ⟨⟨this.1,this.2.1⟩,⟨this.2.2.1,this.2.2.2⟩⟩
 refine sq_in (C:=fun o=>RT _ (fin Tryz.prog _ _ o)) (fun e g=>∃ x st',(halfP (decide (j % 2=1)) 0 A.1 v.1).exec st5=(some x,st')∧(st.sd.writes=true→x=v.1)∧(-30000≤x∧x≤30000)∧Co (fun b=>((P b∨b=h2.n)∨b=h3.n)∨b=h5.n) g c q (m+14) st' 0∧g.get t=some (.cells (G (x,A.2)) tt false) ∧
  g.get h3.n=some (.cells [.int .i64 (j:Nat)] 3 false)∧g.get h5.n=some (.cells [.int .i64 (v.1 - A.1),.int .i64 (v.2 - A.2)] 39 false)∧Kp (fun b=>P b∧b ≠ q∧b ≠ t) h7 g∧E66 q t o h2.n h3.n e∧e.s K66 10=.ptr h5.n 0) ?_ ?_
 ·have q9:=rd1_of (o:=0) g79
  have b1:=band1 j
  by_cases cj:j % 2=1
  ·obtain ⟨_,g1,b2,⟨r,rfl,st',f1,f2,f3,f4,f5⟩⟩:=(part80_ok a7 (x:=0) (v:=v.1 - A.1) (by decide) (by omega) (by omega) (fun h=>hb (cc:=0) (u:=v.1) (a':=A.1) (on:=decide (j % 2=1)) w5 hv.1 ⟨vA1,vA2⟩ (fun h=>⟨(dJ h).1,(wB h).1⟩) (by simp [cj]) h)).elim
   have b2':KW 145 [.ptr q 0,.int .i64 0,.int .i64 (v.1 - A.1)] h7=some (.ret (.int .i64 r),g1):=b2
   have tg:=(f5.get t ⟨.inl (.inl (.inl pt)),nt⟩).trans t7
   have u0:=(rd1_of (o:=o) tg).trans (S.g0 A)
   have u70:=(rd1_of (o:=o) t7).trans (S.g0 A)
   have d0:=rd1_of (o:=0) g710
   have zr:IntKind.i64.wrap (A.1+r)=A.1+r:=wi64 (by omega) (by omega)
   have wr:g1.wr1 t o (.int .i64 (A.1+r))=some (g1.put t (.cells (G (A.1+r,A.2)) tt false)):=by
     rw [wr1_of tg (by have:=S.len A;omega),S.s0]
   rw [cj] at b1
   have c1:((1:Nat):Int)=1:=rfl
   rw [c1] at b1
   simp [NmP,e9,q9,-binK_and,b1,d0,b2',u0,u70,zr,wr,e3,e0,e8]
   refine ⟨A.1+r,st',by unfold halfP;rw [if_pos (by simp [cj]),Pr.exec_some f1];rfl,fun h=>by have:=f2 (by rw [w5];exact h);omega,by omega,f4.put (.inl (.inl (.inl pt))) nt _,get_put_same (H.get_lt tg),?_,?_,⟨by rw [H.n_put];exact f5.n,?_⟩,⟨by simp [e0],by simp [e3],by simp [e8],by simp [e9]⟩⟩
   · rw [get_put_ne (by omega),f5.get h3.n ⟨.inl (.inr rfl),by omega⟩,g79]
   · rw [get_put_ne (by omega),f5.get h5.n ⟨.inr rfl,by omega⟩,g710]
   · rintro i ⟨hi,iq,it⟩
     rw [get_put_ne it,f5.get i ⟨.inl (.inl (.inl hi)),iq⟩]
  ·have j0:j % 2=0:=by omega
   rw [j0] at b1
   have c1:((0:Nat):Int)=0:=rfl
   rw [c1] at b1
   simp [NmP,e9,q9,-binK_and,b1]
   refine ⟨A.1,st5,by unfold halfP;rw [if_neg (by simp [cj])];rfl,fun h=>?_,by omega,a7.more (by omega) (by omega),t7,g79,g710,Kp.refl _ _,⟨by simp [e0],by simp [e3],by simp [e8],by simp [e9]⟩⟩
   have:=(dJ h).1
   rw [decide_eq_decide] at this
   exact Decidable.byContradiction fun hc=>cj (this.2 (fun e=>hc e.symm))
 rintro e g ⟨x,st8,f1,f2,f3,a8,t8,g89,g810,kp8,⟨e0,e3,e8,e9⟩,e10⟩
 have w8:st8.sd.writes=st.sd.writes:=(exec_wr' f1).trans w5
 have n8:=kp8.n
 refine sq_in (C:=fun o=>RT _ (fin Tryz.prog _ _ o)) (fun e g'=>∃ y st',(halfP (decide (2≤j)) 1 A.2 v.2).exec st8=(some y,st')∧(st.sd.writes=true→y=v.2)∧(-30000≤y∧y≤30000)∧Co (fun b=>((P b∨b=h2.n)∨b=h3.n)∨b=h5.n) g' c q (m+27) st' 0∧g'.get t=some (.cells (G (x,y)) tt false) ∧
  Kp (fun b=>P b∧b ≠ q∧b ≠ t) g g'∧E66 q t o h2.n h3.n e) ?_ ?_
 ·have q9:=rd1_of (o:=0) g89
  have b1:=band2 j4
  by_cases cj:2≤j
  ·obtain ⟨_,g1,b2,⟨r,rfl,st',k1,k2,k3,k4,k5⟩⟩:=(part80_ok a8 (x:=1) (v:=v.2 - A.2) (by decide) (by omega) (by omega) (fun h=>hb (cc:=0) (u:=v.2) (a':=A.2) (on:=decide (2≤j)) w8 hv.2 ⟨vA3,vA4⟩ (fun h=>⟨(dJ h).2,(wB h).2⟩) (by simp [cj]) h)).elim
   have b2':KW 145 [.ptr q 0,.int .i64 1,.int .i64 (v.2 - A.2)] g=some (.ret (.int .i64 r),g1):=b2
   have tg:=(k5.get t ⟨.inl (.inl (.inl pt)),nt⟩).trans t8
   have u0:=(rd1_of (o:=o+1) tg).trans (S.g1 _)
   have u70:=(rd1_of (o:=o+1) t8).trans (S.g1 _)
   have d0:=rd1_of (o:=1) g810
   have zr:IntKind.i64.wrap (A.2+r)=A.2+r:=wi64 (by omega) (by omega)
   have wr:g1.wr1 t (o+1) (.int .i64 (A.2+r))=some (g1.put t (.cells (G (x,A.2+r)) tt false)):=by
     rw [wr1_of tg (by have:=S.len (x,A.2);omega),S.s1]
   rw [if_pos cj] at b1
   simp [NmP,e9,q9,-binK_and,b1,d0,b2',u0,u70,zr,wr,e3,e0,e8,e10]
   refine ⟨A.2+r,st',by unfold halfP;rw [if_pos (by simp [cj]),Pr.exec_some k1];rfl,fun h=>by have:=k2 (by rw [w8];exact h);omega,by omega,k4.put (.inl (.inl (.inl pt))) nt _,get_put_same (H.get_lt tg),⟨by rw [H.n_put];exact k5.n,?_⟩,⟨by simp [e0],by simp [e3],by simp [e8],by simp [e9]⟩⟩
   rintro i ⟨hi,iq,it⟩
   rw [get_put_ne it,k5.get i ⟨.inl (.inl (.inl hi)),iq⟩]
  ·rw [if_neg cj] at b1
   simp [NmP,e9,q9,-binK_and,b1]
   refine ⟨A.2,st8,by unfold halfP;rw [if_neg (by simp [cj])];rfl,fun h=>?_,by omega,a8.more (by omega) (by omega),t8,Kp.refl _ _,⟨by simp [e0],by simp [e3],by simp [e8],by simp [e9]⟩⟩
   have:=(dJ h).2
   rw [decide_eq_decide] at this
   exact Decidable.byContradiction fun hc=>cj (this.2 (fun e=>hc e.symm))
 rintro e g' ⟨y,st9,k1,k2,k3,a9,t9,kp9,⟨e0,e3,e8,e9⟩⟩
 have n9:=kp9.n
 have exF:(vectorP 3 A v).exec st=(if vecB (x,y) then Pr.done (x,y) else Pr.stop).exec st9:=by
  rw [ex,Pr.exec_some f1,Pr.exec_some k1]
 have rq:=rd1_of (o:=1) a9.k
 have rt:g'.rdN t o 2=some [.int .i64 x,.int .i64 y]:=by rw [rdN_of t9 (S.len _),S.tk]
 obtain ⟨_,h10,a10,rfl,x10⟩:=(vecMay67_ok (x,y) g').elim
 have a9':=(a9.less (Q:=P) a.pq fun b hb=>.inl (.inl (.inl hb))).ext x10
 have t10:h10.get t=_:=(x10.get t (H.get_lt t9)).trans t9
 have kpF:Kp (fun b=>P b∧b ≠ q∧b ≠ t) h h10:=((kp7.trans kp8).trans kp9).trans (Kp.of x10 fun i hi=>by have:=a.lt i hi.1;have:=x03.n;omega)
 by_cases cv:vecB (x,y)
 ·rw [if_pos cv] at exF
  have hq:Q (.tup []) h10:=by
   rw [hQ]
   refine ⟨rfl,?_⟩
   rw [exF]
   exact ⟨fun h=>Prod.ext (f2 h) (k2 h),a9',t10,kpF⟩
  simp [e0,rq,e3,rt,a10,cv]
  exact hq
 ·rw [if_neg cv] at exF
  have w9:st.sd.writes=false:=by
   cases hh:st.sd.writes with
   | false=>rfl
   | true =>
     refine (cv ?_).elim
     rw [f2 hh,k2 hh]
     have:=hw hh;rw [if_pos rfl] at this;exact this
  obtain ⟨h11,hh11⟩:∃ z,z=h10.put q (.cells [.ptr c 0,.int .i64 4] 113 false):=⟨_,rfl⟩
  have w11:h10.wr1 q 1 (.int .i64 4)=some h11:=by rw [wr1_of a9'.k (by simp),hh11];rfl
  have hq:Q (.tup []) h11:=by
   rw [hQ]
   refine ⟨rfl,?_⟩
   rw [exF]
   refine ⟨w9,?_,⟨(x,y),by rw [hh11,get_put_ne nt,t10]⟩,⟨by rw [hh11,H.n_put];exact kpF.n,?_⟩⟩
   · obtain ⟨⟨D,C,hD⟩,k,pq,lt⟩:=a9'
     refine ⟨⟨D,?_,fun b hb=>by rw [hh11,H.n_put];exact hD b hb⟩,by rw [hh11];exact get_put_same (H.get_lt k),pq,fun b hb=>by rw [hh11,H.n_put];exact lt b hb⟩
     rw [hh11]
     exact C.keep (by rw [H.n_put];exact Nat.le_refl _) fun b hb hb2=>get_put_ne (by rintro rfl;exact (hD _ hb).2 pq)
   · rintro i ⟨hi,iq,it⟩
     rw [hh11,get_put_ne iq,kpF.get i ⟨hi,iq,it⟩]
  simp [e0,rq,e3,rt,a10,cv,w11]
  exact hq
open Go.Zf (wi64)
theorem NmP.elim {Post:E→H→Prop} {X:Out} (h:NmP Post X):∃ e g,X=some ⟨.nm,e,g⟩∧Post e g:=by
 unfold NmP at h
 split at h
 ·exact ⟨_,_,rfl,h⟩
 ·exact h.elim
def vsOf (G:Gr) (b:Bk):Vs:=candV G b.x b.y b.w
theorem vecP_ok {b:Bk} (h:vecB b.m0∧vecB b.m1) {ref:Int} {v:Vc} (e:vecP b ref=some v):vecB v:=by
 unfold vecP at e
 split at e
 ·split at e
  ·cases e;exact h.1
  ·split at e
   · cases e;exact h.2
   · cases e
 ·cases e
theorem at_mem {G:Gr} {x y:Int} {b:Bk} (h:G.at x y=some b):b ∈ G.bs:=by
 unfold Gr.at at h
 split at h
 ·obtain ⟨n,_,h2⟩:=Option.bind_eq_some_iff.1 h
  exact List.mem_of_getElem? h2
 ·cases h
theorem pushV_ok {ref:Int} {acc:List Vc} {o:Option Bk} (h:∀ v ∈ acc,vecB v) (ho:∀ b,o=some b→vecB b.m0∧vecB b.m1):∀ v ∈ pushV ref acc o,vecB v:=by
 unfold pushV
 split
 ·rename_i v hv
  obtain ⟨b,hb,hv⟩:=Option.bind_eq_some_iff.1 hv
  split
  ·intro u hu
   rcases List.mem_append.1 hu with hu | hu
   · exact h u hu
   · rw [List.mem_singleton.1 hu];exact vecP_ok (ho b hb) hv
  ·exact h
 ·exact h
theorem accV_ok {G:Gr} (ok:GrOk G) (x y w ref:Int) (j:Nat):∀ v ∈ accV G x y w ref j,vecB v:=by
 unfold accV
 have:∀ (l:List (Int × Int)) (acc:List Vc),(∀ v ∈ acc,vecB v)→∀ v ∈ l.foldl (fun acc p=>pushV ref acc (G.at p.1 p.2)) acc,vecB v:=by
  intro l
  induction l with
  | nil=>intro acc h;exact h
  | cons p l ih=>intro acc h;exact ih _ (pushV_ok h fun b hb=>ok.vec b (at_mem hb))
 exact this _ [] (by simp)
theorem vsOf_ok {G:Gr} (ok:GrOk G) (b:Bk):VsOk (vsOf G b):=fun r _ _=>by
 have h:=accV_ok ok b.x b.y b.w r 4
 have hd:∀ i,vecB ((accV G b.x b.y b.w r 4).getD i (0,0)):=fun i=>by
  by_cases hi:i < (accV G b.x b.y b.w r 4).length
  ·have:(accV G b.x b.y b.w r 4).getD i (0,0)=(accV G b.x b.y b.w r 4)[i]:=by simp [List.getD,hi]
   rw [this];exact h _ (List.getElem_mem hi)
  ·have:(accV G b.x b.y b.w r 4).getD i (0,0)=(0,0):=by simp [List.getD,List.getElem?_eq_none (by omega:(accV G b.x b.y b.w r 4).length≤i)]
   rw [this];decide
 exact ⟨hd 0,hd 1,accV_len _ _ _ _ _ _⟩
structure InG (G:Gr) (b:Bk):Prop where
 sh:ShapeB b
 i1:inT b.x b.y
theorem InG.pl {G:Gr} {b:Bk} (a:InG G b):pl8 b.x b.y:=⟨a.sh.1.1,a.sh.1.2.1,a.sh.1.2.2,a.sh.2.1.1,a.sh.2.1.2.1,a.sh.2.1.2.2⟩
theorem vecs_of {D:Nat→Prop} {h:H} {g:Nat} {G:Gr} (a:GridAt D h g G) {b:Bk} (ig:InG G b) {ref:Int} (hr:0≤ref∧ref≤2) :
  RT (fun r h'=>r=.tup [.agg [.int .i64 (vsOf G b ref).1.1.1,.int .i64 (vsOf G b ref).1.1.2,.int .i64 (vsOf G b ref).1.2.1,.int .i64 (vsOf G b ref).1.2.2],.int .i64 ((vsOf G b ref).2:Nat),.int .i64 0]∧Ext h h')
   (KW 95 [.ptr g 0,.agg [.int .i64 b.x,.int .i64 b.y,.int .i64 b.w,.int .i64 b.h],.int .i64 ref] h):=vecs57_ok a ig.pl ig.i1 ig.sh.2.2.1 hr
abbrev K30:List Nat:=[0,1,3,4,5,6,18,19]
structure I30 (h0:H) (g p n:Nat) (b:Bk) (i:Nat) (e:E) (h:H):Prop where
 xx:Ext h0 h
 hp:h.get p=some (.cells b.cs 42 false)
 e0:e.s K30 0=.ptr g 0
 e3:e.s K30 3=.ptr p 0
 e18:e.s K30 18=.int .i64 (n:Nat)
 e19:e.s K30 19=.int .i64 (i:Nat)
def refI (b:Bk) (i:Nat):Int:=if i=0 then b.r0 else b.r1
def mvI (b:Bk) (i:Nat):Vc:=if i=0 then b.m0 else b.m1
theorem loop30 {D:Nat→Prop} {h0:H} {g p n:Nat} {G:Gr} (a:GridAt D h0 g G) {b:Bk} (ig:InG G b) (hn:n≤2) (hr:∀ i,i < n→0≤refI b i∧refI b i≤2) :
  ∀ k e h,(k≤n∧I30 h0 g p n b (n - k) e h∧∀ i,i < n - k→mvI b i=saidV b.mm (vsOf G b (refI b i)).1)→LS (fun k e h=>k≤n∧I30 h0 g p n b (n - k) e h∧∀ i,i < n - k→mvI b i=saidV b.mm (vsOf G b (refI b i)).1)
   (fun s=>(s.x=.ex 0∧(∀ i,i < n→mvI b i=saidV b.mm (vsOf G b (refI b i)).1)∧Ext h0 s.h)∨(s.x=.rt∧s.e.s K30 4=.bool false∧(∃ i,i < n∧mvI b i ≠ saidV b.mm (vsOf G b (refI b i)).1)∧Ext h0 s.h)) k (l50_0 KW loopZ e h):=by
 rintro k e h ⟨hk,⟨xx,hp,e0,e3,e18,e19⟩,hs⟩
 obtain ⟨i,hi⟩:∃ i,i=n - k:=⟨_,rfl⟩
 rw [← hi] at e19 hs
 by_cases ci:i=n
 ·subst ci
  simp [l50_0,e19,e18]
  exact .inl ⟨rfl,hs,xx⟩
 have hil:i < n:=by omega
 have hil':(i:Int) < n:=by omega
 have rb:h.rdN p 0 23=some b.cs:=by rw [rdN_of hp (by simp)];rfl
 obtain ⟨_,h1,a1,rfl,x1⟩:=(rect58_ok b h).elim
 have p1:h1.get p=_:=(x1.get p (H.get_lt hp)).trans hp
 obtain ⟨_,h2,a2,rfl,x2⟩:=(vecs_of (a.ext (xx.trans x1)) ig (hr i hil)).elim
 obtain ⟨l,hl⟩:∃ l,l=(vsOf G b (refI b i)).1:=⟨_,rfl⟩
 rw [← hl] at a2
 obtain ⟨h3,hh3⟩:∃ z,z=h2.new (.cells [.int .i64 l.1.1,.int .i64 l.1.2,.int .i64 l.2.1,.int .i64 l.2.2] 40 false):=⟨_,rfl⟩
 have x3:Ext h2 h3:=by rw [hh3];exact (Ext.refl h2).new _
 have zw:(h2.new (.cells [.int .i64 0,.int .i64 0,.int .i64 0,.int .i64 0] 40 false)).wrN h2.n 0 [.int .i64 l.1.1,.int .i64 l.1.2,.int .i64 l.2.1,.int .i64 l.2.2]=some h3:=by rw [hh3];exact wrN_new _ _ _ _ rfl
 have r3:h3.rdN h2.n 0 4=some [.int .i64 l.1.1,.int .i64 l.1.2,.int .i64 l.2.1,.int .i64 l.2.2]:=by rw [hh3];exact rdN_new _ _ _ _ _ _ (by simp)
 have p3:h3.get p=_:=((x2.trans x3).get p (H.get_lt p1)).trans p1
 obtain ⟨_,h4,a4,rfl,x4⟩:=(said59_ok b.mm l h3).elim
 have p4:h4.get p=_:=(x4.get p (H.get_lt p3)).trans p3
 have ix1:∀ o:Nat,o=14+i→h.rd1 p o=some (.int .i64 (refI b i))∧h1.rd1 p o=some (.int .i64 (refI b i)):=fun o ho=>by
  subst ho
  rcases (by omega:i=0∨i=1) with rfl | rfl
  ·exact ⟨rd1_of hp,rd1_of p1⟩
  ·exact ⟨rd1_of hp,rd1_of p1⟩
 have r1:=(ix1 (14+i) rfl).1
 have r1b:=(ix1 (14+i) rfl).2
 have mm3:h3.rd1 p 16=some (.int .i64 b.mm):=by rw [rd1_of p3];rfl
 have mv3:h3.rdN p (17+i*2) 2=some [.int .i64 (mvI b i).1,.int .i64 (mvI b i).2]∧h4.rdN p (17+i*2) 2=some [.int .i64 (mvI b i).1,.int .i64 (mvI b i).2]:=by
  rcases (by omega:i=0∨i=1) with rfl | rfl
  ·exact ⟨by rw [rdN_of p3 (by simp)];rfl,by rw [rdN_of p4 (by simp)];rfl⟩
  ·exact ⟨by rw [rdN_of p3 (by simp)];rfl,by rw [rdN_of p4 (by simp)];rfl⟩
 have hi2:i < 2:=by omega
 have hi2':(i:Int) < 2:=by omega
 have z2:IntKind.i64.wrap ((i:Int)+1)=((i+1:Nat):Int):=by rw [wi64 (by omega) (by omega)];omega
 obtain ⟨mv,hmv⟩:∃ z,z=mvI b i:=⟨_,rfl⟩
 obtain ⟨sd,hsd⟩:∃ z,z=saidV b.mm l:=⟨_,rfl⟩
 rw [← hmv] at mv3
 rw [← hsd] at a4
 have xF:=(((xx.trans x1).trans x2).trans x3).trans x4
 have ck4:∀ {β:Type} (a b c d:Int) (z:Option β),ck (some (.agg [.int .i64 a,.int .i64 b,.int .i64 c,.int .i64 d])) (.agg [.int .i64 a,.int .i64 b,.int .i64 c,.int .i64 d]) z=z:=fun a b c d z=>by simp [ck,V.same,V.sames]
 by_cases c:mv=sd
 ·have c':mv.1=sd.1∧mv.2=sd.2:=by rw [c];exact ⟨rfl,rfl⟩
  simp [l50_0,e19,e18,hil,hil',e3,rb,a1,hi2,hi2',r1,r1b,e0,a2,nw,zw,mm3,r3,a4,mv3.1,mv3.2,c'.1,c'.2,z2,ck4,-Int.natCast_add]
  refine ⟨k - 1,by omega,by omega,?_⟩
  rw [show n - (k - 1)=i+1 by omega]
  refine ⟨⟨xF,p4,by simp [e0],by simp [e3],by simp [e18],by simp⟩,fun m hm=>?_⟩
  by_cases e:m=i
  ·rw [e,← hmv,c,hsd,hl]
  ·exact hs m (by omega)
 ·have c':¬ (mv.1=sd.1∧mv.2=sd.2):=fun h=>c (Prod.ext h.1 h.2)
  simp [l50_0,e19,e18,hil,hil',e3,rb,a1,hi2,hi2',r1,r1b,e0,a2,nw,zw,mm3,r3,a4,mv3.1,mv3.2,c',z2,ck4,-Int.natCast_add]
  exact .inr ⟨rfl,by simp,⟨i,hil,by rw [← hmv,← hl,← hsd];exact c⟩,xF⟩
instance (vs:Vs) (b:Bk):Decidable (AgreeB vs b):=inferInstanceAs (Decidable (_→_))
theorem agrees30_ok {D:Nat→Prop} {h:H} {g:Nat} {G:Gr} (a:GridAt D h g G) {b:Bk} (ig:InG G b) (hr:b.inter=true→InterB b) :
  RT (fun w h'=>w=.bool (decide (AgreeB (vsOf G b) b))∧Ext h h') (KW 50 [.ptr g 0,b.v] h):=by
 obtain ⟨h1,hh1⟩:∃ z,z=h.new (.cells b.cs 42 false):=⟨_,rfl⟩
 have x1:Ext h h1:=by rw [hh1];exact (Ext.refl h).new _
 have g1:h1.get h.n=some (.cells b.cs 42 false):=by rw [hh1,get_new_same]
 have rd:∀ o,h1.rd1 h.n o=b.cs[o]?:=fun o=>rd1_of g1
 have rb:h1.rdN h.n 0 23=some b.cs:=by rw [rdN_of g1 (by simp)];rfl
 rw [w50,f50,s50]
 by_cases ci:b.inter=true
 rotate_left
 ·have e:AgreeB (vsOf G b) b:=fun h=>(ci h).elim
  simp [bx,← hh1,rd,ci,e]
  exact ⟨rfl,x1⟩
 by_cases cm:b.mm=3
 ·have e:AgreeB (vsOf G b) b:=fun _ h=>(h cm).elim
  simp [bx,← hh1,rd,ci,cm,e]
  exact ⟨rfl,x1⟩
 obtain ⟨_,r0,_,_,_,sec⟩:=hr ci
 obtain ⟨_,h2,a2,rfl,x2⟩:=(vecs56_ok b h1).elim
 obtain ⟨n,hn⟩:∃ n:Nat,n=if b.comp=true then 2 else 1:=⟨_,rfl⟩
 have hn':(if b.comp=true then (2:Int) else 1)=(n:Nat):=by rw [hn];split <;> rfl
 rw [hn'] at a2
 have g2:h2.get h.n=_:=(x2.get _ (H.get_lt g1)).trans g1
 have hn2:n≤2:=by rw [hn];split <;> omega
 have ha:AgreeB (vsOf G b) b ↔ ∀ i,i < n→mvI b i=saidV b.mm (vsOf G b (refI b i)).1:=by
  constructor
  ·intro h i hi
   have:=h ci cm
   rcases (by omega:i=0∨i=1) with rfl | rfl
   · exact this.1
   · refine this.2 ?_
     rw [hn] at hi
     cases hc:b.comp with
     | true=>rfl
     | false=>rw [hc] at hi;simp at hi
  ·intro h _ _
   refine ⟨h 0 (by rw [hn];split <;> omega),fun hc=>h 1 (by rw [hn,if_pos hc];decide)⟩
 simp [bx,← hh1,rd,ci,cm,rb,a2]
 refine loop_in (C:=fun o=>RT _ (fin Tryz.prog _ _ (sq (blk 0 o) _))) _ _ (loop30 (a.ext (x1.trans x2)) (p:=h.n) (n:=n) ig hn2 (fun i hi=>by
  rcases (by omega:i=0∨i=1) with rfl | rfl
  ·exact r0
  ·unfold secondB at sec
   rw [hn] at hi
   cases hc:b.comp with
   | true=>rw [hc,if_pos rfl] at sec;exact sec.1
   | false=>rw [hc] at hi;simp at hi)) n ⟨Nat.le_refl _,⟨by exact Ext.refl _,g2,by simp,by simp,by simp,by simp⟩,fun i hi=>by omega⟩ ?_
 rintro ⟨sx,se,sh⟩ (⟨s1,all,xx⟩ | ⟨s1,e4,⟨i,hi,hne⟩,xx⟩)
 ·simp only at s1 xx
  subst s1
  have:AgreeB (vsOf G b) b:=ha.2 all
  simp [this]
  exact ⟨rfl,(x1.trans x2).trans xx⟩
 ·simp only at s1 e4 xx
  subst s1
  have:¬ AgreeB (vsOf G b) b:=fun h=>hne (ha.1 h i hi)
  simp [e4,this]
  exact ⟨rfl,(x1.trans x2).trans xx⟩
open Go.Zf (wi64)
theorem VEnd.up {P P':Nat→Prop} {h h1 g:H} {c q t tt m:Nat} {st:St} {G:Vc→List V} {v:Vc} {R:Option Vc × St} (x:VEnd P' h1 c q t tt m st G v R g) (pq:P q) (hP:∀ b,P b→P' b) (kp:Kp (fun b=>P b∧b ≠ q∧b ≠ t) h h1):VEnd P h c q t tt m st G v R g:=by
 obtain ⟨r,st'⟩:=R
 cases r with
 | some r=>exact ⟨x.1,x.2.co.less pq hP,x.2.box,kp.trans (x.2.kp.mono fun i hi=>⟨hP i hi.1,hi.2⟩)⟩
 | none=>exact ⟨x.1,x.2.1.less pq hP,x.2.2.1,kp.trans (x.2.2.2.mono fun i hi=>⟨hP i hi.1,hi.2⟩)⟩
abbrev K34v:List Nat:=[0,1,2,6,7,8,9,10,19,20,35,36]
structure E34 (q g t n i:Nat) (e:E):Prop where
 e0:e.s K34v 0=.ptr q 0
 e1:e.s K34v 1=.ptr g 0
 e2:e.s K34v 2=.ptr t 0
 e35:e.s K34v 35=.int .i64 (n:Nat)
 e36:e.s K34v 36=.int .i64 (i:Nat)
theorem ck4 {β:Type} (a b c d:Int) (z:Option β):ck (some (.agg [.int .i64 a,.int .i64 b,.int .i64 c,.int .i64 d])) (.agg [.int .i64 a,.int .i64 b,.int .i64 c,.int .i64 d]) z=z:=by simp [ck,V.same,V.sames]
theorem front34 {P:Nat→Prop} {h:H} {c q t m:Nat} {st:St} (a:Co P h c q m st 0) {D:Nat→Prop} {g:Nat} {G:Gr} (ga:GridAt D h g G) {bb:Bk} (ht:h.get t=some (.cells bb.cs 42 false)) (pt:P t) (nt:t ≠ q) (ig:InG G bb) {ref:Int} (hr:0≤ref∧ref≤2) :
  ∃ h1 h2 h3 h4,KW 96 [bb.v] h=some (.ret (.agg [.int .i64 bb.x,.int .i64 bb.y,.int .i64 bb.w,.int .i64 bb.h]),h1) ∧
   KW 95 [.ptr g 0,.agg [.int .i64 bb.x,.int .i64 bb.y,.int .i64 bb.w,.int .i64 bb.h],.int .i64 ref] h1=some (.ret (.tup [.agg [.int .i64 (vsOf G bb ref).1.1.1,.int .i64 (vsOf G bb ref).1.1.2,.int .i64 (vsOf G bb ref).1.2.1,.int .i64 (vsOf G bb ref).1.2.2],.int .i64 ((vsOf G bb ref).2:Nat),.int .i64 0]),h2) ∧
   (h2.new (.cells [.int .i64 0,.int .i64 0,.int .i64 0,.int .i64 0] 40 false)).wrN h2.n 0 [.int .i64 (vsOf G bb ref).1.1.1,.int .i64 (vsOf G bb ref).1.1.2,.int .i64 (vsOf G bb ref).1.2.1,.int .i64 (vsOf G bb ref).1.2.2]=some h3 ∧
   h3.wr1 q 1 (.int .i64 0)=some h4∧h1.get t=some (.cells bb.cs 42 false)∧h4.get t=some (.cells bb.cs 42 false) ∧
   h4.get h2.n=some (.cells [.int .i64 (vsOf G bb ref).1.1.1,.int .i64 (vsOf G bb ref).1.1.2,.int .i64 (vsOf G bb ref).1.2.1,.int .i64 (vsOf G bb ref).1.2.2] 40 false)∧h.n≤h2.n ∧
   Co (fun b=>P b∨b=h2.n) h4 c q m st 0∧Kp (fun b=>P b∧b ≠ q∧b ≠ t) h h4:=by
 obtain ⟨_,h1,a1,rfl,x1⟩:=(rect58_ok bb h).elim
 obtain ⟨_,h2,a2,rfl,x2⟩:=(vecs_of (ga.ext x1) ig hr).elim
 have x12:=x1.trans x2
 have a3:=(a.ext x12).box (.cells [.int .i64 (vsOf G bb ref).1.1.1,.int .i64 (vsOf G bb ref).1.1.2,.int .i64 (vsOf G bb ref).1.2.1,.int .i64 (vsOf G bb ref).1.2.2] 40 false)
 obtain ⟨h3,hh3⟩:∃ z,z=h2.new (.cells [.int .i64 (vsOf G bb ref).1.1.1,.int .i64 (vsOf G bb ref).1.1.2,.int .i64 (vsOf G bb ref).1.2.1,.int .i64 (vsOf G bb ref).1.2.2] 40 false):=⟨_,rfl⟩
 rw [← hh3] at a3
 have x3:Ext h2 h3:=by rw [hh3];exact (Ext.refl h2).new _
 have x13:=x12.trans x3
 have xn:=x12.n
 have htn:=a.lt t pt
 have hqn:=a.lt q a.pq
 have n3:h3.n=h2.n+1:=by rw [hh3,H.n_new]
 refine ⟨h1,h2,h3,h3.put q (.cells [.ptr c 0,.int .i64 0] 113 false),a1,a2,by rw [hh3];exact wrN_new _ _ _ _ rfl,by rw [wr1_of a3.k (by simp)];rfl,(x1.get t htn).trans ht,by rw [get_put_ne nt,x13.get t htn,ht],by rw [get_put_ne (by omega),hh3];exact get_new_same,xn,?_,⟨by rw [H.n_put];exact x13.n,?_⟩⟩
 ·obtain ⟨⟨E,C,hD⟩,k,pq,lt⟩:=a3
  exact ⟨⟨E,C.keep (by rw [H.n_put];exact Nat.le_refl _) fun b hb hb2=>get_put_ne (by rintro rfl;exact (hD _ hb).2 pq),fun b hb=>by rw [H.n_put];exact hD b hb⟩,get_put_same (H.get_lt k),pq,fun b hb=>by rw [H.n_put];exact lt b hb⟩
 ·rintro i ⟨hi,iq,it⟩
  rw [get_put_ne iq,x13.get i (a.lt i hi)]
theorem iter34_0 {P:Nat→Prop} {h:H} {c q t m:Nat} {st:St} (a:Co P h c q m st 0) {D:Nat→Prop} {g:Nat} {G:Gr} (ga:GridAt D h g G) {bb:Bk} (ht:h.get t=some (.cells bb.cs 42 false)) (pt:P t) (nt:t ≠ q) (ig:InG G bb) (hr:0≤bb.r0∧bb.r0≤2) (hm:m+28 < 100000000) {n:Nat} (hn:0 < n)
  (hmm : -1000≤bb.mm∧bb.mm≤1000) (hv:(-5000≤bb.m0.1∧bb.m0.1≤5000)∧(-5000≤bb.m0.2∧bb.m0.2≤5000)) (hw:st.sd.writes=true→(0≤bb.mm∧bb.mm≤3)∧if bb.mm=3 then vecB bb.m0 else bb.m0=saidV bb.mm (vsOf G bb bb.r0).1) {e:E} (he:E34 q g t n 0 e) :
  NmP (fun e' g'=>E34 q g t n 1 e'∧VEnd P h c q t 42 (m+28) (st.sym 16 (vsOf G bb bb.r0).2 bb.mm) (fun v=>({ bb with mm:=(st.symV 16 (vsOf G bb bb.r0).2 bb.mm:Nat),m0:=v }:Bk).cs) bb.m0
   ((vectorP (st.symV 16 (vsOf G bb bb.r0).2 bb.mm:Nat) (saidV (st.symV 16 (vsOf G bb bb.r0).2 bb.mm:Nat) (vsOf G bb bb.r0).1) bb.m0).exec (st.sym 16 (vsOf G bb bb.r0).2 bb.mm)) g') (l54_1 KW loopZ e h):=by
 obtain ⟨e0,e1,e2,e35,e36⟩:=he
 obtain ⟨vk1,vk2,vk3⟩:=vsOf_ok ga.ok bb bb.r0 hr.1 hr.2
 obtain ⟨h1,h2,h3,h4,a1,a2,w3,w4,t1,t4,g48,hn2,a4,kp4⟩:=front34 a ga ht pt nt ig hr
 obtain ⟨l,hl⟩:∃ l,l=(vsOf G bb bb.r0).1:=⟨_,rfl⟩
 obtain ⟨n0,hn0⟩:∃ n0,n0=(vsOf G bb bb.r0).2:=⟨_,rfl⟩
 rw [← hl,← hn0] at a2
 rw [← hl] at w3 g48 vk1 vk2 hw ⊢
 rw [← hn0] at vk3 ⊢
 have tb:h2.n ≠ t∧h2.n ≠ q:=⟨fun h=>by have:=a.lt t pt;omega,fun h=>by have:=a.lt q a.pq;omega⟩
 have hmw:st.sd.writes=true→0≤bb.mm - 0∧bb.mm - 0 < (vl 16:Nat):=fun h=>by have:=(hw h).1;show _∧_ < ((4:Nat):Int);omega
 obtain ⟨_,h5,a5,rfl,R5⟩:=(symbol60_ok a4 (t:=t) (o:=16) (k:=16) (x:=n0) (v:=bb.mm) (f:=0) t4 (.inl pt) nt rfl (by omega) (by decide) (by show n0 < 3;omega) (by omega) (by decide) hmw).elim
 rw [Int.sub_zero,Int.add_zero] at R5
 have sl:st.symV 16 n0 bb.mm < 4:=St.symV_lt a.ok.1 (k:=16) (by decide) (by show n0 < 3;omega) (fun h=>by have:=hmw h;omega)
 have sw:st.sd.writes=true→((st.symV 16 n0 bb.mm:Nat):Int)=bb.mm:=fun h=>by rw [St.symV_w h];have:=(hw h).1;omega
 obtain ⟨s,hs⟩:∃ s,s=st.symV 16 n0 bb.mm:=⟨_,rfl⟩
 obtain ⟨st5,hst5⟩:∃ z,z=st.sym 16 n0 bb.mm:=⟨_,rfl⟩
 rw [← hs,← hst5] at R5
 rw [← hs] at sl sw
 rw [← hs,← hst5]
 have w5:st5.sd.writes=st.sd.writes:=by rw [hst5];exact St.sym_wr _ _ _ _
 obtain ⟨b1,hb1⟩:∃ b1:Bk,b1={ bb with mm:=(s:Nat) }:=⟨_,rfl⟩
 have t5:h5.get t=some (.cells b1.cs 42 false):=by rw [hb1];exact R5.box
 have a5':KW 98 [.ptr q 0,.int .i64 16,.int .i64 (n0:Nat),.int .i64 0,.ptr t 16] h4=some (.ret (.tup []),h5):=a5
 have S:Slot (fun v=>({ bb with mm:=(s:Nat),m0:=v }:Bk).cs) 17:=slot0 { bb with mm:=(s:Nat) }
 obtain ⟨_,h6,a6,rfl,V6⟩:=(vector66_ok (l:=l) (mode:=(s:Nat)) (v:=bb.m0) R5.co S (by rw [t5,hb1]) (.inl pt) nt (by omega) hv ⟨vk1,vk2⟩ (fun h=>by
  rw [w5] at h
  rw [sw h];exact (hw h).2)).elim
 have V6:=(V6.up (h:=h) a.pq (fun b hb=>.inl hb) (kp4.trans (R5.kp.mono fun i hi=>⟨.inl hi.1,hi.2⟩)))
 have rb:h.rdN t 0 23=some bb.cs:=by rw [rdN_of ht (by simp)];rfl
 have r14:h.rd1 t 14=some (.int .i64 bb.r0)∧h1.rd1 t 14=some (.int .i64 bb.r0):=⟨rd1_of ht,rd1_of t1⟩
 have q1:=rd1_of (o:=1) a.k
 have mm5:h5.rd1 t 16=some (.int .i64 (s:Nat)):=by rw [rd1_of t5,hb1];rfl
 have r58:h5.rdN h2.n 0 4=some [.int .i64 l.1.1,.int .i64 l.1.2,.int .i64 l.2.1,.int .i64 l.2.2]:=by
  rw [rdN_of ((R5.kp.get h2.n ⟨.inr rfl,tb.2,tb.1⟩).trans g48) (by simp)];rfl
 have hn':(0:Int) < n:=by omega
 have z1:IntKind.i64.wrap 1=1:=rfl
 simp [l54_1,z1,e36,e35,hn,hn',e0,q1,e2,rb,a1,r14.1,r14.2,e1,a2,nw,w3,w4,a5',mm5,r58,a6,ck4,NmP]
 exact ⟨⟨by simp [e0],by simp [e1],by simp [e2],by simp [e35],by simp⟩,V6⟩
theorem iter34_1 {P:Nat→Prop} {h:H} {c q t m:Nat} {st:St} (a:Co P h c q m st 0) {D:Nat→Prop} {g:Nat} {G:Gr} (ga:GridAt D h g G) {bb:Bk} (ht:h.get t=some (.cells bb.cs 42 false)) (pt:P t) (nt:t ≠ q) (ig:InG G bb) (hr:0≤bb.r1∧bb.r1≤2) (hm:m+27 < 100000000)
  (hv:(-5000≤bb.m1.1∧bb.m1.1≤5000)∧(-5000≤bb.m1.2∧bb.m1.2≤5000)) (hw:st.sd.writes=true→if bb.mm=3 then vecB bb.m1 else bb.m1=saidV bb.mm (vsOf G bb bb.r1).1) {e:E} (he:E34 q g t 2 1 e) :
  NmP (fun e' g'=>E34 q g t 2 2 e'∧VEnd P h c q t 42 (m+27) st (fun v=>({ bb with m1:=v }:Bk).cs) bb.m1 ((vectorP bb.mm (saidV bb.mm (vsOf G bb bb.r1).1) bb.m1).exec st) g') (l54_1 KW loopZ e h):=by
 obtain ⟨e0,e1,e2,e35,e36⟩:=he
 obtain ⟨vk1,vk2,vk3⟩:=vsOf_ok ga.ok bb bb.r1 hr.1 hr.2
 obtain ⟨h1,h2,h3,h4,a1,a2,w3,w4,t1,t4,g48,hn2,a4,kp4⟩:=front34 a ga ht pt nt ig hr
 obtain ⟨l,hl⟩:∃ l,l=(vsOf G bb bb.r1).1:=⟨_,rfl⟩
 rw [← hl] at a2
 rw [← hl] at w3 g48 vk1 vk2 hw ⊢
 obtain ⟨_,h6,a6,rfl,V6⟩:=(vector66_ok (l:=l) (mode:=bb.mm) (v:=bb.m1) a4 (slot1 bb) t4 (.inl pt) nt (by omega) hv ⟨vk1,vk2⟩ hw).elim
 have V6:=(V6.up (h:=h) a.pq (fun b hb=>.inl hb) kp4)
 have rb:h.rdN t 0 23=some bb.cs:=by rw [rdN_of ht (by simp)];rfl
 have r14:h.rd1 t 15=some (.int .i64 bb.r1)∧h1.rd1 t 15=some (.int .i64 bb.r1):=⟨rd1_of ht,rd1_of t1⟩
 have q1:=rd1_of (o:=1) a.k
 have mm5:h4.rd1 t 16=some (.int .i64 bb.mm):=by rw [rd1_of t4];rfl
 have r58:h4.rdN h2.n 0 4=some [.int .i64 l.1.1,.int .i64 l.1.2,.int .i64 l.2.1,.int .i64 l.2.2]:=by rw [rdN_of g48 (by simp)];rfl
 have z2:IntKind.i64.wrap 2=2:=rfl
 simp [l54_1,e36,e35,e0,q1,e2,rb,a1,r14.1,r14.2,e1,a2,nw,w3,w4,mm5,r58,a6,ck4,NmP,z2]
 exact ⟨⟨by simp [e0],by simp [e1],by simp [e2],by simp [e35],by simp⟩,V6⟩
open Go.Zf (wi64)
def NrP (Post PostR:E→H→Prop):Out→Prop
 | some ⟨.nm,e,h⟩=>Post e h
 | some ⟨.rt,e,h⟩=>PostR e h
 | _=>False
theorem NrP_cg {Post PostR:E→H→Prop} {x y:Out} (h:x=y):NrP Post PostR x=NrP Post PostR y:=by rw [h]
attribute [congr] NrP_cg
theorem sq_in2 {C:Out→Prop} {X:Out} {k:E→H→Out} (Post PostR:E→H→Prop) (h1:NrP Post PostR X) (h2:∀ e h,Post e h→C (k e h)) (h3:∀ e h,PostR e h→C (some ⟨.rt,e,h⟩)):C (sq X k):=by
 unfold NrP at h1
 split at h1
 ·rw [sq_nm];exact h2 _ _ h1
 ·rw [sq_rt];exact h3 _ _ h1
 ·exact h1.elim
theorem nr_loop {Post PostR Mid:E→H→Prop} {body:E→H→Out} {i:Nat} {e:E} {h:H} (h1:NmP Mid (body e h)) (h2:∀ e' g,Mid e' g→NrP Post PostR (blk i (loopZ body e' g))):NrP Post PostR (blk i (loopZ body e h)):=by
 obtain ⟨e',g,x,hm⟩:=h1.elim
 rw [loopZ_eq,x,sq_nm]
 exact h2 e' g hm
def refS (b:Bk) (st:St):Nat→Bk × St
 | 0=>(b,st)
 | 1=>({ b with r0:=(st.symV 14 0 b.r0:Nat) },st.sym 14 0 b.r0)
 | _=>({ b with r0:=(st.symV 14 0 b.r0:Nat),r1:=((st.sym 14 0 b.r0).symV 14 1 b.r1:Nat) },(st.sym 14 0 b.r0).sym 14 1 b.r1)
structure I34 (P:Nat→Prop) (h0:H) (c q t g m n:Nat) (b:Bk) (st:St) (i:Nat) (e:E) (h:H):Prop where
 R:Res P h0 c q t 42 (m+i) (refS b st i).2 (refS b st i).1.cs h
 e0:e.s K34v 0=.ptr q 0
 e1:e.s K34v 1=.ptr g 0
 e2:e.s K34v 2=.ptr t 0
 e19:e.s K34v 19=.int .i64 (n:Nat)
 e20:e.s K34v 20=.int .i64 (i:Nat)
theorem loop34_0 {P:Nat→Prop} {h0:H} {c q t g m n:Nat} {b:Bk} {st:St} (pt:P t) (nt:t ≠ q) (hn:n≤2) (hm:m+2 < 100000000) (hb:(-1000≤b.r0∧b.r0≤1000)∧(-1000≤b.r1∧b.r1≤1000)) (hw:st.sd.writes=true→(0≤b.r0∧b.r0≤2)∧(n=2→0≤b.r1∧b.r1≤2)) :
  ∀ k e h,(k≤n∧I34 P h0 c q t g m n b st (n - k) e h)→LS (fun k e h=>k≤n∧I34 P h0 c q t g m n b st (n - k) e h) (fun s=>s.x=.ex 0∧I34 P h0 c q t g m n b st n s.e s.h) k (l54_0 KW loopZ e h):=by
 rintro k e h ⟨hk,R,e0,e1,e2,e19,e20⟩
 obtain ⟨i,hi⟩:∃ i,i=n - k:=⟨_,rfl⟩
 rw [← hi] at R e20
 by_cases ci:i=n
 ·subst ci
  simp [l54_0,e20,e19]
  exact ⟨rfl,R,by simp [e0],by simp [e1],by simp [e2],by simp [e19],by simp [e20]⟩
 have hil:i < n:=by omega
 have hil':(i:Int) < n:=by omega
 have hi2:(i:Int) < 2:=by omega
 have z2:IntKind.i64.wrap ((i:Int)+1)=((i+1:Nat):Int):=by rw [wi64 (by omega) (by omega)];omega
 have jk:n - (k - 1)=i+1:=by omega
 have hv14:(vl 14:Int)=3:=rfl
 obtain ⟨_,h1,a1,rfl,R1⟩:=(symbol60_ok R.co (t:=t) (o:=14+i) (k:=14) (x:=i) (v:=if i=0 then b.r0 else b.r1) (f:=0) R.box pt nt (by rcases (by omega:i=0∨i=1) with rfl | rfl <;> rfl) (by omega) (by decide) (by show i < 3;omega) (by split <;> omega) (by decide) (fun h=>by
  rw [hv14]
  rcases (by omega:i=0∨i=1) with rfl | rfl
  ·have:=(hw h).1;simp only [if_true];omega
  ·have:=(hw (by rw [← St.sym_wr st 14 0 b.r0];exact h)).2 (by omega)
   rw [if_neg (by decide)];omega)).elim
 have a1':KW 98 [.ptr q 0,.int .i64 14,.int .i64 (i:Nat),.int .i64 0,.ptr t (14+i)] h=some (.ret (.tup []),h1):=a1
 simp [l54_0,e20,e19,hil,hil',e2,hi2,show i < 2 by omega,e0,a1',z2,-Int.natCast_add]
 refine ⟨k - 1,by omega,by omega,?_⟩
 rw [jk]
 refine ⟨?_,by simp [e0],by simp [e1],by simp [e2],by simp [e19],by simp⟩
 have RR:=R.trans R1
 rw [Int.sub_zero,Int.add_zero] at RR
 rcases (by omega:i=0∨i=1) with rfl | rfl
 ·exact RR
 ·exact RR
theorem sym_setOk {st:St} (so:SetOk st.S) {k c:Nat} {v:Int} (hk:k < 32) (hc:c < cx k):SetOk (st.sym k c v).S:=by
 obtain ⟨r,_,ht,tok,tl⟩:=so.get hk hc
 unfold St.sym
 dsimp only
 split
 ·exact so.set hk (adaptP_ok tok _) (by rw [adaptP_len];exact tl)
 ·exact so
def IEnd (P:Nat→Prop) (h:H) (c q t m:Nat) (st:St) (b:Bk) (R:Option Bk × St) (h':H):Prop :=
 match R with
 | (some r,st')=>(st.sd.writes=true→r=b)∧(shapeB r=shapeB b∧r.skip=b.skip∧r.inter=b.inter∧r.tx=b.tx)∧Res P h c q t 42 m st' r.cs h'
 | (none,st')=>st.sd.writes=false∧Co P h' c q m st' 4∧(∃ r:Bk,h'.get t=some (.cells r.cs 42 false))∧Kp (fun b=>P b∧b ≠ q∧b ≠ t) h h'
structure SmallE (b:Bk):Prop where
 r:(-1000≤b.r0∧b.r0≤1000)∧(-1000≤b.r1∧b.r1≤1000)
 mm : -1000≤b.mm∧b.mm≤1000
 fl : -1000≤b.fl∧b.fl≤1000
 m0:(-5000≤b.m0.1∧b.m0.1≤5000)∧(-5000≤b.m0.2∧b.m0.2≤5000)
 m1:(-5000≤b.m1.1∧b.m1.1≤5000)∧(-5000≤b.m1.2∧b.m1.2≤5000)
theorem vsOf_sh (G:Gr) {a b:Bk} (h:shapeB a=shapeB b):vsOf G a=vsOf G b:=by
 have h1:a.x=b.x:=(congrArg Bk.x h:(shapeB a).x=(shapeB b).x)
 have h2:a.y=b.y:=(congrArg Bk.y h:(shapeB a).y=(shapeB b).y)
 have h3:a.w=b.w:=(congrArg Bk.w h:(shapeB a).w=(shapeB b).w)
 unfold vsOf;rw [h1,h2,h3]
theorem InG.sh' {G:Gr} {a b:Bk} (ig:InG G b) (h:shapeB a=shapeB b):InG G a:=by
 have h1:a.x=b.x:=(congrArg Bk.x h:(shapeB a).x=(shapeB b).x)
 have h2:a.y=b.y:=(congrArg Bk.y h:(shapeB a).y=(shapeB b).y)
 have h3:a.w=b.w:=(congrArg Bk.w h:(shapeB a).w=(shapeB b).w)
 have h4:a.h=b.h:=(congrArg Bk.h h:(shapeB a).h=(shapeB b).h)
 obtain ⟨sh,i1⟩:=ig
 unfold ShapeB at sh
 exact ⟨by unfold ShapeB;rw [h1,h2,h3,h4];exact sh,by rw [h1,h2];exact i1⟩
def restI (cm:Bool) (b:Bk):Pr Bk:=.sym 20 0 b.fl fun fl=>(if cm then Pr.done b.ob else flagP 21 0 b.ob).bind fun ob=>.done { b with fl:=(fl:Nat),ob:=ob }
theorem inter34_ok {P:Nat→Prop} {h:H} {c q m:Nat} {st:St} (a:Co P h c q m st 0) {D:Nat→Prop} {g:Nat} {G:Gr} (ga:GridAt D h g G) {t:Nat} (dP:∀ x,D x→P x∧x ≠ q∧x ≠ t) {b:Bk} (ht:h.get t=some (.cells b.cs 42 false)) (pt:P t) (nt:t ≠ q) (ig:InG G b) (hm:m+60 < 100000000)
  (sm:SmallE b) (hw:st.sd.writes=true→InterB b∧AgreeB (vsOf G b) b) :
  RT (fun w h'=>w=.tup []∧IEnd P h c q t (m+60) st b ((interP (vsOf G b) b).exec st) h') (KW 54 [.ptr q 0,.ptr g 0,.ptr t 0] h):=by
 have keepG:∀ {h':H},Kp (fun b=>P b∧b ≠ q∧b ≠ t) h h'→GridAt D h' g G:=fun k=>ga.keep k.n fun x hx=>k.get x (dP x hx)
 obtain ⟨_,h1,a1,rfl,R1⟩:=(flag31_ok a (t:=t) (o:=13) (k:=15) (x:=0) (b:=b.comp) ht pt nt rfl (by omega) (by decide) (by decide) rfl).elim
 have cw:st.sd.writes=true→decide (st.symV 15 0 (flg b.comp)=1)=b.comp:=fun h=>by rw [St.symV_w h];cases b.comp <;> rfl
 have ex1:(interP (vsOf G b) b).exec st=(Pr.sym 14 0 b.r0 fun r0=>(if decide (st.symV 15 0 (flg b.comp)=1)=true then Pr.sym 14 1 b.r1 fun r1=>Pr.done ((r1:Nat):Int) else Pr.done b.r1).bind fun r1 =>
   .sym 16 (vsOf G b (r0:Nat)).2 b.mm fun mm=>(vectorP (mm:Nat) (saidV (mm:Nat) (vsOf G b (r0:Nat)).1) b.m0).bind fun m0 =>
   (if decide (st.symV 15 0 (flg b.comp)=1)=true then vectorP (mm:Nat) (saidV (mm:Nat) (vsOf G b r1).1) b.m1 else .done b.m1).bind fun m1 =>
   restI (decide (st.symV 15 0 (flg b.comp)=1)) { b with comp:=decide (st.symV 15 0 (flg b.comp)=1),r0:=(r0:Nat),r1:=r1,mm:=(mm:Nat),m0:=m0,m1:=m1 }).exec (st.sym 15 0 (flg b.comp)):=rfl
 obtain ⟨cm,hcm⟩:∃ cm,cm=decide (st.symV 15 0 (flg b.comp)=1):=⟨_,rfl⟩
 obtain ⟨st1,hst1⟩:∃ z,z=st.sym 15 0 (flg b.comp):=⟨_,rfl⟩
 rw [← hcm,← hst1] at R1
 rw [← hcm] at cw
 rw [← hcm,← hst1] at ex1
 have w1:st1.sd.writes=st.sd.writes:=by rw [hst1];exact St.sym_wr _ _ _ _
 obtain ⟨b1,hb1⟩:∃ b1:Bk,b1={ b with comp:=cm }:=⟨_,rfl⟩
 have R1:Res P h c q t 42 (m+1) st1 b1.cs h1:=by rw [hb1];exact R1
 have a1':KW 51 [.ptr q 0,.int .i64 15,.int .i64 0,.ptr t 13] h=some (.ret (.tup []),h1):=a1
 have rb1:h1.rdN t 0 23=some b1.cs:=by rw [rdN_of R1.box (by simp)];rfl
 obtain ⟨_,h2,a2,rfl,x2⟩:=(vecs56_ok b1 h1).elim
 have c1:b1.comp=cm:=by rw [hb1]
 have start:Res P h c q t 42 (m+1+0) (refS b1 st1 0).2 (refS b1 st1 0).1.cs h2:=⟨R1.co.ext x2,(x2.get t (H.get_lt R1.box)).trans R1.box,R1.kp.trans (Kp.of x2 fun i hi=>R1.co.lt i hi.1)⟩
 have br:b1.r0=b.r0∧b1.r1=b.r1:=by rw [hb1];exact ⟨rfl,rfl⟩
 obtain ⟨n,hn⟩:∃ n:Nat,n=if cm=true then 2 else 1:=⟨_,rfl⟩
 have hn':(if b1.comp=true then (2:Int) else 1)=(n:Nat):=by rw [hn,c1];split <;> rfl
 rw [hn'] at a2
 have hn2:1≤n∧n≤2:=by rw [hn];split <;> omega
 have sec:st.sd.writes=true→cm=true→(0≤b.r1∧b.r1≤2)∧vecB b.m1:=fun h hc=>by
  have:=(hw h).1.2.2.2.2.2
  unfold secondB at this
  rw [← cw h,if_pos hc] at this
  exact ⟨this.1,this.2.1⟩
 obtain ⟨Q,hQ⟩:∃ Q:V→H→Prop,Q=fun w h'=>w=.tup []∧IEnd P h c q t (m+60) st b ((interP (vsOf G b) b).exec st) h':=⟨_,rfl⟩
 rw [← hQ]
 rw [w54,f54,s54]
 simp [a1',rb1,a2]
 refine loop_in (C:=fun o=>RT Q (fin Tryz.prog _ _ (sq (blk 0 o) _))) _ _ (loop34_0 (P:=P) (h0:=h) (c:=c) (q:=q) (t:=t) (g:=g) (m:=m+1) (n:=n) (b:=b1) (st:=st1) pt nt hn2.2 (by omega) (by rw [br.1,br.2];exact sm.r) (fun h=>by
  rw [w1] at h
  rw [br.1,br.2]
  exact ⟨(hw h).1.2.1,fun e=>(sec h (by rw [hn] at e;cases hc:cm with | true=>rfl | false=>rw [hc] at e;simp at e)).1⟩)) n ⟨Nat.le_refl _,by rw [Nat.sub_self];exact ⟨start,by simp,by simp,by simp,by simp,by simp⟩⟩ ?_
 rintro ⟨sx,se,sh⟩ ⟨s1,R2,e0,e1,e2,e19,e20⟩
 simp only at s1 R2 e0 e1 e2 e19 e20
 subst s1
 obtain ⟨b2,hb2⟩:∃ z,z=(refS b1 st1 n).1:=⟨_,rfl⟩
 obtain ⟨st2,hst2⟩:∃ z,z=(refS b1 st1 n).2:=⟨_,rfl⟩
 rw [← hb2,← hst2] at R2
 have rb2:sh.rdN t 0 23=some b2.cs:=by rw [rdN_of R2.box (by simp)];rfl
 obtain ⟨_,h3,a3,rfl,x3⟩:=(vecs56_ok b2 sh).elim
 have b2c:b2.comp=cm:=by rw [hb2,hb1];rcases (by omega:n=1∨n=2) with h | h <;> rw [h] <;> rfl
 have hn'':(if b2.comp=true then (2:Int) else 1)=(n:Nat):=by rw [hn,b2c];split <;> rfl
 rw [hn''] at a3
 have R3:Res P h c q t 42 (m+3) st2 b2.cs h3:=⟨(R2.co.ext x3).more (by omega) (by omega),(x3.get t (H.get_lt R2.box)).trans R2.box,R2.kp.trans (Kp.of x3 fun i hi=>R2.co.lt i hi.1)⟩
 have w2:st2.sd.writes=st.sd.writes:=by
  rw [hst2,← w1];rcases (by omega:n=1∨n=2) with h | h <;> rw [h]
  ·exact St.sym_wr _ _ _ _
  ·exact (St.sym_wr _ _ _ _).trans (St.sym_wr _ _ _ _)
 have sh2:shapeB b2=shapeB b:=by rw [hb2,hb1];rcases (by omega:n=1∨n=2) with h | h <;> rw [h] <;> rfl
 have f2:b2.skip=b.skip∧b2.inter=b.inter∧b2.tx=b.tx∧b2.mm=b.mm∧b2.m0=b.m0∧b2.m1=b.m1∧b2.fl=b.fl∧b2.ob=b.ob:=by
  rw [hb2,hb1];rcases (by omega:n=1∨n=2) with h | h <;> rw [h] <;> exact ⟨rfl,rfl,rfl,rfl,rfl,rfl,rfl,rfl⟩
 have sv0:st1.symV 14 0 b.r0 < 3:=St.symV_lt R1.co.ok.1 (k:=14) (by decide) (by decide) (fun h=>by have:=(hw (by rw [← w1];exact h)).1.2.1;show _∧_ < ((3:Nat):Int);omega)
 have r0b:0≤b2.r0∧b2.r0≤2:=by
  have:b2.r0=(st1.symV 14 0 b.r0:Nat):=by rw [hb2,hb1];rcases (by omega:n=1∨n=2) with h | h <;> rw [h] <;> rfl
  omega
 have r0w:st.sd.writes=true→b2.r0=b.r0:=fun h=>by
  have e:b2.r0=(st1.symV 14 0 b.r0:Nat):=by rw [hb2,hb1];rcases (by omega:n=1∨n=2) with h | h <;> rw [h] <;> rfl
  rw [e,St.symV_w (by rw [w1];exact h)]
  have:=(hw h).1.2.1;omega
 have hvs:=vsOf_sh G sh2
 have ga3:GridAt D h3 g G:=keepG R3.kp
 have ig2:=ig.sh' sh2
 -- the first vector
 obtain ⟨S,hS⟩:∃ S,S=st2.symV 16 (vsOf G b b2.r0).2 b.mm:=⟨_,rfl⟩
 obtain ⟨st3,hst3⟩:∃ z,z=st2.sym 16 (vsOf G b b2.r0).2 b.mm:=⟨_,rfl⟩
 have w3:st3.sd.writes=st.sd.writes:=by rw [hst3,St.sym_wr,w2]
 have iw:st2.sd.writes=true→(0≤b2.mm∧b2.mm≤3)∧if b2.mm=3 then vecB b2.m0 else b2.m0=saidV b2.mm (vsOf G b2 b2.r0).1:=fun h=>by
  rw [w2] at h
  obtain ⟨⟨z,q1,q2,q3,q4,q5⟩,ag⟩:=hw h
  rw [f2.2.2.2.1,f2.2.2.2.2.1,hvs,r0w h]
  refine ⟨q2,?_⟩
  split
  ·exact q3
  ·rename_i h3;exact (ag z.1 h3).1
 have Sw:st.sd.writes=true→((S:Nat):Int)=b.mm:=fun h=>by rw [hS,St.symV_w (by rw [w2];exact h)];have:=(hw h).1.2.2.1;omega
 have it0:=fun (e:E) (he:E34 q g t n 0 e)=>(iter34_0 (n:=n) R3.co ga3 R3.box pt nt ig2 r0b (by omega) (by omega) (by rw [f2.2.2.2.1];exact sm.mm) (by rw [f2.2.2.2.2.1];exact sm.m0) iw he)
 rw [hvs,f2.2.2.2.1,f2.2.2.2.2.1,← hS,← hst3] at it0
 have exA:(interP (vsOf G b) b).exec st=((vectorP (S:Nat) (saidV (S:Nat) (vsOf G b b2.r0).1) b.m0).bind fun m0=>(if cm=true then vectorP (S:Nat) (saidV (S:Nat) (vsOf G b b2.r1).1) b.m1 else .done b.m1).bind fun m1=>restI cm { b2 with mm:=(S:Nat),m0:=m0,m1:=m1 }).exec st3:=by
  rw [ex1]
  cases hc:cm with
  | true =>
   have e:n=2:=by rw [hn,hc];rfl
   rw [hst3,hS,hst2,hb2,e,hb1,hc];rfl
  | false =>
   have e:n=1:=by rw [hn,hc];rfl
   rw [hst3,hS,hst2,hb2,e,hb1,hc];rfl
 obtain ⟨Pos,hPos⟩:∃ Pos:H→Prop,Pos=fun g4 =>
   (
    ∃ bb st4,(interP (vsOf G b) b).exec st=(restI cm bb).exec st4∧(st.sd.writes=true→bb=b)∧(shapeB bb=shapeB b∧bb.skip=b.skip∧bb.inter=b.inter∧bb.tx=b.tx∧bb.comp=cm∧bb.fl=b.fl)∧Res P h c q t 42 (m+58) st4 bb.cs g4) ∨
    (∃ st4 rr,(interP (vsOf G b) b).exec st=(none,st4)∧st.sd.writes=false∧Co P g4 c q (m+58) st4 4∧g4.get t=some (.cells (rr:Bk).cs 42 false)∧rr.comp=cm∧Kp (fun b=>P b∧b ≠ q∧b ≠ t) h g4):=⟨_,rfl⟩
 simp [e0,e1,e2,rb2,a3]
 refine sq_in2 (C:=fun o=>RT Q (fin Tryz.prog _ _ o)) (fun e g4=>(e.s K34v 0=.ptr q 0∧e.s K34v 2=.ptr t 0)∧Pos g4) (fun e g4=>Q (.tup []) g4) ?_ ?_ ?_
 ·refine nr_loop (it0 _ ⟨by simp,by simp,by simp,by simp,by simp⟩) ?_
  rintro e4 g4 ⟨E4,V4⟩
  generalize hV:(vectorP (S:Nat) (saidV (S:Nat) (vsOf G b b2.r0).1) b.m0).exec st3=RV at V4
  obtain ⟨r,st4⟩:=RV
  cases r with
  | none =>
   rw [Pr.exec_none hV] at exA
   obtain ⟨v1,v2,⟨rr,v3⟩,v4⟩:=V4
   have kp4:=R3.kp.trans v4
   rw [w3] at v1
   cases hc:cm with
   | true =>
     have e:n=2:=by rw [hn,hc];rfl
     subst e
     have hq:Q (.tup []) g4:=by rw [hQ];refine ⟨rfl,?_⟩;rw [exA];exact ⟨v1,v2.more (by omega) hm,⟨_,v3⟩,kp4⟩
     have q1:=rd1_of (o:=1) v2.k
     rw [loopZ_eq]
     simp [l54_1,E4.e36,E4.e35,E4.e0,q1,NrP]
     exact hq
   | false =>
     have e:n=1:=by rw [hn,hc];rfl
     subst e
     have pos:Pos g4:=by
      rw [hPos]
      exact .inr ⟨st4,_,exA,v1,v2.more (by omega) (by omega),v3,b2c,kp4⟩
     rw [loopZ_eq]
     simp [l54_1,E4.e36,E4.e35,NrP]
     exact ⟨⟨by simp [E4.e0],by simp [E4.e2]⟩,pos⟩
  | some m0' =>
   rw [Pr.exec_some hV] at exA
   obtain ⟨v1,v2⟩:=V4
   rw [w3] at v1
   have w4:=(exec_wr' hV).trans w3
   have b2w:st.sd.writes=true→({ b2 with mm:=(S:Nat),m0:=m0',r1:=b.r1 }:Bk)=b:=fun h=>by
     rw [Sw h,v1 h]
     have e1:=r0w h
     have e2:=cw h
     have e3:({ b2 with mm:=b.mm,m0:=b.m0,r1:=b.r1 }:Bk)={ b with comp:=cm,r0:=b2.r0 }:=by
      rw [hb2,hb1];rcases (by omega:n=1∨n=2) with h | h <;> rw [h] <;> rfl
     rw [e3,e1,e2]
   cases hc:cm with
   | false =>
     have e:n=1:=by rw [hn,hc];rfl
     subst e
     have pos:Pos g4:=by
      rw [hPos]
      refine .inl ⟨{ b2 with mm:=(S:Nat),m0:=m0' },st4,?_,fun h=>?_,⟨sh2,f2.1,f2.2.1,f2.2.2.1,b2c,f2.2.2.2.2.2.2.1⟩,⟨v2.co.more (by omega) (by omega),v2.box,R3.kp.trans v2.kp⟩⟩
      ·rw [exA,hc,← f2.2.2.2.2.2.1];rfl
      ·have e1:b2.r1=b.r1:=by rw [hb2,hb1];rfl
       have e2:=b2w h
       rw [← e1] at e2
       exact e2
     rw [loopZ_eq]
     simp [l54_1,E4.e36,E4.e35,NrP]
     exact ⟨⟨by simp [E4.e0],by simp [E4.e2]⟩,pos⟩
   | true =>
     have e:n=2:=by rw [hn,hc];rfl
     subst e
     have e2r:b2.r1=((st1.sym 14 0 b.r0).symV 14 1 b.r1:Nat):=by rw [hb2,hb1];rfl
     have hw14:(st1.sym 14 0 b.r0).sd.writes=true→0≤b.r1∧b.r1 < (vl 14:Nat):=fun h=>by
      rw [St.sym_wr,w1] at h
      have:=(sec h hc).1;show _∧_ < ((3:Nat):Int);omega
     have sv1:(st1.sym 14 0 b.r0).symV 14 1 b.r1 < 3:=St.symV_lt (sym_setOk R1.co.ok.1 (by decide) (by decide)) (k:=14) (by decide) (by decide) hw14
     have r1b:0≤b2.r1∧b2.r1≤2:=by omega
     have r1w:st.sd.writes=true→b2.r1=b.r1:=fun h=>by
      rw [e2r,St.symV_w (by rw [St.sym_wr,w1];exact h)]
      have:=(sec h hc).1;omega
     obtain ⟨b3,hb3⟩:∃ b3:Bk,b3={ b2 with mm:=(S:Nat),m0:=m0' }:=⟨_,rfl⟩
     have t4:g4.get t=some (.cells b3.cs 42 false):=by rw [hb3];exact v2.box
     have sh3:shapeB b3=shapeB b:=by rw [hb3];exact sh2
     have f3:b3.r1=b2.r1∧b3.m1=b.m1∧b3.mm=(S:Nat):=by rw [hb3];exact ⟨rfl,f2.2.2.2.2.2.1,rfl⟩
     have kp4:=R3.kp.trans v2.kp
     have iw1:st4.sd.writes=true→if b3.mm=3 then vecB b3.m1 else b3.m1=saidV b3.mm (vsOf G b3 b3.r1).1:=fun h=>by
      rw [w4] at h
      obtain ⟨⟨z,q1,q2,q3,q4,q5⟩,ag⟩:=hw h
      rw [vsOf_sh G sh3,f3.1,f3.2.1,f3.2.2,r1w h,Sw h]
      split
      ·exact (sec h hc).2
      ·rename_i hm3;exact (ag z.1 hm3).2 (by rw [← cw h,hc])
     refine nr_loop (iter34_1 v2.co (keepG kp4) t4 pt nt (ig.sh' sh3) (by rw [f3.1];exact r1b) (by omega) (by rw [f3.2.1];exact sm.m1) iw1 ⟨by simp [E4.e0],by simp [E4.e1],by simp [E4.e2],by simp [E4.e35],by simp [E4.e36]⟩) ?_
     rw [vsOf_sh G sh3,f3.1,f3.2.1,f3.2.2]
     rintro e5 g5 ⟨E5,V5⟩
     rw [hc,if_pos rfl] at exA
     generalize hV1:(vectorP (S:Nat) (saidV (S:Nat) (vsOf G b b2.r1).1) b.m1).exec st4=RV at V5
     obtain ⟨r,st5⟩:=RV
     have pos:Pos g5:=by
      rw [hPos]
      cases r with
      | none =>
       rw [Pr.exec_none hV1] at exA
       obtain ⟨u1,u2,⟨rr,u3⟩,u4⟩:=V5
       rw [w4] at u1
       refine .inr ⟨st5,_,exA,u1,u2.more (by omega) (by omega),u3,?_,kp4.trans u4⟩
       rw [hb3];exact b2c
      | some m1' =>
       rw [Pr.exec_some hV1] at exA
       obtain ⟨u1,u2⟩:=V5
       rw [w4] at u1
       refine .inl ⟨{ b3 with m1:=m1' },st5,?_,fun h=>?_,⟨sh3,by rw [hb3];exact f2.1,by rw [hb3];exact f2.2.1,by rw [hb3];exact f2.2.2.1,by rw [hb3];exact b2c,by rw [hb3];exact f2.2.2.2.2.2.2.1⟩,⟨u2.co.more (by omega) (by omega),by have h:=u2.box;rw [← f3.2.2,← f3.1] at h;exact h,kp4.trans u2.kp⟩⟩
       ·rw [exA,hb3,hc]
       ·rw [u1 h,← f3.2.1,hb3]
        have e2:=b2w h
        rw [← r1w h] at e2
        exact e2
     rw [loopZ_eq]
     simp [l54_1,E5.e36,E5.e35,NrP]
     exact ⟨⟨by simp [E5.e0],by simp [E5.e2]⟩,pos⟩
 ·rintro e g4 ⟨⟨e0,e2⟩,pos⟩
  rw [hPos] at pos
  rcases pos with ⟨bb,st4,exB,wb,⟨s1,s2,s3,s4,s5,s6⟩,R4⟩ | ⟨st4,rr,exB,wb,co4,rb4,rc4,kp4⟩
  ·have w4:st4.sd.writes=st.sd.writes:=by
     have h1:=exec_wr (restI cm bb) st4
     have h2:=exec_wr (interP (vsOf G b) b) st
     rw [exB] at h2
     exact h1.symm.trans h2
   have flw:st4.sd.writes=true→0≤bb.fl - 0∧bb.fl - 0 < (vl 20:Nat):=fun h=>by
     rw [w4] at h
     have:=(hw h).1.2.2.2.2.1
     rw [s6];show _∧_ < ((3:Nat):Int);omega
   obtain ⟨_,g5,a5,rfl,R5⟩:=(symbol60_ok R4.co (t:=t) (o:=21) (k:=20) (x:=0) (v:=bb.fl) (f:=0) R4.box pt nt rfl (by omega) (by decide) (by decide) (by rw [s6];have:=sm.fl;omega) (by decide) flw).elim
   rw [Int.sub_zero,Int.add_zero] at R5
   have a5':KW 98 [.ptr q 0,.int .i64 20,.int .i64 0,.int .i64 0,.ptr t 21] g4=some (.ret (.tup []),g5):=a5
   have fw:st.sd.writes=true→((st4.symV 20 0 bb.fl:Nat):Int)=bb.fl:=fun h=>by
     have:=flw (by rw [w4];exact h)
     rw [St.symV_w (by rw [w4];exact h)];omega
   obtain ⟨f,hf⟩:∃ f,f=st4.symV 20 0 bb.fl:=⟨_,rfl⟩
   obtain ⟨st5,hst5⟩:∃ z,z=st4.sym 20 0 bb.fl:=⟨_,rfl⟩
   rw [← hf,← hst5] at R5
   rw [← hf] at fw
   have w5:st5.sd.writes=st.sd.writes:=by rw [hst5,St.sym_wr,w4]
   obtain ⟨b5,hb5⟩:∃ b5:Bk,b5={ bb with fl:=(f:Nat) }:=⟨_,rfl⟩
   have R5:Res P g4 c q t 42 (m+58+1) st5 b5.cs g5:=by rw [hb5];exact R5
   have cm5:g5.rd1 t 13=some (.bool cm):=by rw [rd1_of R5.box,hb5,← s5];rfl
   cases hc:cm with
   | true =>
     rw [hc] at cm5
     have hq:Q (.tup []) g5:=by
      rw [hQ]
      refine ⟨rfl,?_⟩
      rw [exB]
      have:(restI cm bb).exec st4=(some b5,st5):=by unfold restI;rw [hc,Pr.exec_sym,← hf,← hst5,hb5];rfl
      rw [this]
      exact ⟨fun h=>by rw [hb5,fw h];exact wb h,⟨by rw [hb5];exact s1,by rw [hb5];exact s2,by rw [hb5];exact s3,by rw [hb5];exact s4⟩,⟨R5.co.more (by omega) hm,R5.box,R4.kp.trans R5.kp⟩⟩
     simp [e0,e2,a5',cm5]
     exact hq
   | false =>
     rw [hc] at cm5
     obtain ⟨_,g6,a6,rfl,R6⟩:=(flag31_ok R5.co (t:=t) (o:=22) (k:=21) (x:=0) (b:=bb.ob) R5.box pt nt (by rw [hb5];rfl) (by omega) (by decide) (by decide) rfl).elim
     have a6':KW 51 [.ptr q 0,.int .i64 21,.int .i64 0,.ptr t 22] g5=some (.ret (.tup []),g6):=a6
     have ow:st.sd.writes=true→decide (st5.symV 21 0 (flg bb.ob)=1)=bb.ob:=fun h=>by rw [St.symV_w (by rw [w5];exact h)];cases bb.ob <;> rfl
     have hq:Q (.tup []) g6:=by
      rw [hQ]
      refine ⟨rfl,?_⟩
      rw [exB]
      have:(restI cm bb).exec st4=(some { b5 with ob:=decide (st5.symV 21 0 (flg bb.ob)=1) },st5.sym 21 0 (flg bb.ob)):=by unfold restI;rw [hc,Pr.exec_sym,← hf,← hst5,hb5];rfl
      rw [this]
      exact ⟨fun h=>by rw [hb5,fw h,ow h];exact wb h,⟨by rw [hb5];exact s1,by rw [hb5];exact s2,by rw [hb5];exact s3,by rw [hb5];exact s4⟩,⟨R6.co.more (by omega) hm,by rw [R6.box];rfl,(R4.kp.trans R5.kp).trans R6.kp⟩⟩
     simp [e0,e2,a5',cm5,a6']
     exact hq
  ·have er:=symbol60_err co4.k (by decide) (.int .i64 20) (.int .i64 0) (.int .i64 0) (.ptr t 21)
   have cm4:g4.rd1 t 13=some (.bool cm):=by rw [rd1_of rb4,← rc4];rfl
   cases hc:cm with
   | true =>
     rw [hc] at cm4
     have hq:Q (.tup []) g4:=by
      rw [hQ];refine ⟨rfl,?_⟩;rw [exB];exact ⟨wb,co4.more (by omega) hm,⟨rr,rb4⟩,kp4⟩
     simp [e0,e2,er,cm4]
     exact hq
   | false =>
     rw [hc] at cm4
     obtain ⟨_,g6,a6,rfl,x6⟩:=(flag31_err co4 (by decide) (t:=t) (o:=22) (b:=rr.ob) rb4 rfl (.int .i64 21) (.int .i64 0)).elim
     have hq:Q (.tup []) g6:=by
      rw [hQ];refine ⟨rfl,?_⟩;rw [exB]
      exact ⟨wb,(co4.ext x6).more (by omega) hm,⟨rr,(x6.get t (H.get_lt rb4)).trans rb4⟩,kp4.trans (Kp.of x6 fun i hi=>co4.lt i hi.1)⟩
     simp [e0,e2,er,cm4,a6]
     exact hq
 ·intro e g4 hq
  simp
  exact hq
open Go.Zf (wi64)
theorem there24_ok {D:Nat→Prop} {h:H} {c m:Nat} {st:St} (C:CoderAt D h c m st) (hm:m < 100000000) {Dg:Nat→Prop} {g:Nat} {G:Gr} (ga:GridAt Dg h g G) (dis:∀ b,Dg b→¬ D b) :
  RT (fun w h'=>w=.int .i64 0∧CoderAt (grow D h h') h' c m st∧Mod D h h') (KW 40 [.ptr c 0,.ptr g 0] h):=by
 obtain ⟨_,h1,a1,rfl,C1,M1⟩:=(bits29_ok C (n:=0) (v:=0) (by decide) (by omega) (fun _=>by decide)).elim
 rw [Int.toNat_zero,St.num_zero] at C1
 have a1':KW 84 [.ptr c 0,.int .i64 0,.int .i64 0] h=some (.ret (.tup [.int .i64 (st.numV 0 0:Nat),.int .i64 0]),h1):=a1
 have M1n:=M1.n
 have ga1:GridAt Dg h1 g G:=ga.keep M1.n fun b hb=>M1.get b (ga.hD b hb) (dis b hb)
 obtain ⟨_,h2,a2,rfl,x2⟩:=(skip25_ok ga1 (x:=0) (y:=0) ⟨by decide,by decide,by decide,by decide,by decide,by decide⟩).elim
 rw [if_pos (show inT 0 0 by decide)] at a2
 rw [w40,f40,s40]
 simp [a1',a2]
 refine ⟨rfl,(C1.keep x2.n fun b _ hb=>x2.get b hb).mono fun b hb hd=>?_,⟨by have:=x2.n;omega,fun b hb hd=>by rw [x2.get b (by omega),M1.get b hb hd]⟩⟩
 rcases hd with hd | hd
 ·exact .inl hd
 ·exact .inr ⟨hd.1,hb⟩
abbrev K10:List Nat:=[0,1,2,3,4,7,10,11,12,13,14,15,16,17]
structure E10 (c g q t t0:Nat) (key ll:Bool) (sc ic:Nat) (e:E):Prop where
 e0:e.s K10 0=.ptr c 0
 e1:e.s K10 1=.ptr g 0
 e3:e.s K10 3=.bool key
 e4:e.s K10 4=.bool ll
 e7:e.s K10 7=.ptr t 0
 e10:e.s K10 10=.ptr t0 0
 e13:e.s K10 13=.int .i64 (sc:Nat)
 e15:e.s K10 15=.int .i64 (ic:Nat)
 e17:e.s K10 17=.ptr q 0
@[simp] theorem bl_np (c:Nat):bl [.nilp,.int .i64 0] [(some (0,1),.ptr c 0)]=some (.agg [.ptr c 0,.int .i64 0]):=id rfl
def CEnd (D:Nat→Prop) (h:H) (c m:Nat) (R:Option Bk × St) (w:V) (h':H):Prop :=
 CoderAt (grow D h h') h' c m R.2∧Mod D h h'∧w=(match R.1 with | some r=>.tup [r.v,.int .i64 0] | none=>.tup [bkZ.v,.int .i64 4])
def inB (wr:Bool) (b:Bk):Bk:=if wr then b else shapeB b
theorem inB_sh (wr:Bool) (b:Bk):shapeB (inB wr b)=shapeB b:=by cases wr <;> rfl
theorem small_of {key ll:Bool} {b:Bk} (mb:MayB key ll b):SmallB b∧SmallE b:=by
 obtain ⟨sh,nk,si,hi⟩:=mb
 cases it:b.inter with
 | true =>
  rw [it,if_pos rfl] at hi
  obtain ⟨⟨_,z2,z3,z4,z5,z6,z7⟩,r,mm,v0,fl,sec⟩:=hi
  unfold vecB at v0
  refine ⟨⟨by omega,by omega,by omega,by omega,by omega,by omega⟩,⟨⟨by omega,?_⟩,by omega,by omega,⟨by omega,by omega⟩,?_⟩⟩
  ·unfold secondB at sec
   cases hc:b.comp with
   | true=>rw [hc,if_pos rfl] at sec;omega
   | false=>rw [hc,if_neg (by decide)] at sec;omega
  ·unfold secondB at sec
   cases hc:b.comp with
   | true=>rw [hc,if_pos rfl] at sec;have:=sec.2.1;unfold vecB at this;exact ⟨by omega,by omega⟩
   | false=>rw [hc,if_neg (by decide)] at sec;rw [sec.2];exact ⟨by decide,by decide⟩
 | false =>
  rw [it,if_neg (by decide)] at hi
  obtain ⟨⟨_,z2,z3,z4,z5,z6,z7,z8,z9⟩,hy,hu,dy,du,hc⟩:=hi
  unfold deltaB at dy du
  refine ⟨⟨by omega,by omega,by omega,by omega,?_,?_⟩,⟨⟨by omega,by omega⟩,by omega,by omega,by rw [z6];exact ⟨by decide,by decide⟩,by rw [z7];exact ⟨by decide,by decide⟩⟩⟩
  ·unfold cflB at hc;split at hc <;> omega
  ·unfold cflB at hc;split at hc <;> omega
theorem small_z (b:Bk):SmallB (shapeB b)∧SmallE (shapeB b):=by
 have z:(-1000:Int)≤0∧(0:Int)≤1000:=by decide
 have y:(-5000:Int)≤0∧(0:Int)≤5000:=by decide
 exact ⟨⟨z,z,z,z,z,z⟩,⟨⟨z,z⟩,z,z,⟨y,y⟩,⟨y,y⟩⟩⟩
structure St10 (P:Nat→Prop) (hk:H) (c q t m:Nat) (st:St) (b:Bk) (h:H):Prop where
 R:Res P hk c q t 42 m st b.cs h
theorem code10_ok {D:Nat→Prop} {h:H} {c m:Nat} {st:St} (C:CoderAt D h c m st) (hD:∀ b,D b→b < h.n) {Dg:Nat→Prop} {g:Nat} {G:Gr} (ga:GridAt Dg h g G) (dis:∀ b,Dg b→¬ D b) {b:Bk} (ig:InG G b) (hm:m+72 < 100000000) {key ll:Bool}
  (hw:st.sd.writes=true→MayB key ll b∧AgreeB (vsOf G b) b) :
  RT (fun w h'=>CEnd D h c (m+72) ((blockP st.sd.writes key ll (cntP Bk.skip G b.x b.y) (cntP Bk.inter G b.x b.y) (vsOf G b) (inB st.sd.writes b)).exec st) w h') (KW 13 [.ptr c 0,.ptr g 0,b.v,.bool key,.bool ll] h):=by
 obtain ⟨h1,hh1⟩:∃ z,z=h.new (.cells b.cs 42 false):=⟨_,rfl⟩
 obtain ⟨h2,hh2⟩:∃ z,z=h1.new (.cells bkZ.cs 42 false):=⟨_,rfl⟩
 have n1:h1.n=h.n+1:=by rw [hh1,H.n_new]
 have n2:h2.n=h1.n+1:=by rw [hh2,H.n_new]
 have x2:Ext h h2:=by rw [hh2,hh1];exact ((Ext.refl h).new _).new _
 have t2:h2.get h.n=some (.cells b.cs 42 false):=by rw [hh2,get_new_lt (by omega),hh1,get_new_same]
 have z2:h2.get h1.n=some (.cells bkZ.cs 42 false):=by rw [hh2,get_new_same]
 have nDt:¬ D h.n∧¬ D h1.n:=⟨fun hd=>by have:=hD _ hd;omega,fun hd=>by have:=hD _ hd;omega⟩
 have C2:CoderAt D h2 c m st:=C.keep x2.n fun b _ hb=>x2.get b hb
 obtain ⟨_,h3,a3,rfl,C3,M3⟩:=(there24_ok C2 (by omega) (ga.ext x2) dis).elim
 have M3n:=M3.n
 have t3:h3.get h.n=_:=(M3.get _ (by omega) nDt.1).trans t2
 have z3:h3.get h1.n=_:=(M3.get _ (by omega) nDt.2).trans z2
 have ga3:GridAt Dg h3 g G:=(ga.ext x2).keep M3.n fun b hb=>M3.get b ((ga.ext x2).hD b hb) (dis b hb)
 have rd3:∀ o,h3.rd1 h.n o=b.cs[o]?:=fun o=>rd1_of t3
 obtain ⟨_,h4,a4,rfl,x4⟩:=(skip25_ok ga3 ig.pl).elim
 rw [if_pos ig.i1] at a4
 have t4:h4.get h.n=_:=(x4.get _ (H.get_lt t3)).trans t3
 have rd4:∀ o,h4.rd1 h.n o=b.cs[o]?:=fun o=>rd1_of t4
 obtain ⟨_,h5,a5,rfl,x5⟩:=(inter26_ok (ga3.ext x4) ig.pl).elim
 rw [if_pos ig.i1] at a5
 have t5:h5.get h.n=_:=(x5.get _ (H.get_lt t4)).trans t4
 have rb5:h5.rdN h.n 0 23=some b.cs:=by rw [rdN_of t5 (by simp)];rfl
 obtain ⟨_,h6,a6,rfl,x6⟩:=(shaped27_ok b h5).elim
 have x36:=(x4.trans x5).trans x6
 have C6:CoderAt (grow D h2 h3) h6 c m st:=C3.keep x36.n fun b _ hb=>x36.get b hb
 have wr6:=writes26_ok C6
 have t6:h6.get h.n=_:=(x6.get _ (H.get_lt t5)).trans t5
 have z6:h6.get h1.n=_:=(x36.get _ (H.get_lt z3)).trans z3
 have rb6:h6.rdN h.n 0 23=some b.cs:=by rw [rdN_of t6 (by simp)];rfl
 have x36n:=x36.n
 obtain ⟨sc,hsc⟩:∃ z,z=cntP Bk.skip G b.x b.y:=⟨_,rfl⟩
 obtain ⟨ic,hic⟩:∃ z,z=cntP Bk.inter G b.x b.y:=⟨_,rfl⟩
 have sc3:sc < 3:=by rw [hsc];exact cntP_le _ _ _ _
 have ic3:ic < 3:=by rw [hic];exact cntP_le _ _ _ _
 rw [← hsc] at a4
 rw [← hic] at a5
 rw [← hsc,← hic]
 obtain ⟨RR,hRR⟩:∃ z,z=(blockP st.sd.writes key ll sc ic (vsOf G b) (inB st.sd.writes b)).exec st:=⟨_,rfl⟩
 rw [← hRR]
 obtain ⟨Q,hQ⟩:∃ Q:V→H→Prop,Q=fun w h'=>CEnd D h c (m+72) RR w h':=⟨_,rfl⟩
 rw [← hQ]
 have ga6:=ga3.ext x36
 obtain ⟨b0,hb0⟩:∃ z,z=inB st.sd.writes b:=⟨_,rfl⟩
 have sh0:shapeB b0=shapeB b:=by rw [hb0];exact inB_sh _ _
 rw [w13,f13,s13]
 simp [bx,nw,← hh1,← hh2,a3,rd3,a4,rd4,a5]
 refine sq_in (C:=fun o=>RT Q (fin Tryz.prog _ _ o)) (fun e g'=>((e.s K10 0=.ptr c 0∧e.s K10 1=.ptr g 0∧e.s K10 3=.bool key∧e.s K10 4=.bool ll∧e.s K10 7=.ptr h.n 0)∧e.s K10 10=.ptr h1.n 0∧e.s K10 13=.int .i64 (sc:Nat)∧e.s K10 15=.int .i64 (ic:Nat)) ∧
  CoderAt (grow D h2 h3) g' c m st∧h6.n≤g'.n∧g'.get h.n=some (.cells b0.cs 42 false)∧∀ x,x < h6.n→x ≠ h.n→g'.get x=h6.get x) ?_ ?_
 ·cases hww:st.sd.writes with
  | false =>
   have e0:b0=shapeB b:=by rw [hb0,hww];rfl
   obtain ⟨_,h7,a7,rfl,x7⟩:=(shape29_ok b h6).elim
   have t7:h7.get h.n=_:=(x7.get _ (H.get_lt t6)).trans t6
   have w7:h7.wrN h.n 0 (shapeB b).cs=some (h7.put h.n (.cells (shapeB b).cs 42 false)):=by
     rw [wrN_of t7 (by simp)]
     have:splice b.cs 0 (shapeB b).cs=(shapeB b).cs:=by simp [splice]
     rw [this]
   rw [hww] at wr6
   have C8:CoderAt (grow D h2 h3) (h7.put h.n (.cells b0.cs 42 false)) c m st:=(C6.keep x7.n fun b _ hb=>x7.get b hb).keep (by rw [H.n_put];exact Nat.le_refl _) fun b hb hb2=>get_put_ne (by
     rintro rfl
     rcases hb with hb | hb
     ·exact nDt.1 hb
     ·omega)
   simp [rb5,a6,ig.sh,wr6,rb6,a7,w7,NmP]
   rw [← e0]
   exact ⟨C8,by rw [H.n_put];exact x7.n,get_put_same (H.get_lt t7),fun x hx hxt=>by rw [get_put_ne hxt,x7.get x hx]⟩
  | true =>
   have e0:b0=b:=by rw [hb0,hww];rfl
   obtain ⟨mb,ag⟩:=hw hww
   obtain ⟨_,h7,a7,rfl,x7⟩:=(check11_ok b key ll h6).elim
   rw [if_pos mb] at a7
   have t7:h7.get h.n=_:=(x7.get _ (H.get_lt t6)).trans t6
   have rb7:h7.rdN h.n 0 23=some b.cs:=by rw [rdN_of t7 (by simp)];rfl
   obtain ⟨_,h8,a8,rfl,x8⟩:=(agrees30_ok (ga6.ext x7) ig (fun hi=>by have:=mb.2.2.2;rw [hi] at this;exact this)).elim
   have x68:=x7.trans x8
   rw [hww] at wr6
   simp only [ag,decide_true] at a8
   simp [rb5,a6,ig.sh,wr6,rb6,a7,rb7,a8,NmP]
   rw [e0]
   exact ⟨C6.keep x68.n fun b _ hb=>x68.get b hb,x68.n,(x8.get _ (H.get_lt t7)).trans t7,fun x hx _=>x68.get x hx⟩
 rintro e g' ⟨⟨⟨e0,e1,e3,e4,e7⟩,e10,e13,e15⟩,Cg,gn,tg,keep⟩
 obtain ⟨hk,hhk⟩:∃ z,z=g'.new (.cells [.ptr c 0,.int .i64 0] 113 false):=⟨_,rfl⟩
 have nk:hk.n=g'.n+1:=by rw [hhk,H.n_new]
 have xk:Ext g' hk:=by rw [hhk];exact (Ext.refl g').new _
 have kk:hk.get g'.n=some (.cells [.ptr c 0,.int .i64 0] 113 false):=by rw [hhk,get_new_same]
 obtain ⟨P,hP⟩:∃ P:Nat→Prop,P=fun x=>x < hk.n∧¬ grow D h2 h3 x:=⟨_,rfl⟩
 obtain ⟨q,hqn⟩:∃ q,q=g'.n:=⟨_,rfl⟩
 obtain ⟨t,htn⟩:∃ t,t=h.n:=⟨_,rfl⟩
 rw [← hqn] at nk kk
 rw [← htn] at e7 tg keep
 have nG:∀ x,(x=q∨x=t∨x=h1.n)→¬ grow D h2 h3 x:=by
  rintro x hx (hd | hd)
  ·have:=hD x hd;omega
  ·omega
 have Pq:P q:=by rw [hP];exact ⟨by omega,nG q (.inl rfl)⟩
 have Pt:P t:=by rw [hP];exact ⟨by omega,nG t (.inr (.inl rfl))⟩
 have P0:P h1.n:=by rw [hP];exact ⟨by omega,nG _ (.inr (.inr rfl))⟩
 have ntq:t ≠ q:=by omega
 have Ck:Co P hk c q m st 0:=⟨⟨grow D h2 h3,Cg.keep xk.n fun b _ hb=>xk.get b hb,fun b hb=>⟨by
   rcases hb with hb | hb
   · have:=hD b hb;omega
   · omega,by rw [hP];exact fun hp=>hp.2 hb⟩⟩,kk,Pq,fun b hb=>by rw [hP] at hb;exact hb.1⟩
 have tk:hk.get t=some (.cells b0.cs 42 false):=(xk.get t (H.get_lt tg)).trans tg
 have zk:hk.get h1.n=some (.cells bkZ.cs 42 false):=by rw [xk.get _ (by omega),keep _ (by omega) (by omega)];exact z6
 have dP:∀ x,Dg x→P x∧x ≠ q∧x ≠ t:=fun x hx=>by
  have:=ga.hD x hx
  have ng:¬ grow D h2 h3 x:=by
   rintro (hd | hd)
   · exact dis x hx hd
   · omega
  exact ⟨by rw [hP];exact ⟨by omega,ng⟩,by omega,by omega⟩
 have gak:GridAt Dg hk g G:=ga6.keep (by omega) fun x hx=>by
  have:=ga.hD x hx
  rw [xk.get x (by omega),keep x (by omega) (by omega)]
 have ig0:InG G b0:=ig.sh' sh0
 have small:SmallB b0∧SmallE b0:=by
  rw [hb0]
  cases hww:st.sd.writes with
  | false=>exact small_z b
  | true=>exact small_of (hw hww).1
 have hw0:st.sd.writes=true→MayB key ll b0∧AgreeB (vsOf G b0) b0:=fun h=>by
  have:b0=b:=by rw [hb0,h];rfl
  rw [this];exact hw h
 -- what a run's end says
 have done:∀ {hE hF:H} {r:Option Bk} {stF:St} {eE:Int} {w:V},RR=(r,stF)→Co P hE c q (m+72) stF eE→Kp (fun b=>P b∧b ≠ q∧b ≠ t) hk hE→(hF.n=hE.n∧∀ x,x ≠ h1.n→hF.get x=hE.get x)→w=(match r with | some r=>.tup [r.v,.int .i64 0] | none=>.tup [bkZ.v,.int .i64 4])→Q w hF:=by
  intro hE hF r stF eE w hr co kp hf hww
  rw [hQ]
  have kpn:=kp.n
  obtain ⟨⟨D',C',hD'⟩,k,pq,lt⟩:=co
  refine ⟨?_,⟨by omega,fun x hx hdx=>?_⟩,by rw [hr];exact hww⟩
  ·rw [hr]
   refine (C'.keep (by omega) fun x hx _=>hf.2 x (by rintro rfl;exact (hD' _ hx).2 P0)).mono fun x hx hdx=>?_
   have h1:=hD' x hdx
   rw [hP] at h1
   by_cases hxk:x < hk.n
   · have:grow D h2 h3 x:=Classical.byContradiction fun hc=>h1.2 ⟨hxk,hc⟩
     rcases this with hd | hd
     ·exact .inl hd
     ·exact .inr ⟨by omega,hx⟩
   · exact .inr ⟨by omega,hx⟩
  ·have hPx:P x:=by
     rw [hP]
     refine ⟨by omega,?_⟩
     rintro (hd | hd)
     ·exact hdx hd
     ·omega
   rw [hf.2 x (by omega),kp.get x ⟨hPx,by omega,by omega⟩,xk.get x (by omega),keep x (by omega) (by omega),x36.get x (by omega),M3.get x (by omega) hdx,x2.get x hx]
 -- the flags
 obtain ⟨_,k1,b1,rfl,R1⟩:=(flag31_ok Ck (t:=t) (o:=4) (k:=2) (x:=sc) (b:=b0.skip) tk Pt ntq rfl (by omega) (by decide) sc3 rfl).elim
 have skw:st.sd.writes=true→decide (st.symV 2 sc (flg b0.skip)=1)=b0.skip:=fun h=>by rw [St.symV_w h];cases b0.skip <;> rfl
 have exB:RR=((if key then Pr.done b0.inter else flagP 3 ic b0.inter).bind fun it=>(if it then Pr.done { b0 with skip:=decide (st.symV 2 sc (flg b0.skip)=1),inter:=it } else intraP { b0 with skip:=decide (st.symV 2 sc (flg b0.skip)=1),inter:=it }).bind fun b1 =>
   (sizeP st.sd.writes ll b1).bind fun tx=>if it then interP (vsOf G b) { b1 with tx:=tx } else Pr.done { b1 with tx:=tx }).exec (st.sym 2 sc (flg b0.skip)):=by
  rw [hRR,← hb0];rfl
 obtain ⟨sk,hsk⟩:∃ z,z=decide (st.symV 2 sc (flg b0.skip)=1):=⟨_,rfl⟩
 obtain ⟨st1,hst1⟩:∃ z,z=st.sym 2 sc (flg b0.skip):=⟨_,rfl⟩
 rw [← hsk,← hst1] at R1 exB
 rw [← hsk] at skw
 have w1:st1.sd.writes=st.sd.writes:=by rw [hst1];exact St.sym_wr _ _ _ _
 obtain ⟨bb1,hbb1⟩:∃ z:Bk,z={ b0 with skip:=sk }:=⟨_,rfl⟩
 have R1:Res P hk c q t 42 (m+1) st1 bb1.cs k1:=by rw [hbb1];exact R1
 have b1':KW 51 [.ptr q 0,.int .i64 2,.int .i64 (sc:Nat),.ptr t 4] hk=some (.ret (.tup []),k1):=b1
 simp [e0,bx,← hhk,← hqn,e7,e13,b1']
 obtain ⟨Pos1,hPos1⟩:∃ Pos:H→Prop,∀ k2,Pos k2 ↔ (∃ it st2,(if key then Pr.done b0.inter else flagP 3 ic b0.inter).exec st1=(some it,st2)∧(st.sd.writes=true→it=b0.inter)∧(key=true→it=false)∧Res P hk c q t 42 (m+2) st2 ({ bb1 with inter:=it }:Bk).cs k2):=⟨_,fun _=>Iff.rfl⟩
 refine sq_in (C:=fun o=>RT Q (fin Tryz.prog _ _ o)) (fun e k2=>E10 c g q t h1.n key ll sc ic e∧Pos1 k2) ?_ ?_
 ·cases hkey:key with
  | true =>
   have i0:b0.inter=false:=by
     cases hww:st.sd.writes with
     | false=>rw [hb0,hww];rfl
     | true =>
      cases hi:b0.inter with
      | false=>rfl
      | true=>exact ((hw0 hww).1.2.1 ⟨hi,hkey⟩).elim
   have pos:=(hPos1 k1).2 ⟨b0.inter,st1,by rw [hkey];rfl,fun _=>rfl,fun _=>i0,by
     have:({ bb1 with inter:=b0.inter }:Bk)=bb1:=by rw [hbb1]
     rw [this];exact R1.more (by omega) (by omega)⟩
   rw [hkey] at e3
   simp [e3,NmP]
   exact ⟨⟨by simp [e0],by simp [e1],by simp [e3],by simp [e4],by simp [e7],by simp [e10],by simp [e13],by simp [e15],by simp⟩,pos⟩
  | false =>
   obtain ⟨_,k2,b2,rfl,R2⟩:=(flag31_ok R1.co (t:=t) (o:=5) (k:=3) (x:=ic) (b:=b0.inter) R1.box Pt ntq (by rw [hbb1];rfl) (by omega) (by decide) ic3 rfl).elim
   have b2':KW 51 [.ptr q 0,.int .i64 3,.int .i64 (ic:Nat),.ptr t 5] k1=some (.ret (.tup []),k2):=b2
   have pos:=(hPos1 k2).2 ⟨_,_,by rw [hkey];rfl,fun h=>by rw [St.symV_w (by rw [w1];exact h)];cases b0.inter <;> rfl,(fun h=>by rw [hkey] at h;cases h),R1.trans R2⟩
   rw [hkey] at e3
   simp [e3,e7,e15,b2',NmP]
   exact ⟨⟨by simp [e0],by simp [e1],by simp [e3],by simp [e4],by simp [e7],by simp [e10],by simp [e13],by simp [e15],by simp⟩,pos⟩
 rintro e k2 ⟨E,pos⟩
 obtain ⟨it,st2,exI,wi,ki,R2⟩:=(hPos1 k2).1 pos
 obtain ⟨bb2,hbb2⟩:∃ z:Bk,z={ bb1 with inter:=it }:=⟨_,rfl⟩
 rw [← hbb2] at R2
 rw [Pr.exec_some exI] at exB
 have w2:st2.sd.writes=st.sd.writes:=(exec_wr' exI).trans w1
 have hbb2':bb2={ b0 with skip:=sk,inter:=it }:=by rw [hbb2,hbb1]
 rw [← hbb2'] at exB
 have sh2:shapeB bb2=shapeB b:=by rw [hbb2'];exact sh0
 have bbw:st.sd.writes=true→bb2=b0:=fun h=>by rw [hbb2',skw h,wi h]
 have i5:k2.rd1 t 5=some (.bool it):=by rw [rd1_of R2.box,hbb2];rfl
 have sm2:SmallB bb2∧SmallE bb2:=by rw [hbb2'];exact ⟨small.1,⟨small.2.r,small.2.mm,small.2.fl,small.2.m0,small.2.m1⟩⟩
 have i2:bb2.inter=it:=by rw [hbb2]
 -- intra
 obtain ⟨Pos2,hPos2⟩:∃ Pos:H→Prop,∀ k3,Pos k3 ↔ (∃ bb3 st3,(if it then Pr.done bb2 else intraP bb2).exec st2=(some bb3,st3)∧(st.sd.writes=true→bb3=b0)∧(shapeB bb3=shapeB b∧bb3.skip=bb2.skip∧bb3.inter=it∧bb3.tx=bb2.tx)∧(it=true→bb3=bb2)∧Res P hk c q t 42 (m+9) st3 bb3.cs k3):=⟨_,fun _=>Iff.rfl⟩
 refine sq_in (C:=fun o=>RT Q (fin Tryz.prog _ _ o)) (fun e k3=>E10 c g q t h1.n key ll sc ic e∧Pos2 k3) ?_ ?_
 ·cases hit:it with
  | true =>
   have pos:=(hPos2 k2).2 ⟨bb2,st2,by rw [hit];rfl,bbw,⟨sh2,rfl,i2,rfl⟩,fun _=>rfl,R2.more (by omega) (by omega)⟩
   rw [hit] at i5
   simp [E.e7,i5,NmP]
   exact ⟨⟨by simp [E.e0],by simp [E.e1],by simp [E.e3],by simp [E.e4],by simp [E.e7],by simp [E.e10],by simp [E.e13],by simp [E.e15],by simp [E.e17]⟩,pos⟩
  | false =>
   obtain ⟨_,k3,b3,rfl,r,st3,x1,x2,x3,R3⟩:=(intra32_ok R2.co R2.box Pt ntq (by omega) (ig.sh' sh2).sh sm2.1 (fun h=>by
     rw [w2] at h
     rw [bbw h]
     have:=(hw0 h).1.2.2.2
     rw [← wi h,hit,if_neg (by decide)] at this
     exact this)).elim
   have pos:=(hPos2 k3).2 ⟨r,st3,by rw [hit];exact x1,fun h=>(x2 (by rw [w2];exact h)).trans (bbw h),⟨x3.1.trans sh2,x3.2.1,by rw [x3.2.2.1,i2],x3.2.2.2⟩,(fun h=>by rw [hit] at h;cases h),R2.trans R3⟩
   rw [hit] at i5
   simp [E.e7,i5,E.e17,b3,NmP]
   exact ⟨⟨by simp [E.e0],by simp [E.e1],by simp [E.e3],by simp [E.e4],by simp [E.e7],by simp [E.e10],by simp [E.e13],by simp [E.e15],by simp [E.e17]⟩,pos⟩
 rintro e k3 ⟨E,pos⟩
 obtain ⟨bb3,st3,exJ,wb3,⟨sh3,s31,s32,s33⟩,ib3,R3⟩:=(hPos2 k3).1 pos
 rw [Pr.exec_some exJ] at exB
 have w3:st3.sd.writes=st.sd.writes:=(exec_wr' exJ).trans w2
 -- the size
 obtain ⟨_,k4,b4,rfl,tx,st4,x1,x2,R4⟩:=(size33_ok R3.co R3.box Pt ntq (by omega) (ig.sh' sh3).sh ll (fun h=>by
  rw [w3] at h
  rw [wb3 h];exact (hw0 h).1.2.2.1)).elim
 rw [w3] at x1 x2
 rw [Pr.exec_some x1] at exB
 have R4:=R3.trans R4
 obtain ⟨bb4,hbb4⟩:∃ z:Bk,z={ bb3 with tx:=tx }:=⟨_,rfl⟩
 rw [← hbb4] at R4 exB
 have w4:st4.sd.writes=st.sd.writes:=(exec_wr' x1).trans w3
 have bw4:st.sd.writes=true→bb4=b0:=fun h=>by rw [hbb4,x2 h,wb3 h]
 have sh4:shapeB bb4=shapeB b:=by rw [hbb4];exact sh3
 have i45:k4.rd1 t 5=some (.bool it):=by rw [rd1_of R4.box,hbb4];show some (V.bool bb3.inter)=_;rw [s32]
 simp [E.e17,E.e7,E.e4,b4]
 -- inter
 obtain ⟨Pos3,hPos3⟩:∃ Pos:H→Prop,∀ k5,Pos k5 ↔ (∃ r st5 eE,RR=(r,st5)∧Co P k5 c q (m+72) st5 eE∧Kp (fun b=>P b∧b ≠ q∧b ≠ t) hk k5∧(match r with | some r=>eE=0∧k5.get t=some (.cells r.cs 42 false) | none=>eE=4)):=⟨_,fun _=>Iff.rfl⟩
 refine sq_in (C:=fun o=>RT Q (fin Tryz.prog _ _ o)) (fun e k5=>E10 c g q t h1.n key ll sc ic e∧Pos3 k5) ?_ ?_
 ·cases hit:it with
  | false =>
   rw [hit] at i45 exB
   have pos:=(hPos3 k4).2 ⟨some bb4,st4,0,exB,R4.co.more (by omega) (by omega),R4.kp,rfl,R4.box⟩
   simp [E.e7,i45,NmP]
   exact ⟨⟨by simp [E.e0],by simp [E.e1],by simp [E.e3],by simp [E.e4],by simp [E.e7],by simp [E.e10],by simp [E.e13],by simp [E.e15],by simp [E.e17]⟩,pos⟩
  | true =>
   have e43:bb4={ bb2 with tx:=tx }:=by rw [hbb4,ib3 hit]
   obtain ⟨_,k5,b5,rfl,V5⟩:=(inter34_ok R4.co (gak.keep R4.kp.n fun x hx=>R4.kp.get x (dP x hx)) dP R4.box Pt ntq (ig.sh' sh4) (by omega) (by rw [e43];exact ⟨sm2.2.r,sm2.2.mm,sm2.2.fl,sm2.2.m0,sm2.2.m1⟩) (fun h=>by
     rw [w4] at h
     rw [bw4 h]
     have:=(hw0 h).1.2.2.2
     rw [← wi h,hit,if_pos rfl] at this
     exact ⟨this,(hw0 h).2⟩)).elim
   rw [vsOf_sh G sh4] at V5
   rw [hit] at i45 exB
   have exB:RR=(interP (vsOf G b) bb4).exec st4:=exB
   generalize hV:(interP (vsOf G b) bb4).exec st4=RV at V5 exB
   obtain ⟨r,st5⟩:=RV
   have pos:∃ r st5 eE,RR=(r,st5)∧Co P k5 c q (m+72) st5 eE∧Kp (fun b=>P b∧b ≠ q∧b ≠ t) hk k5∧(match r with | some r=>eE=0∧k5.get t=some (.cells r.cs 42 false) | none=>eE=4):=by
     cases r with
     | some r=>exact ⟨some r,st5,0,exB,V5.2.2.co.more (by omega) (by omega),R4.kp.trans V5.2.2.kp,rfl,V5.2.2.box⟩
     | none=>exact ⟨none,st5,4,exB,V5.2.1.more (by omega) (by omega),R4.kp.trans V5.2.2.2,rfl⟩
   have pos':=(hPos3 k5).2 pos
   simp [E.e7,i45,E.e17,E.e1,b5,NmP]
   exact ⟨⟨by simp [E.e0],by simp [E.e1],by simp [E.e3],by simp [E.e4],by simp [E.e7],by simp [E.e10],by simp [E.e13],by simp [E.e15],by simp [E.e17]⟩,pos'⟩
 rintro e k5 ⟨E,pos⟩
 obtain ⟨r,st5,eE,hr,co5,kp5,hr2⟩:=(hPos3 k5).1 pos
 have q1:=rd1_of (o:=1) co5.k
 have z5:k5.get h1.n=some (.cells bkZ.cs 42 false):=by rw [kp5.get h1.n ⟨P0,by omega,by omega⟩,zk]
 have zl:=H.get_lt z5
 have rdp:∀ bq:Bk,(k5.put h1.n (.cells bq.cs 42 false)).rdN h1.n 0 23=some bq.cs:=fun bq=>by rw [rdN_of (get_put_same zl) (by simp)];rfl
 cases r with
 | some r =>
  obtain ⟨rfl,bx5⟩:=hr2
  have rt:k5.rdN t 0 23=some r.cs:=by rw [rdN_of bx5 (by simp)];rfl
  have w5:k5.wrN h1.n 0 r.cs=some (k5.put h1.n (.cells r.cs 42 false)):=by
   rw [wrN_of z5 (by simp)]
   have:splice bkZ.cs 0 r.cs=r.cs:=by simp [splice]
   rw [this]
  have hq:=done (w:=.tup [r.v,.int .i64 0]) (hF:=k5.put h1.n (.cells r.cs 42 false)) hr co5 kp5 ⟨by rw [H.n_put],fun x hx=>get_put_ne hx⟩ rfl
  simp [E.e17,q1,E.e7,rt,E.e10,w5,rdp]
  exact hq
 | none =>
  have hr2:eE=4:=hr2
  subst hr2
  have w5:k5.wrN h1.n 0 bkZ.cs=some (k5.put h1.n (.cells bkZ.cs 42 false)):=by
   rw [wrN_of z5 (by simp)];rfl
  have hq:=done (w:=.tup [bkZ.v,.int .i64 4]) (hF:=k5.put h1.n (.cells bkZ.cs 42 false)) hr co5 kp5 ⟨by rw [H.n_put],fun x hx=>get_put_ne hx⟩ rfl
  have q1':(k5.put h1.n (.cells bkZ.cs 42 false)).rd1 q 1=some (.int .i64 4):=by
   have:=q1
   unfold H.rd1 at this ⊢
   rw [get_put_ne (by omega)];exact this
  simp [E.e17,q1,E.e10,w5,q1',rdp]
  exact hq
open Go.Zf (wi64)
theorem span22_ok (h:H):KW 39 [.int .i64 0,.int .i64 64] h=some (.ret (.bool true),h):=by
 rw [w39,f39,s39]
 simp [show IntKind.i64.wrap 64=64 by decide,show (0:Int).tmod 64=0 by decide,show (64:Int).tmod 8=0 by decide]
@[simp] theorem bl_tile:bl [.int .i64 0,.int .i64 0,.int .i64 0,.int .i64 0] [(some (2,1),.int .i64 64),(some (3,1),.int .i64 64)]=some (.agg [.int .i64 0,.int .i64 0,.int .i64 64,.int .i64 64]):=id rfl
theorem bl_grid (m:Nat):bl [.bool false,.int .i64 0,.int .i64 0,.int .i64 0,.int .i64 0,.nils,.nilm] [(some (0,1),.bool true),(some (1,4),.agg [.int .i64 0,.int .i64 0,.int .i64 64,.int .i64 64]),(some (6,1),.map m)] =
  some (.agg [.bool true,.int .i64 0,.int .i64 0,.int .i64 64,.int .i64 64,.nils,.map m]):=id rfl
def gr0:Gr:=⟨[],[]⟩
theorem new8_ok (h:H):RT (fun w h'=>∃ g,w=.tup [.ptr g 0,.int .i64 0]∧GridAt (fun b=>h.n≤b∧b < h'.n) h' g gr0∧Ext h h') (KW 10 [.agg [.int .i64 0,.int .i64 0,.int .i64 64,.int .i64 64]] h):=by
 obtain ⟨h1,hh1⟩:∃ z,z=h.new (.cells [.int .i64 0,.int .i64 0,.int .i64 64,.int .i64 64] 36 false):=⟨_,rfl⟩
 have n1:h1.n=h.n+1:=by rw [hh1,H.n_new]
 have x1:Ext h h1:=by rw [hh1];exact (Ext.refl h).new _
 have g1:h1.get h.n=some (.cells [.int .i64 0,.int .i64 0,.int .i64 64,.int .i64 64] 36 false):=by rw [hh1,get_new_same]
 have r0:=rd1_of (o:=0) g1
 have r1:=rd1_of (o:=1) g1
 have r2:=rd1_of (o:=2) g1
 have r3:=rd1_of (o:=3) g1
 have rn:h1.rdN h.n 0 4=some [.int .i64 0,.int .i64 0,.int .i64 64,.int .i64 64]:=by rw [rdN_of g1 (by simp)];rfl
 obtain ⟨h2,hh2⟩:∃ z,z=h1.new (.map []):=⟨_,rfl⟩
 have n2:h2.n=h1.n+1:=by rw [hh2,H.n_new]
 obtain ⟨h3,hh3⟩:∃ z,z=h2.new (.cells [.bool true,.int .i64 0,.int .i64 0,.int .i64 64,.int .i64 64,.nils,.map h1.n] 83 false):=⟨_,rfl⟩
 have n3:h3.n=h2.n+1:=by rw [hh3,H.n_new]
 have x3:Ext h h3:=by rw [hh3,hh2];exact (x1.new _).new _
 rw [w10,f10,s10]
 simp [bx,← hh1,r0,r1,r2,r3,span22_ok,rn,mkM,← hh2,bl_grid,← hh3]
 exact ⟨h2.n,rfl,⟨⟨.nils,h1.n,by rw [hh3,get_new_same],by rw [hh3,get_new_lt (by omega),hh2,get_new_same];rfl,GrowV.nil _ _ _ _,⟨by omega,by omega⟩,⟨by omega,by omega⟩,by omega,fun c o n k e=>by cases e⟩,⟨by simp [gr0],by simp [gr0],by simp [gr0]⟩,fun b hb=>hb.2⟩,x3⟩
def usA:Bk:={ bkZ with w:=8,h:=8,ym:=1,yd := -1,um:=13,cu:=3,tx:=8 }
def usB:Bk:={ bkZ with x:=8,w:=16,h:=8,skip:=true,inter:=true,r0:=2,mm:=3,m0:=(5,0),tx:=8 }
theorem bl_usA:bl bkZ.cs [(some (2,1),.int .i64 8),(some (3,1),.int .i64 8),(some (6,1),.int .i64 1),(some (7,1),.int .i64 (-1)),(some (8,1),.int .i64 13),(some (10,1),.int .i64 3),(some (12,1),.int .i64 8)]=some (.agg usA.cs):=id rfl
theorem bl_usB:bl bkZ.cs [(some (0,1),.int .i64 8),(some (2,1),.int .i64 16),(some (3,1),.int .i64 8),(some (4,1),.bool true),(some (5,1),.bool true),(some (14,2),.agg [.int .i64 2,.int .i64 0]),(some (16,1),.int .i64 3),(some (17,4),.agg [.int .i64 5,.int .i64 0,.int .i64 0,.int .i64 0]),(some (12,1),.int .i64 8)]=some (.agg usB.cs):=id rfl
theorem bl_v5:bl [.int .i64 0,.int .i64 0] [(some (0,1),.int .i64 5)]=some (.agg [.int .i64 5,.int .i64 0]):=id rfl
theorem bl_v4:bl [.int .i64 0,.int .i64 0,.int .i64 0,.int .i64 0] [(some (0,2),.agg [.int .i64 5,.int .i64 0])]=some (.agg [.int .i64 5,.int .i64 0,.int .i64 0,.int .i64 0]):=id rfl
theorem usual13_ok (h:H):RT (fun w h'=>w=.tup [usA.v,usB.v]∧Ext h h') (KW 31 [] h):=by
 obtain ⟨h1,hh1⟩:∃ z,z=h.new (.cells bkZ.cs 42 false):=⟨_,rfl⟩
 have n1:h1.n=h.n+1:=by rw [hh1,H.n_new]
 obtain ⟨h2,hh2⟩:∃ z,z=h1.new (.cells bkZ.cs 42 false):=⟨_,rfl⟩
 have n2:h2.n=h1.n+1:=by rw [hh2,H.n_new]
 have x2:Ext h h2:=by rw [hh2,hh1];exact ((Ext.refl h).new _).new _
 have g0:h2.get h.n=some (.cells bkZ.cs 42 false):=by rw [hh2,get_new_lt (by omega),hh1,get_new_same]
 have w0:h2.wrN h.n 0 usA.cs=some (h2.put h.n (.cells usA.cs 42 false)):=by rw [wrN_of g0 (by simp)];rfl
 obtain ⟨h3,hh3⟩:∃ z,z=h2.put h.n (.cells usA.cs 42 false):=⟨_,rfl⟩
 have x3:Ext h h3:=by rw [hh3];exact x2.put (Nat.le_refl _) _
 have g1:h3.get h1.n=some (.cells bkZ.cs 42 false):=by rw [hh3,get_put_ne (by omega),hh2,get_new_same]
 have w1:h3.wrN h1.n 0 usB.cs=some (h3.put h1.n (.cells usB.cs 42 false)):=by rw [wrN_of g1 (by simp)];rfl
 obtain ⟨h4,hh4⟩:∃ z,z=h3.put h1.n (.cells usB.cs 42 false):=⟨_,rfl⟩
 have x4:Ext h h4:=by rw [hh4];exact x3.put (by omega) _
 have r0:h4.rdN h.n 0 23=some usA.cs:=by rw [rdN_of (by rw [hh4,get_put_ne (by omega),hh3,get_put_same (H.get_lt g0)]) (by simp)];rfl
 have r1:h4.rdN h1.n 0 23=some usB.cs:=by rw [rdN_of (by rw [hh4,get_put_same (H.get_lt g1)]) (by simp)];rfl
 rw [w31,f31,s31]
 simp [nw,← hh1,← hh2,bl_usA,bl_v5,bl_v4,bl_usB,w0,← hh3,w1,← hh4,r0,r1]
 exact ⟨rfl,x4⟩
def usOps (b:Bk):List Op:=(blockP true false false 0 0 (vsOf gr0 b) b).ech.2
theorem cost_A:costL (usOps usA)=8:=by kernel_rfl
theorem cost_B:costL (usOps usB)=11:=by kernel_rfl
theorem may_A:MayB false false usA:=by decide +kernel
theorem may_B:MayB false false usB:=by decide +kernel
theorem cnt_0 (is:Bk→Bool) (x y:Int):cntP is gr0 x y=0:=by
 have h:∀ x y,gr0.at x y=none:=fun x y=>by unfold Gr.at;split <;> rfl
 unfold cntP;rw [h,h];rfl
theorem us_ech {b:Bk} (mb:MayB false false b) (ag:AgreeB (vsOf gr0 b) b):(blockP true false false 0 0 (vsOf gr0 b) b).ech=(some b,usOps b)∧Pr.Rd (blockP false false false 0 0 (vsOf gr0 b) (shapeB b)) (some b) (usOps b):=by
 obtain ⟨l,h1,h2⟩:=block_w (sc:=0) (ic:=0) (by decide) (by decide) (vsOf_ok (G:=gr0) ⟨by simp [gr0],by simp [gr0],by simp [gr0]⟩ b) mb ag
 have:l=usOps b:=by unfold usOps;rw [h1]
 rw [← this]
 exact ⟨h1,h2⟩
open Go.Zf (wi64)
open Pr (Rd)
theorem s0_fine:SOk s0:=⟨⟨by simp,by simp,by simp [at_,bev],by simp⟩,by simp,by simp,by simp⟩
abbrev blkP (wr key ll:Bool) (G:Gr) (b:Bk):Pr Bk:=blockP wr key ll (cntP Bk.skip G b.x b.y) (cntP Bk.inter G b.x b.y) (vsOf G b) (inB wr b)
theorem blk_ops {key ll:Bool} {G:Gr} (ok:GrOk G) {b:Bk} (mb:MayB key ll b) (ag:AgreeB (vsOf G b) b):∃ l,(blkP true key ll G b).ech=(some b,l)∧Rd (blkP false key ll G b) (some b) l :=
 block_w (cntP_le _ _ _ _) (cntP_le _ _ _ _) (vsOf_ok ok b) mb ag
theorem code_w {D:Nat→Prop} {h:H} {c m:Nat} {st:St} (C:CoderAt D h c m st) (hD:∀ b,D b→b < h.n) {s:Sr} (hsd:st.sd=wS s) (ok:SOk s) {Dg:Nat→Prop} {g:Nat} {G:Gr} (ga:GridAt Dg h g G) (dis:∀ b,Dg b→¬ D b) {b:Bk} (ig:InG G b) (hm:m+72 < 100000000) {key ll:Bool}
  (mb:MayB key ll b) (ag:AgreeB (vsOf G b) b) {l:List Op} (he:(blkP true key ll G b).ech=(some b,l)) (ho:∀ o ∈ l,o.ok) :
  RT (fun w h'=>w=.tup [b.v,.int .i64 0]∧CoderAt (grow D h h') h' c (m+72) (st.run l)∧Mod D h h') (KW 13 [.ptr c 0,.ptr g 0,b.v,.bool key,.bool ll] h):=by
 have hw:st.sd.writes=true:=by rw [hsd];rfl
 have ex:=Pr.exec_w (blkP true key ll G b) hsd ok C.ok.1 (by rw [he];exact ho)
 rw [he] at ex
 have:=code10_ok C hD ga dis ig hm (key:=key) (ll:=ll) (fun _=>⟨mb,ag⟩)
 rw [hw] at this
 refine this.mono fun w h' ce=>?_
 unfold CEnd at ce
 rw [ex] at ce
 exact ⟨ce.2.2,ce.1,ce.2.1⟩
theorem code_m {D:Nat→Prop} {h:H} {c m:Nat} {st:St} {s s' T:Sr} (hT:SOk T) (hsd:st.sd=wS s) (ok:SOk s) (so:SetOk st.S) (C:CoderAt D h c m (mateS (bytes T.1 T.2.1) s st)) (hD:∀ b,D b→b < h.n) {Dg:Nat→Prop} {g:Nat} {G:Gr} (ga:GridAt Dg h g G) (dis:∀ b,Dg b→¬ D b) {b:Bk} (ig:InG G b) (hm:m+72 < 100000000) {key ll:Bool}
  {r:Bk} (hr:shapeB b=shapeB r) {l:List Op} (he:Rd (blkP false key ll G r) (some r) l) (h1:(st.run l).sd=wS s') (h2:WithinS s' T) :
  RT (fun w h'=>w=.tup [r.v,.int .i64 0]∧CoderAt (grow D h h') h' c (m+72) (mateS (bytes T.1 T.2.1) s' (st.run l))∧Mod D h h') (KW 13 [.ptr c 0,.ptr g 0,b.v,.bool key,.bool ll] h):=by
 obtain ⟨s2,k1,k2⟩:=Pr.exec_m hT he hsd ok so ⟨s',h1,h2⟩
 have hs2:s2=s':=by
  have:=k1.symm.trans h1
  injection this with a b c
  exact Prod.ext a (Prod.ext b c)
 subst hs2
 have this:=code10_ok C hD ga dis ig hm (key:=key) (ll:=ll) (fun hw=>by cases hw)
 have ex:(blkP false key ll G b)=blkP false key ll G r:=by
  unfold blkP inB
  have e1:b.x=r.x:=(congrArg Bk.x hr:(shapeB b).x=(shapeB r).x)
  have e2:b.y=r.y:=(congrArg Bk.y hr:(shapeB b).y=(shapeB r).y)
  rw [e1,e2,vsOf_sh G hr]
  simp only [Bool.false_eq_true,if_false,hr]
 rw [← ex] at k2
 refine this.mono fun w h' ce=>?_
 have ce:CEnd D h c (m+72) ((blkP false key ll G b).exec (mateS (bytes T.1 T.2.1) s st)) w h':=ce
 unfold CEnd at ce
 rw [k2] at ce
 exact ⟨ce.2.2,ce.1,ce.2.1⟩
theorem bytes_b {m:Nat} {T:Sr} (so:SideOk m (wS T)):(bytes T.1 T.2.1).length < 140737488355329:=bytes_bound so
theorem CoderAt.cut {D:Nat→Prop} {h:H} {p m:Nat} {st:St} (a:CoderAt D h p m st):CoderAt (fun b=>D b∧b < h.n) h p m st:=a.mono fun b hb hd=>⟨hd,hb⟩
theorem awake4_ok (h:H):RT (fun w h'=>w=.bool true∧Ext h h') (KW 7 [] h):=by
 obtain ⟨_,h1,a1,v1,rfl,W1,x1⟩:=(default27_ok h).elim
 obtain ⟨_,h2,a2,p,rfl,C2,x2⟩:=(writer12_ok W1.setR defS_ok true).elim
 have C2:=C2.cut
 obtain ⟨_,h3,a3,g,rfl,G3,x3⟩:=(new8_ok h2).elim
 obtain ⟨_,h4,a4,rfl,x4⟩:=(usual13_ok h3).elim
 obtain ⟨y1,hy1⟩:∃ z,z=h4.new (.cells bkZ.cs 42 false):=⟨_,rfl⟩
 have ny1:y1.n=h4.n+1:=by rw [hy1,H.n_new]
 obtain ⟨y2,hy2⟩:∃ z,z=y1.new (.cells bkZ.cs 42 false):=⟨_,rfl⟩
 have ny2:y2.n=h4.n+2:=by rw [hy2,H.n_new,ny1]
 have ga2:y2.get h4.n=some (.cells bkZ.cs 42 false):=by rw [hy2,get_new_lt (by omega),hy1,get_new_same]
 have gb2:y2.get y1.n=some (.cells bkZ.cs 42 false):=by rw [hy2,get_new_same]
 obtain ⟨y3,hy3⟩:∃ z,z=y2.put h4.n (.cells usA.cs 42 false):=⟨_,rfl⟩
 have s45:y2.wrN h4.n 0 usA.cs=some y3:=by rw [wrN_of ga2 (by simp),hy3];rfl
 have gb3:y3.get y1.n=some (.cells bkZ.cs 42 false):=by rw [hy3,get_put_ne (by omega),gb2]
 obtain ⟨h5,hh5⟩:∃ z,z=y3.put y1.n (.cells usB.cs 42 false):=⟨_,rfl⟩
 have s46:y3.wrN y1.n 0 usB.cs=some h5:=by rw [wrN_of gb3 (by simp),hh5];rfl
 have n5:h5.n=h4.n+2:=by rw [hh5,H.n_put,hy3,H.n_put,ny2]
 have x5:Ext h4 h5:=by rw [hh5,hy3,hy2,hy1];exact (((((Ext.refl h4).new _).new _).put (Nat.le_refl _) _).put (by rw [H.n_new];omega) _)
 have m1:=x1.n
 have m2:=x2.n
 have m3:=x3.n
 have m4:=x4.n
 have gA5:h5.get h4.n=some (.cells usA.cs 42 false):=by rw [hh5,get_put_ne (by omega),hy3,get_put_same (H.get_lt ga2)]
 have gB5:h5.get (h4.n+1)=some (.cells usB.cs 42 false):=by rw [hh5,← ny1,get_put_same (H.get_lt gb3)]
 have x35:=x4.trans x5
 have x25:=x3.trans x35
 have G5:=G3.ext x35
 have C5:=C2.keep (h':=h5) x25.n fun b _ hb=>x25.get b hb
 -- the first block
 have igA:InG gr0 usA:=⟨by decide +kernel,by decide +kernel⟩
 have igB:InG gr0 usB:=⟨by decide +kernel,by decide +kernel⟩
 have agA:AgreeB (vsOf gr0 usA) usA:=fun h=>by cases h
 have agB:AgreeB (vsOf gr0 usB) usB:=fun _ h=>(h rfl).elim
 have cn:∀ wr b,blkP wr false false gr0 b=blockP wr false false 0 0 (vsOf gr0 b) (inB wr b):=fun wr b=>by unfold blkP;rw [cnt_0,cnt_0]
 obtain ⟨eA,rA⟩:=us_ech may_A agA
 obtain ⟨eB,rB⟩:=us_ech may_B agB
 have eA:(blkP true false false gr0 usA).ech=(some usA,usOps usA):=by rw [cn];exact eA
 have eB:(blkP true false false gr0 usB).ech=(some usB,usOps usB):=by rw [cn];exact eB
 have rA:Rd (blkP false false false gr0 usA) (some usA) (usOps usA):=by rw [cn];exact rA
 have rB:Rd (blkP false false false gr0 usB) (some usB) (usOps usB):=by rw [cn];exact rB
 obtain ⟨_,h6,a6,rfl,C6,M6⟩:=(code_w C5 (fun b hb=>by omega) (s:=s0) rfl s0_fine G5 (fun b hb hd=>by omega) igA (by decide) may_A agA eA rA.ok).elim
 obtain ⟨s1,hs1,ok1,wi1⟩:=run_within (usOps usA) (st:=newW defS true) (s:=s0) rfl s0_fine C5.ok.1 rA.ok
 have M6n:=M6.n
 have gA6:h6.get h4.n=_:=(M6.get _ (by omega) (fun hd=>by omega)).trans gA5
 have gB6:h6.get (h4.n+1)=_:=(M6.get _ (by omega) (fun hd=>by omega)).trans gB5
 have G6:=G5.keep M6.n fun b hb=>M6.get b (by omega) (fun hd=>by omega)
 obtain ⟨st1,hst1⟩:∃ z,z=(newW defS true).run (usOps usA):=⟨_,rfl⟩
 have cA:st1.n=8:=by rw [hst1,run_n,cost_A];rfl
 rw [← hst1] at C6 hs1
 obtain ⟨h7,hh7⟩:∃ z,z=h6.new (.cells usA.cs 42 false):=⟨_,rfl⟩
 have n7:h7.n=h6.n+1:=by rw [hh7,H.n_new]
 have x7:Ext h6 h7:=by rw [hh7];exact (Ext.refl h6).new _
 have gX7:h7.get h6.n=some (.cells usA.cs 42 false):=by rw [hh7,get_new_same]
 have C7:=C6.keep x7.n fun b _ hb=>x7.get b hb
 have hc7:=count32_ok C7
 rw [cA] at hc7
 have hD7:∀ b,grow (fun b=>h1.n≤b∧b < h2.n) h5 h6 b→b < h7.n:=by rintro b (hb | hb) <;> omega
 -- the second
 obtain ⟨_,h8,a8,rfl,C8,M8⟩:=(code_w C7 hD7 hs1 ok1 (G6.ext x7) (fun b hb hd=>by rcases hd with hd | hd <;> omega) igB (by decide) may_B agB eB rB.ok).elim
 obtain ⟨s2,hs2,ok2,wi2⟩:=run_within (usOps usB) hs1 ok1 C7.ok.1 rB.ok
 have M8n:=M8.n
 have nD7:∀ b,h2.n≤b→b < h5.n→¬ grow (fun b=>h1.n≤b∧b < h2.n) h5 h6 b:=by rintro b h1 h2 (hb | hb) <;> omega
 have gA8:h8.get h4.n=_:=(M8.get _ (by omega) (nD7 _ (by omega) (by omega))).trans ((x7.get _ (by omega)).trans gA6)
 have gB8:h8.get (h4.n+1)=_:=(M8.get _ (by omega) (nD7 _ (by omega) (by omega))).trans ((x7.get _ (by omega)).trans gB6)
 have gX8:h8.get h6.n=_:=(M8.get _ (by omega) (by rintro (hb | hb) <;> omega)).trans gX7
 have G8:=(G6.ext x7).keep M8.n fun b hb=>M8.get b (by omega) (nD7 b (by omega) (by omega))
 obtain ⟨st2,hst2⟩:∃ z,z=st1.run (usOps usB):=⟨_,rfl⟩
 have cB:st2.n=19:=by rw [hst2,run_n,cost_B,cA];rfl
 rw [← hst2] at C8 hs2
 obtain ⟨h9,hh9⟩:∃ z,z=h8.new (.cells usB.cs 42 false):=⟨_,rfl⟩
 have n9:h9.n=h8.n+1:=by rw [hh9,H.n_new]
 have x9:Ext h8 h9:=by rw [hh9];exact (Ext.refl h8).new _
 have gY9:h9.get h8.n=some (.cells usB.cs 42 false):=by rw [hh9,get_new_same]
 have C9:=C8.keep x9.n fun b _ hb=>x9.get b hb
 obtain ⟨_,h10,a10,bv,rfl,W10,x10⟩:=(bytes19_ok C9 hs2).elim
 have hbl:=bytes_b (T:=s2) (by have:=C9.ok.2.1;rw [hs2] at this;exact this)
 obtain ⟨_,h11,a11,v11,rfl,W11,x11⟩:=(default27_ok h10).elim
 obtain ⟨_,h12,a12,r,rfl,C12,x12⟩:=(reader25_ok (W10.slb.keep x11.get) hbl W10.byte W11.setR defS_ok true).elim
 have C12:=C12.cut
 have wiT:WithinS s0 s2:=Within.trans wi1 wi2
 rw [newR_mate ok2 wiT] at C12
 have m10:=x10.n
 have m11:=x11.n
 have m12:=x12.n
 have x812:=((x9.trans x10).trans x11).trans x12
 have G12:=G8.ext x812
 have C12w:=C9.keep ((x10.trans x11).trans x12).n fun b _ hb=>((x10.trans x11).trans x12).get b hb
 have hc12:=count32_ok C12w
 rw [cB] at hc12
 have gA12:h12.get h4.n=_:=(x812.get _ (by omega)).trans gA8
 have gB12:h12.get (h4.n+1)=_:=(x812.get _ (by omega)).trans gB8
 have gX12:h12.get h6.n=_:=(x812.get _ (by omega)).trans gX8
 have gY12:h12.get h8.n=_:=(((x10.trans x11).trans x12).get _ (by omega)).trans gY9
 -- the reader
 obtain ⟨_,h13,a13,rfl,C13,M13⟩:=(code_m ok2 (st:=newW defS true) (s:=s0) (s':=s1) rfl s0_fine C5.ok.1 C12 (fun b hb=>hb.2) G12 (fun b hb hd=>by omega) (b:={ bkZ with w:=8,h:=8 }) (r:=usA) (by exact ⟨by decide +kernel,by decide +kernel⟩) (by decide) rfl rA (by rw [← hst1];exact hs1) wi2).elim
 rw [← hst1] at C13
 have M13n:=M13.n
 have gA13:h13.get h4.n=_:=(M13.get _ (by omega) (fun hd=>by omega)).trans gA12
 have gB13:h13.get (h4.n+1)=_:=(M13.get _ (by omega) (fun hd=>by omega)).trans gB12
 have gX13:h13.get h6.n=_:=(M13.get _ (by omega) (fun hd=>by omega)).trans gX12
 have gY13:h13.get h8.n=_:=(M13.get _ (by omega) (fun hd=>by omega)).trans gY12
 have G13:=G12.keep M13.n fun b hb=>M13.get b (by omega) (fun hd=>by omega)
 obtain ⟨h14,hh14⟩:∃ z,z=h13.put h6.n (.cells usA.cs 42 false):=⟨_,rfl⟩
 have n14:h14.n=h13.n:=by rw [hh14,H.n_put]
 have w14:h13.wrN h6.n 0 usA.cs=some h14:=by rw [wrN_of gX13 (by simp),hh14];rfl
 have G14:=G13.keep (h':=h14) (by omega) fun b hb=>by rw [hh14,get_put_ne (by omega)]
 have C14:=C13.keep (h':=h14) (by omega) fun b hb hb2=>by
  rw [hh14,get_put_ne]
  rintro rfl
  rcases hb with hb | hb <;> omega
 have hD14:∀ b,grow (fun b=>h11.n≤b∧b < h12.n) h12 h13 b→b < h14.n:=by rintro b (hb | hb) <;> omega
 obtain ⟨_,h15,a15,rfl,C15,M15⟩:=(code_m ok2 hs1 ok1 C7.ok.1 C14 hD14 G14 (fun b hb hd=>by rcases hd with hd | hd <;> omega) (b:={ bkZ with x:=8,w:=16,h:=8 }) (r:=usB) (by exact ⟨by decide +kernel,by decide +kernel⟩) (by decide) rfl rB (by rw [← hst2];exact hs2) (Within.refl _ _ _)).elim
 have M15n:=M15.n
 have nD14:∀ b,b < h11.n→¬ grow (fun b=>h11.n≤b∧b < h12.n) h12 h13 b:=by rintro b h1 (hb | hb) <;> omega
 have gA15:h15.get h4.n=some (.cells usA.cs 42 false):=by rw [M15.get _ (by omega) (nD14 _ (by omega)),hh14,get_put_ne (by omega),gA13]
 have gB15:h15.get (h4.n+1)=some (.cells usB.cs 42 false):=by rw [M15.get _ (by omega) (nD14 _ (by omega)),hh14,get_put_ne (by omega),gB13]
 have gX15:h15.get h6.n=some (.cells usA.cs 42 false):=by rw [M15.get _ (by omega) (nD14 _ (by omega)),hh14,get_put_same (by omega)]
 have gY15:h15.get h8.n=some (.cells usB.cs 42 false):=by rw [M15.get _ (by omega) (nD14 _ (by omega)),hh14,get_put_ne (by omega),gY13]
 obtain ⟨h16,hh16⟩:∃ z,z=h15.put h8.n (.cells usB.cs 42 false):=⟨_,rfl⟩
 have w16:h15.wrN h8.n 0 usB.cs=some h16:=by rw [wrN_of gY15 (by simp),hh16];rfl
 have rd:∀ {gg:H} {i:Nat} {b:Bk},gg.get i=some (.cells b.cs 42 false)→gg.rdN i 0 23=some b.cs:=fun {gg i b} hg=>by rw [rdN_of hg (by simp)];rfl
 have gA16:h16.get h4.n=_:=(by rw [hh16,get_put_ne (by omega)]:h16.get h4.n=h15.get h4.n).trans gA15
 have gB16:h16.get (h4.n+1)=_:=(by rw [hh16,get_put_ne (by omega)]:h16.get (h4.n+1)=h15.get (h4.n+1)).trans gB15
 have gX16:h16.get h6.n=_:=(by rw [hh16,get_put_ne (by omega)]:h16.get h6.n=h15.get h6.n).trans gX15
 have gY16:h16.get h8.n=some (.cells usB.cs 42 false):=by rw [hh16,get_put_same (by omega)]
 have bA:bl bkZ.cs [(some (2,1),.int .i64 8),(some (3,1),.int .i64 8)]=some (.agg ({ bkZ with w:=8,h:=8 }:Bk).cs):=id rfl
 have bB:bl bkZ.cs [(some (0,1),.int .i64 8),(some (2,1),.int .i64 16),(some (3,1),.int .i64 8)]=some (.agg ({ bkZ with x:=8,w:=16,h:=8 }:Bk).cs):=id rfl
 have xF:Ext h h16:=by
  refine ⟨by rw [hh16,H.n_put];omega,fun i hi=>?_⟩
  rw [hh16,get_put_ne (by omega),M15.get i (by omega) (nD14 i (by omega)),hh14,get_put_ne (by omega),M13.get i (by omega) (fun hd=>by omega),x812.get i (by omega),M8.get i (by omega) (by rintro (hb | hb) <;> omega),x7.get i (by omega),M6.get i (by omega) (fun hd=>by omega),x25.get i (by omega),x2.get i (by omega),x1.get i hi]
 rw [← ny1] at gB5 gB6 gB8 gB12 gB13 gB15 gB16
 rw [w7,f7,s7]
 have rA5:=rd gA5
 have rB7:h7.rdN y1.n 0 23=some usB.cs:=rd ((x7.get _ (by omega)).trans gB6)
 have rA12:=rd gA12
 have rB12:=rd gB12
 have rX12:=rd gX12
 have rY12:=rd gY12
 have rA16:=rd gA16
 have rB16:=rd gB16
 have rX16:=rd gX16
 have rY16:=rd gY16
 have z7:(h6.new (.cells bkZ.cs 42 false)).wrN h6.n 0 usA.cs=some h7:=by rw [hh7];exact wrN_new _ _ _ _ (by simp)
 have z9:(h8.new (.cells bkZ.cs 42 false)).wrN h8.n 0 usB.cs=some h9:=by rw [hh9];exact wrN_new _ _ _ _ (by simp)
 simp [a1,a2,a3,a4,nw,← hy1,← hy2,s45,s46,rA5,a6,z7,hc7,rB7,a8,z9,a10,a11,a12,rA12,rB12,rX12,rY12,hc12,bA,a13,w14,bB,a15,w16,rA16,rB16,rX16,rY16]
 exact ⟨rfl,xF⟩
end Go.Proofs.YtbkmdnmncaakdaaGreat
