import Derived.Test.YtbkmdnmncaakdaaPaMn
set_option linter.unusedVariables false
set_option linter.unusedSimpArgs false
set_option maxRecDepth 20000
namespace Go.Proofs.Ytbkmdnmncaakdaa
open Go Go.Zf
open Go.Zf (wi64)
theorem mag_ends (s i:Nat) (v:Int) (st:St):∃ r st',(magP s i v).exec st=(some r,st'):=by
 unfold magP
 split
 ·exact ⟨_,_,rfl⟩
 ·exact ⟨_,_,rfl⟩
theorem rest_ends (j:Nat) (v:Int × Int) (st:St):∃ r st',(restP j 0 v).exec st=(some r,st'):=by
 obtain ⟨r,s1,h1⟩:=mag_ends ((j+1) / 3) 0 v.1 st
 obtain ⟨r2,s2,h2⟩:=mag_ends ((j+1) % 3) 1 v.2 s1
 exact ⟨(r,r2),s2,by unfold restP;rw [if_pos rfl,Pr.exec_some h1,Pr.exec_some h2];rfl⟩
theorem colour65_ok {P:Nat→Prop} {h:H} {c q m:Nat} {st:St} (a:Co P h c q m st 0) {t:Nat} {b:Bk} (ht:h.get t=some (.cells b.cs 45 false)) (pt:P t) (nt:t ≠ q) (hm:m+3 < 100000000) (hb1 : -1000≤b.cu∧b.cu≤1000) (hb2 : -1000≤b.cv∧b.cv≤1000)
  (hw:st.sd.writes=true→¬ (b.cu=0∧b.cv=0)∧(-16≤b.cu∧b.cu≤16)∧(-16≤b.cv∧b.cv≤16)) :
  RT (fun w h'=>w=.tup []∧Ends (colourP (b.cu,b.cv)) st (b.cu,b.cv) fun r st'=>Res P h c q t 45 (m+3) st' ({ b with cu:=r.1,cv:=r.2 }:Bk).cs h') (KW 65 [.ptr q 0,.ptr t 0] h):=by
 have su:=sgn_b b.cu
 have sv:=sgn_b b.cv
 have rd:∀ o,h.rd1 t o=b.cs[o]?:=fun o=>rd1_of ht
 have z1:IntKind.i64.wrap (3*(sgn b.cu:Int))=3*(sgn b.cu:Int):=wi64 (by omega) (by omega)
 have z2:IntKind.i64.wrap (3*(sgn b.cu:Int)+(sgn b.cv:Int))=3*(sgn b.cu:Int)+(sgn b.cv:Int):=wi64 (by omega) (by omega)
 obtain ⟨h1,hh1⟩:∃ z,z=h.new (.cells [.int .i64 (3*(sgn b.cu:Int)+(sgn b.cv:Int))] 3 false):=⟨_,rfl⟩
 have x1:Ext h h1:=by rw [hh1];exact (Ext.refl h).new _
 have n1:h1.n=h.n+1:=by rw [hh1,H.n_new]
 have g1:h1.get h.n=some (.cells [.int .i64 (3*(sgn b.cu:Int)+(sgn b.cv:Int))] 3 false):=by rw [hh1,get_new_same]
 have a1:Co (fun b=>P b∨b=h.n) h1 c q m st 0:=by rw [hh1];exact a.box _
 have hqn:=a.lt q a.pq
 have htn:=a.lt t pt
 have hwj:st.sd.writes=true→0≤3*(sgn b.cu:Int)+(sgn b.cv:Int) - 1∧3*(sgn b.cu:Int)+(sgn b.cv:Int) - 1 < (vl 8:Nat):=fun h=>by have:=hw h;show _∧_ < ((8:Nat):Int);omega
 obtain ⟨_,h2,a2,rfl,R⟩:=(symbol60_ok a1 (t:=h.n) (o:=0) (k:=8) (x:=0) (v:=3*(sgn b.cu:Int)+(sgn b.cv:Int)) (f:=1) g1 (.inr rfl) (by omega) rfl (by omega) (by decide) (by decide) (by omega) (by decide) hwj).elim
 have j8:st.symV 8 0 (3*(sgn b.cu:Int)+(sgn b.cv:Int) - 1) < 8:=St.symV_lt a.ok.1 (k:=8) (by decide) (by decide) hwj
 have jw:st.sd.writes=true→((st.symV 8 0 (3*(sgn b.cu:Int)+(sgn b.cv:Int) - 1):Nat):Int)=3*(sgn b.cu:Int)+(sgn b.cv:Int) - 1:=fun h=>by rw [St.symV_w h];have:=hwj h;omega
 have ex:(colourP (b.cu,b.cv)).exec st=(restP (st.symV 8 0 (3*(sgn b.cu:Int)+(sgn b.cv:Int) - 1)) 0 (b.cu,b.cv)).exec (st.sym 8 0 (3*(sgn b.cu:Int)+(sgn b.cv:Int) - 1)):=rfl
 obtain ⟨j,hj⟩:∃ j,j=st.symV 8 0 (3*(sgn b.cu:Int)+(sgn b.cv:Int) - 1):=⟨_,rfl⟩
 rw [← hj] at R j8 jw ex
 have Rn:=R.kp.n
 have t2:h2.get t=_:=(R.kp.get t ⟨.inl pt,nt,by omega⟩).trans ((x1.get t htn).trans ht)
 obtain ⟨r,stF,hR⟩:=rest_ends j (b.cu,b.cv) (st.sym 8 0 (3*(sgn b.cu:Int)+(sgn b.cv:Int) - 1))
 have wF:stF.sd.writes=st.sd.writes:=(exec_wr' hR).trans (St.sym_wr _ _ _ _)
 have start:Res (fun b=>P b∨b=h.n) h2 c q t 45 (m+1+0) (st.sym 8 0 (3*(sgn b.cu:Int)+(sgn b.cv:Int) - 1)) ({ b with cu:=b.cu,cv:=b.cv }:Bk).cs h2:=⟨R.co,t2,Kp.refl _ _⟩
 have jb:h2.get h.n=some (.cells [.int .i64 ((j:Int)+1)] 3 false):=R.box
 have a2':KW 60 [.ptr q 0,.int .i64 8,.int .i64 0,.int .i64 1,.ptr h.n 0] h1=some (.ret (.tup []),h2):=a2
 rw [w65,f65,s65]
 simp [rd,sgn79_ok,z1,z2,nw,← hh1,a2']
 refine loop_in (C:=fun o=>RT _ (fin Try.prog _ _ (blk 0 o))) _ _ (loop65 (P:=P) (h0:=h2) (c:=c) (q:=q) (t:=t) (J:=h.n) (M:=m+1) (b:=b) (R:=(some r,stF)) (j:=j) rfl pt a.pq nt ⟨by omega,by omega⟩ (by omega) j8 (fun h=>by
  rw [wF] at h
  have h1:=hw h
  have h2:=jw h
  exact ⟨⟨by omega,h1.2.1⟩,⟨by omega,h1.2.2⟩⟩)) 2 ⟨Nat.le_refl _,⟨(b.cu,b.cv),_,start,hR.symm,hb1,hb2,fun _=>rfl⟩,jb,by simp,by simp,by simp,by simp⟩ ?_
 rintro ⟨sx,se,sh⟩ ⟨s1,⟨⟨v,st',Re,hRv,_,_,hwv⟩,_,_,_,_,_⟩⟩
 simp only at s1 Re
 subst s1
 simp
 have e2:(restP j 2 v).exec st'=(some v,st'):=rfl
 rw [e2] at hRv
 refine ⟨rfl,v,st',by rw [ex,hR,hRv],fun h=>hwv (by rw [← wF] at h;cases hRv;exact h),⟨(Re.co.less a.pq fun b hb=>.inl hb).more (by omega) hm,Re.box,⟨by have:=Re.kp.n;have:=x1.n;omega,?_⟩⟩⟩
 rintro i ⟨hi,iq,it⟩
 have:=a.lt i hi
 rw [Re.kp.get i ⟨.inl hi,iq,it⟩,R.kp.get i ⟨.inl hi,iq,by omega⟩,x1.get i this]
def SmallB (b:Bk):Prop:=(-1000≤b.ym∧b.ym≤1000)∧(-1000≤b.yd∧b.yd≤1000)∧(-1000≤b.um∧b.um≤1000)∧(-1000≤b.ud∧b.ud≤1000)∧(-1000≤b.cu∧b.cu≤1000)∧(-1000≤b.cv∧b.cv≤1000)
theorem intra32_ok {P:Nat→Prop} {h:H} {c q m:Nat} {st:St} (a:Co P h c q m st 0) {t:Nat} {b:Bk} (ht:h.get t=some (.cells b.cs 45 false)) (pt:P t) (nt:t ≠ q) (hm:m+7 < 100000000) (sh:ShapeB b) (sm:SmallB b) (hw:st.sd.writes=true→IntraB b) :
  RT (fun w h'=>w=.tup []∧Ends (intraP b) st b fun r st'=>(shapeB r=shapeB b∧r.skip=b.skip∧r.inter=b.inter∧r.tx=b.tx)∧Res P h c q t 45 (m+7) st' r.cs h') (KW 32 [.ptr q 0,.ptr t 0] h):=by
 obtain ⟨sy,syd,su,sud,scu,scv⟩:=sm
 obtain ⟨n,n3,n6,hmn,lg⟩:=sh.min
 have rb:h.rdN t 0 23=some b.cs:=by rw [rdN_of ht (by simp)];rfl
 obtain ⟨_,h1,a1,rfl,x1⟩:=(great63_ok b h).elim
 have pn:2 ^ n ≠ 0:=by have:=Nat.two_pow_pos n;omega
 have pn2:2 ^ n≤2 ^ 6:=Nat.pow_le_pow_right (by decide) n6
 rw [hmn] at a1
 have l1:=log62_ok pn (by omega) h1
 rw [Nat.log2_two_pow] at l1
 obtain ⟨mn,hmn'⟩:∃ z,z=2 ^ n:=⟨_,rfl⟩
 rw [← hmn'] at a1 l1
 have l8:=log62_ok (x:=8) (by decide) (by decide) h1
 rw [show Nat.log2 8=3 by decide,show ((8:Nat):Int)=8 from rfl,show ((3:Nat):Int)=3 from rfl] at l8
 have z3:IntKind.i64.wrap ((n:Int) - 3)=((n - 3:Nat):Int):=by rw [wi64 (by omega) (by omega)];omega
 have t1:h1.get t=_:=(x1.get t (H.get_lt ht)).trans ht
 have iw:=hw
 have wk:st.sd.writes=true→(0≤b.ym∧b.ym≤12)∧(0≤b.um∧b.um≤13)∧deltaB b.ym b.yd∧deltaB b.um b.ud∧cflB b:=fun h=>(hw h).2
 obtain ⟨_,h2,a2,rfl,r1,st1,ex1,w1,⟨k1,k2⟩,d1,R1⟩:=(mode61_ok (a.ext x1) (o1:=6) (o2:=7) (k:=4) (x:=n - 3) (v:=b.ym) (d:=b.yd) t1 pt nt rfl rfl (by decide) (by omega) (by decide) (by show n - 3 < 4;omega) sy syd (fun h=>by
  obtain ⟨h1,_,h3,_⟩:=wk h
  unfold deltaB at h3
  exact ⟨⟨h1.1,by show _ < ((13:Nat):Int);omega⟩,fun hd=>by omega⟩)).elim
 obtain ⟨b1,hb1⟩:∃ b1:Bk,b1={ b with ym:=r1.1,yd:=r1.2 }:=⟨_,rfl⟩
 have R1:Res P h1 c q t 45 (m+2) st1 b1.cs h2:=by rw [hb1];exact R1
 have rb2:h2.rdN t 0 23=some b1.cs:=by rw [rdN_of R1.box (by simp)];rfl
 obtain ⟨_,h3,a3,rfl,x3⟩:=(col64_ok b1 h2).elim
 have t3:h3.get t=_:=(x3.get t (H.get_lt R1.box)).trans R1.box
 have wr1:=exec_wr' ex1
 have uk:uvKind b1=uvKind b:=by rw [hb1];rfl
 have ukv:uvKind b < 32∧cx (uvKind b)=1∧(vl (uvKind b):Int)=(if imax b.w b.h≤32 then 14 else 13):=by unfold uvKind;split <;> refine ⟨by decide,rfl,?_⟩ <;> rfl
 obtain ⟨_,h4,a4,rfl,r2,st2,ex2,w2,⟨k3,k4⟩,d2,R2⟩:=(mode61_ok (R1.co.ext x3) (o1:=8) (o2:=9) (k:=uvKind b) (x:=0) (v:=b.um) (d:=b.ud) t3 pt nt (by rw [hb1];rfl) (by rw [hb1];rfl) (by decide) (by omega) ukv.1 (by rw [ukv.2.1];decide) su sud (fun h=>by
  rw [wr1] at h
  obtain ⟨_,h1,_,h3,h4⟩:=wk h
  unfold deltaB at h3
  unfold cflB at h4
  refine ⟨⟨h1.1,?_⟩,fun hd=>by omega⟩
  rw [ukv.2.2]
  by_cases c13:b.um=13
  ·rw [if_pos c13] at h4;rw [if_pos h4.2.1];omega
  ·split <;> omega)).elim
 obtain ⟨b2,hb2⟩:∃ b2:Bk,b2={ b1 with um:=r2.1,ud:=r2.2 }:=⟨_,rfl⟩
 have R2:Res P h3 c q t 45 (m+2+2) st2 b2.cs h4:=by rw [hb2];exact R2
 have wr2:=(exec_wr' ex2).trans wr1
 have rd4:∀ o,h4.rd1 t o=b2.cs[o]?:=fun o=>rd1_of R2.box
 have re4:=rd1_of (o:=1) R2.co.k
 have kp4:Kp (fun i=>P i∧i ≠ q∧i ≠ t) h h4:=(((Kp.of x1 fun i hi=>a.lt i hi.1).trans R1.kp).trans (Kp.of x3 fun i hi=>R1.co.lt i hi.1)).trans R2.kp
 have exA:(intraP b).exec st=(if r2.1=13 then (colourP (b.cu,b.cv)).bind fun c=>.done { b with ym:=r1.1,yd:=r1.2,um:=r2.1,ud:=r2.2,cu:=c.1,cv:=c.2 } else .done { b with ym:=r1.1,yd:=r1.2,um:=r2.1,ud:=r2.2 }).exec st2:=by
  unfold intraP
  rw [lg,Pr.exec_some ex1,Pr.exec_some ex2]
 have a4':KW 61 [.ptr q 0,.int .i64 (if imax b.w b.h≤32 then 7 else 6),.int .i64 0,.ptr t 8,.ptr t 9] h3=some (.ret (.tup []),h4):=by
  rw [← a4];unfold uvKind;split <;> rfl
 have bwh:b1.w=b.w∧b1.h=b.h:=by rw [hb1];exact ⟨rfl,rfl⟩
 rw [bwh.1,bwh.2] at a3
 have a2':KW 61 [.ptr q 0,.int .i64 4,.int .i64 ((n - 3:Nat):Int),.ptr t 6,.ptr t 7] h1=some (.ret (.tup []),h2):=a2
 have um2:b2.um=r2.1:=by rw [hb2]
 obtain ⟨Q,hQ⟩:∃ Q:V→H→Prop,Q=fun w h'=>w=.tup []∧Ends (intraP b) st b fun r st'=>(shapeB r=shapeB b∧r.skip=b.skip∧r.inter=b.inter∧r.tx=b.tx)∧Res P h c q t 45 (m+7) st' r.cs h':=⟨_,rfl⟩
 rw [← hQ]
 have eqb:st.sd.writes=true→b.ym=r1.1∧b.yd=r1.2∧b.um=r2.1∧b.ud=r2.2:=fun h=>by
  have e1:=w1 h
  have e2:=w2 (by rw [wr1];exact h)
  rw [e1,e2];exact ⟨rfl,rfl,rfl,rfl⟩
 rw [w32,f32,s32]
 by_cases c13:r2.1=13
 ·rw [if_pos c13] at exA
  obtain ⟨_,h5,a5,rfl,r3,st3,ex3,w3,R3⟩:=(colour65_ok R2.co (b:=b2) R2.box pt nt (by omega) (by rw [hb2,hb1];exact scu) (by rw [hb2,hb1];exact scv) (fun h=>by
   rw [wr2] at h
   obtain ⟨_,h1,_,h3,h4⟩:=wk h
   have um13:b.um=13:=(eqb h).2.2.1.trans c13
   unfold cflB at h4
   rw [if_pos um13] at h4
   rw [hb2,hb1]
   exact ⟨h4.1,h4.2.2.1,h4.2.2.2⟩)).elim
  have ecu:b2.cu=b.cu∧b2.cv=b.cv:=by rw [hb2,hb1];exact ⟨rfl,rfl⟩
  rw [ecu.1,ecu.2] at ex3 w3
  have hq:Q (.tup []) h5:=by
   rw [hQ]
   refine ⟨rfl,({ b with ym:=r1.1,yd:=r1.2,um:=r2.1,ud:=r2.2,cu:=r3.1,cv:=r3.2 }:Bk),st3,by rw [exA,Pr.exec_some ex3,Pr.exec_done],fun h=>?_,⟨rfl,rfl,rfl,rfl⟩,⟨R3.co.more (by omega) hm,by rw [R3.box,hb2,hb1],kp4.trans R3.kp⟩⟩
   have e3:=w3 (by rw [wr2];exact h)
   obtain ⟨q1,q2,q3,q4⟩:=eqb h
   rw [e3,← q1,← q2,← q3,← q4]
  have um2':b2.um=13:=um2.trans c13
  by_cases cc:imax b.w b.h≤32
  ·rw [if_pos cc] at a4'
   simp [rb,a1,l1,l8,z3,a2',rb2,a3,cc,a4',rd4,um2',re4,a5]
   exact hq
  ·rw [if_neg cc] at a4'
   simp [rb,a1,l1,l8,z3,a2',rb2,a3,cc,a4',rd4,um2',re4,a5]
   exact hq
 ·rw [if_neg c13] at exA
  have um2':¬ b2.um=13:=fun h=>c13 (um2.symm.trans h)
  have hq:Q (.tup []) h4:=by
   rw [hQ]
   refine ⟨rfl,({ b with ym:=r1.1,yd:=r1.2,um:=r2.1,ud:=r2.2 }:Bk),st2,by rw [exA,Pr.exec_done],fun h=>?_,⟨rfl,rfl,rfl,rfl⟩,⟨R2.co.more (by omega) hm,by rw [R2.box,hb2,hb1],kp4⟩⟩
   obtain ⟨q1,q2,q3,q4⟩:=eqb h
   rw [← q1,← q2,← q3,← q4]
  by_cases cc:imax b.w b.h≤32
  ·rw [if_pos cc] at a4'
   simp [rb,a1,l1,l8,z3,a2',rb2,a3,cc,a4',rd4,um2']
   exact hq
  ·rw [if_neg cc] at a4'
   simp [rb,a1,l1,l8,z3,a2',rb2,a3,cc,a4',rd4,um2']
   exact hq
end Go.Proofs.Ytbkmdnmncaakdaa
