import Derived.Test.YtbkmdnmncaakdaaPaMo
set_option linter.unusedVariables false
set_option linter.unusedSimpArgs false
set_option maxRecDepth 20000
namespace Go.Proofs.Ytbkmdnmncaakdaa
open Go Go.Zf
open Go.Zf (wi64)
theorem size_depth {ll:Bool} {b:Bk} (sh:ShapeB b) (si:SizeB ll b) (nl:ll=false) (c:¬ (b.skip=true∧b.inter=true)) {n:Nat} (n3:3≤n) (n6:n≤6) (hm:imin b.w b.h=((2 ^ n:Nat):Int)) :
  ∃ d:Nat,d < (if n=3 then 2 else 3)∧b.tx=((2 ^ n / 2 ^ d:Nat):Int)∧depthP true b=(d:Nat):=by
 subst nl
 unfold SizeB at si
 simp only [Bool.false_eq_true,if_false,if_neg c] at si
 rw [hm] at si
 have hd:∃ d:Nat,d < (if n=3 then 2 else 3)∧b.tx=((2 ^ n / 2 ^ d:Nat):Int):=by
  rcases si with e | e | ⟨e0,e⟩
  ·exact ⟨0,by split <;> omega,by rw [e];simp⟩
  ·exact ⟨1,by split <;> omega,by rw [e];rfl⟩
  ·exact ⟨2,by rw [if_neg (by rintro rfl;revert e0;decide)];omega,by rw [e];rfl⟩
 obtain ⟨d,d1,d2⟩:=hd
 have hdn:d≤2:=by split at d1 <;> omega
 refine ⟨d,d1,d2,?_⟩
 unfold depthP
 rw [if_pos rfl,hm,d2]
 simp only [Int.toNat_natCast]
 rw [Nat.pow_div (by omega) (by decide),Nat.pow_div (by omega) (by decide),show n - (n - d)=d by omega,Nat.log2_two_pow]
theorem cs_tx (b:Bk) (x:Int):b.cs.set 12 (.int .i64 x)=({ b with tx:=x }:Bk).cs:=id rfl
theorem size33_ok {P:Nat→Prop} {h:H} {c q m:Nat} {st:St} (a:Co P h c q m st 0) {t:Nat} {b:Bk} (ht:h.get t=some (.cells b.cs 45 false)) (pt:P t) (nt:t ≠ q) (hm:m+1 < 100000000) (sh:ShapeB b) (ll:Bool) (hw:st.sd.writes=true→SizeB ll b) :
  RT (fun w h'=>w=.tup []∧Ends (sizeP st.sd.writes ll b) st b.tx fun r st'=>Res P h c q t 45 (m+1) st' ({ b with tx:=r }:Bk).cs h') (KW 33 [.ptr q 0,.ptr t 0,.bool ll] h):=by
 obtain ⟨n,n3,n6,hmn,lg⟩:=sh.min
 have rb:h.rdN t 0 23=some b.cs:=by rw [rdN_of ht (by simp)];rfl
 obtain ⟨_,h1,a1,rfl,x1⟩:=(great63_ok b h).elim
 have t1:h1.get t=_:=(x1.get t (H.get_lt ht)).trans ht
 have rd1:∀ o,h1.rd1 t o=b.cs[o]?:=fun o=>rd1_of t1
 have co1:=a.ext x1
 obtain ⟨F,hF⟩:∃ F:Int→List V,∀ r,F r=({ b with tx:=r }:Bk).cs:=⟨_,fun _=>rfl⟩
 have wtx:∀ r:Int,h1.wr1 t 12 (.int .i64 r)=some (h1.put t (.cells (F r) 45 false)):=fun r=>by rw [wr1_of t1 (by simp),cs_tx,hF]
 have resx:∀ r:Int,Res P h c q t 45 (m+1) st ({ b with tx:=r }:Bk).cs (h1.put t (.cells ({ b with tx:=r }:Bk).cs 45 false)):=fun r =>
  ⟨(co1.put pt nt _).more (by omega) hm,get_put_same (H.get_lt t1),⟨by rw [H.n_put];exact x1.n,fun i ⟨hi,_,it⟩=>by rw [get_put_ne it,x1.get i (a.lt i hi)]⟩⟩
 obtain ⟨Q,hQ⟩:∃ Q:V→H→Prop,Q=fun w h'=>w=.tup []∧Ends (sizeP st.sd.writes ll b) st b.tx fun r st'=>Res P h c q t 45 (m+1) st' ({ b with tx:=r }:Bk).cs h':=⟨_,rfl⟩
 rw [← hQ]
 have ixe:∀ r:Int,(sizeP st.sd.writes ll b).exec st=(some r,st)→(st.sd.writes=true→r=b.tx)→Q (.tup []) (h1.put t (.cells (F r) 45 false)):=fun r e1 e2=>by
  rw [hQ,hF];exact ⟨rfl,r,st,e1,e2,resx r⟩
 rw [w33,f33,s33]
 cases ll with
 | true =>
  have hq:=ixe 4 rfl (fun h=>by have:=hw h;unfold SizeB at this;rw [if_pos rfl] at this;exact this.symm)
  simp [rb,a1,wtx]
  exact hq
 | false =>
  by_cases c0:b.skip=true∧b.inter=true
  ·have hq:=ixe (imin b.w b.h) (by unfold sizeP;rw [if_neg (by decide),if_pos c0];rfl) (fun h=>by have:=hw h;unfold SizeB at this;simp only [Bool.false_eq_true,if_false,if_pos c0] at this;exact this.symm)
   simp [rb,a1,rd1,c0.1,c0.2,wtx]
   exact hq
  have exS:(sizeP st.sd.writes false b).exec st=(Pr.sym (if lgB b=3 then 10 else 11) (lgB b - 4) (depthP st.sd.writes b) fun d=>Pr.done (((imin b.w b.h).toNat / 2 ^ d:Nat):Int)).exec st:=by
   unfold sizeP;rw [if_neg (by decide),if_neg c0]
  rw [lg,hmn] at exS
  simp only [Int.toNat_natCast] at exS
  rw [hmn] at a1
  obtain ⟨dp,hdp⟩:∃ dp,dp=depthP st.sd.writes b:=⟨_,rfl⟩
  rw [← hdp] at exS
  have kv:(if n=3 then 10 else 11) < 32∧n - 4 < cx (if n=3 then 10 else 11)∧vl (if n=3 then 10 else 11)=(if n=3 then 2 else 3):=by
   rcases (by omega:n=3∨n=4∨n=5∨n=6) with rfl | rfl | rfl | rfl <;> decide
  have dw:st.sd.writes=true→∃ d:Nat,d < (if n=3 then 2 else 3)∧b.tx=((2 ^ n / 2 ^ d:Nat):Int)∧dp=(d:Nat):=fun h=>by
   obtain ⟨d,d1,d2,d3⟩:=size_depth sh (hw h) rfl c0 n3 n6 hmn
   exact ⟨d,d1,d2,by rw [hdp,h];exact d3⟩
  have d0:st.sd.writes=false→dp=0:=fun h=>by rw [hdp,h];rfl
  have dpb:0≤dp∧dp≤2:=by
   cases hww:st.sd.writes with
   | true=>obtain ⟨d,d1,_,d3⟩:=dw hww;split at d1 <;> omega
   | false=>have:=d0 hww;omega
  obtain ⟨h2,hh2⟩:∃ z,z=h1.new (.cells [.int .i64 dp] 3 false):=⟨_,rfl⟩
  have x2:Ext h1 h2:=by rw [hh2];exact (Ext.refl h1).new _
  have n2:h2.n=h1.n+1:=by rw [hh2,H.n_new]
  have g2:h2.get h1.n=some (.cells [.int .i64 dp] 3 false):=by rw [hh2,get_new_same]
  have co2:Co (fun b=>P b∨b=h1.n) h2 c q m st 0:=by rw [hh2];exact co1.box _
  have hqn:=co1.lt q a.pq
  have htn:=co1.lt t pt
  have wsm:st.sd.writes=true→0≤dp - 0∧dp - 0 < (vl (if n=3 then 10 else 11):Nat):=fun h=>by
   obtain ⟨d,d1,_,d3⟩:=dw h
   rw [kv.2.2];omega
  obtain ⟨_,h3,a3,rfl,R⟩:=(symbol60_ok co2 (t:=h1.n) (o:=0) (k:=if n=3 then 10 else 11) (x:=n - 4) (v:=dp) (f:=0) g2 (.inr rfl) (by omega) rfl (by omega) kv.1 kv.2.1 (by omega) (by decide) wsm).elim
  rw [Int.sub_zero,Int.add_zero] at R
  have sl:=St.symV_lt a.ok.1 kv.1 kv.2.1 (v:=dp) (fun h=>by have:=wsm h;omega)
  rw [kv.2.2] at sl
  have sw:st.sd.writes=true→((st.symV (if n=3 then 10 else 11) (n - 4) dp:Nat):Int)=dp:=fun h=>by rw [St.symV_w h];omega
  rw [Pr.exec_sym,Pr.exec_done] at exS
  obtain ⟨s,hs⟩:∃ s,s=st.symV (if n=3 then 10 else 11) (n - 4) dp:=⟨_,rfl⟩
  rw [← hs] at R sl sw exS
  have s3:s < 3:=by split at sl <;> omega
  have t3:h3.get t=_:=(R.kp.get t ⟨.inl pt,nt,by omega⟩).trans ((x2.get t htn).trans t1)
  have r3:h3.rd1 h1.n 0=some (.int .i64 (s:Nat)):=by rw [rd1_of R.box];rfl
  obtain ⟨mn,hmn'⟩:∃ z,z=2 ^ n:=⟨_,rfl⟩
  have mnb:8≤mn∧mn≤64∧((mn:Int)=8 ↔ n=3):=by rw [hmn'];rcases (by omega:n=3∨n=4∨n=5∨n=6) with rfl | rfl | rfl | rfl <;> decide
  rw [← hmn'] at a1 exS
  have shr:(mn:Int).fdiv (2 ^ min s 64)=((mn / 2 ^ s:Nat):Int):=by
   rw [hmn']
   rcases (by omega:n=3∨n=4∨n=5∨n=6) with rfl | rfl | rfl | rfl <;> rcases (by omega:s=0∨s=1∨s=2) with rfl | rfl | rfl <;> decide
  have w4:h3.wr1 t 12 (.int .i64 ((mn / 2 ^ s:Nat):Int))=some (h3.put t (.cells (F ((mn / 2 ^ s:Nat):Int)) 45 false)):=by rw [wr1_of t3 (by simp),cs_tx,hF]
  obtain ⟨y,hy⟩:∃ y,y=mn / 2 ^ s:=⟨_,rfl⟩
  rw [← hy] at shr w4 exS
  have bshr:binK 0 .shr (.int .i64 (mn:Nat)) (.int .i64 (s:Nat))=some (.int .i64 (y:Nat)):=by
   rw [binK_shr,if_neg (by omega),Int.toNat_natCast]
   show some (V.int .i64 ((mn:Int).fdiv (2 ^ min s 64)))=_
   rw [shr]
  have hq:Q (.tup []) (h3.put t (.cells (F (y:Nat)) 45 false)):=by
   rw [hQ,hF]
   refine ⟨rfl,(y:Nat),_,exS,fun h=>?_,⟨(R.co.put (.inl pt) nt _).less a.pq fun b hb=>.inl hb,get_put_same (H.get_lt t3),⟨by rw [H.n_put];have:=x1.n;have:=x2.n;have:=R.kp.n;omega,?_⟩⟩⟩
   ·obtain ⟨d,d1,d2,d3⟩:=dw h
    have:=sw h
    have e:s=d:=by omega
    rw [d2,hy,hmn',e]
   ·rintro i ⟨hi,iq,it⟩
    rw [get_put_ne it,R.kp.get i ⟨.inl hi,iq,by have:=co1.lt i hi;omega⟩,x2.get i (co1.lt i hi),x1.get i (a.lt i hi)]
  -- the depth as it is found
  have t10:∀ X,(h1.new X).rd1 t 12=some (.int .i64 b.tx):=fun X=>by rw [rd1_of (by rw [get_new_lt htn];exact t1)];rfl
  have q10:∀ X,(h1.new X).rd1 q 0=some (.ptr c 0):=fun X=>by rw [rd1_of (by rw [get_new_lt hqn];exact co1.k)];rfl
  have q20:h2.rd1 q 0=some (.ptr c 0):=by rw [rd1_of co2.k];rfl
  have wrt:∀ X,KW 28 [.ptr c 0] (h1.new X)=some (.ret (.bool st.sd.writes),h1.new X):=fun X=>by
   obtain ⟨⟨D,C,_⟩,_⟩:=co1.box X
   exact writes26_ok C
  have l16:=log62_ok (x:=16) (by decide) (by decide) h2
  rw [show Nat.log2 16=4 by decide,show ((16:Nat):Int)=16 from rfl,show ((4:Nat):Int)=4 from rfl] at l16
  have lmn:=log62_ok (x:=mn) (by omega) (by omega) h2
  rw [hmn',Nat.log2_two_pow,← hmn'] at lmn
  have z4:n ≠ 3→IntKind.i64.wrap ((n:Int) - 4)=((n - 4:Nat):Int):=fun h=>by rw [wi64 (by omega) (by omega)];omega
  have zc:n=3→KW 60 [.ptr q 0,.int .i64 10,.int .i64 0,.int .i64 0,.ptr h1.n 0] h2=some (.ret (.tup []),h3):=fun h=>by rw [← a3,if_pos h,h];rfl
  have zd:n ≠ 3→KW 60 [.ptr q 0,.int .i64 11,.int .i64 ((n - 4:Nat):Int),.int .i64 0,.ptr h1.n 0] h2=some (.ret (.tup []),h3):=fun h=>by rw [← a3,if_neg h];rfl
  have tail:∀ e:E,e.s [0,1,2,6,7] 0=.ptr q 0→e.s [0,1,2,6,7] 1=.ptr t 0→e.s [0,1,2,6,7] 6=.int .i64 (mn:Nat)→e.s [0,1,2,6,7] 7=.ptr h1.n 0→True:=fun _ _ _ _ _=>trivial
  cases hww:st.sd.writes with
  | false =>
   have e0:=d0 hww
   rw [e0] at hh2
   have wrt2:KW 28 [.ptr c 0] h2=some (.ret (.bool false),h2):=by rw [hh2,wrt,hww]
   have w20:h2.wr1 h1.n 0 (.int .i64 0)=some h2:=by rw [hh2,wr1_new _ _ _ _ _ (by simp)];rfl
   by_cases cs:b.skip=true
   ·have ci:b.inter=false:=by cases h:b.inter with
     | false=>rfl
     | true=>exact (c0 ⟨cs,h⟩).elim
    by_cases c3:n=3
    ·simp [rb,a1,rd1,cs,ci,nw,← hh2,w20,q20,wrt2,eq_true (mnb.2.2.2 c3),zc c3,r3,-binK_shr,bshr,w4]
     exact hq
    ·have m8:¬ (mn:Int)=8:=fun h=>c3 (mnb.2.2.1 h)
     simp [rb,a1,rd1,cs,ci,nw,← hh2,w20,q20,wrt2,m8,lmn,l16,z4 c3,zd c3,r3,-binK_shr,bshr,w4]
     exact hq
   ·by_cases c3:n=3
    ·simp [rb,a1,rd1,cs,nw,← hh2,w20,q20,wrt2,eq_true (mnb.2.2.2 c3),zc c3,r3,-binK_shr,bshr,w4]
     exact hq
    ·have m8:¬ (mn:Int)=8:=fun h=>c3 (mnb.2.2.1 h)
     simp [rb,a1,rd1,cs,nw,← hh2,w20,q20,wrt2,m8,lmn,l16,z4 c3,zd c3,r3,-binK_shr,bshr,w4]
     exact hq
  | true =>
   obtain ⟨d,d1,d2,d3⟩:=dw hww
   have d2':d≤2:=by split at d1 <;> omega
   rw [← hmn'] at d2
   have wrt0:∀ X,KW 28 [.ptr c 0] (h1.new X)=some (.ret (.bool true),h1.new X):=fun X=>by rw [wrt,hww]
   have txn:¬ b.tx=0∧(mn:Int).tdiv b.tx=((2 ^ d:Nat):Int):=by
    rw [d2,hmn']
    rcases (by omega:n=3∨n=4∨n=5∨n=6) with rfl | rfl | rfl | rfl <;> rcases (by omega:d=0∨d=1∨d=2) with rfl | rfl | rfl <;> decide
   obtain ⟨pd,hpd⟩:∃ z,z=2 ^ d:=⟨_,rfl⟩
   have pdb:pd ≠ 0∧pd≤4:=by rw [hpd];rcases (by omega:d=0∨d=1∨d=2) with rfl | rfl | rfl <;> decide
   rw [← hpd] at txn
   have zpd:IntKind.i64.wrap (pd:Int)=pd:=wi64 (by omega) (by omega)
   have lpd:∀ X,KW 62 [.int .i64 (pd:Nat)] (h1.new X)=some (.ret (.int .i64 dp),h1.new X):=fun X=>by
    rw [log62_ok pdb.1 (by omega),hpd,Nat.log2_two_pow,d3]
   by_cases cs:b.skip=true
   ·have ci:b.inter=false:=by cases h:b.inter with
     | false=>rfl
     | true=>exact (c0 ⟨cs,h⟩).elim
    by_cases c3:n=3
    ·simp [rb,a1,rd1,cs,ci,nw,q10,wrt0,t10,txn.1,txn.2,zpd,lpd,← hh2,eq_true (mnb.2.2.2 c3),zc c3,r3,-binK_shr,bshr,w4]
     exact hq
    ·have m8:¬ (mn:Int)=8:=fun h=>c3 (mnb.2.2.1 h)
     simp [rb,a1,rd1,cs,ci,nw,q10,wrt0,t10,txn.1,txn.2,zpd,lpd,← hh2,m8,lmn,l16,z4 c3,zd c3,r3,-binK_shr,bshr,w4]
     exact hq
   ·by_cases c3:n=3
    ·simp [rb,a1,rd1,cs,nw,q10,wrt0,t10,txn.1,txn.2,zpd,lpd,← hh2,eq_true (mnb.2.2.2 c3),zc c3,r3,-binK_shr,bshr,w4]
     exact hq
    ·have m8:¬ (mn:Int)=8:=fun h=>c3 (mnb.2.2.1 h)
     simp [rb,a1,rd1,cs,nw,q10,wrt0,t10,txn.1,txn.2,zpd,lpd,← hh2,m8,lmn,l16,z4 c3,zd c3,r3,-binK_shr,bshr,w4]
     exact hq
end Go.Proofs.Ytbkmdnmncaakdaa
