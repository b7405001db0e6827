import Derived.Test.YtbkmdnmncaakdaaPaMl
set_option linter.unusedVariables false
set_option linter.unusedSimpArgs false
set_option maxRecDepth 20000
namespace Go.Proofs.Ytbkmdnmncaakdaa
open Go Go.Zf
open Go.Zf (wi64)
structure Co (P:Nat→Prop) (h:H) (c q m:Nat) (st:St) (e:Int):Prop where
 C:∃ D,CoderAt D h c m st∧∀ b,D b→b < h.n∧¬ P b
 k:h.get q=some (.cells [.ptr c 0,.int .i64 e] 87 false)
 pq:P q
 lt:∀ b,P b→b < h.n
structure Kp (P:Nat→Prop) (h h':H):Prop where
 n:h.n≤h'.n
 get:∀ b,P b→h'.get b=h.get b
theorem Kp.refl (P:Nat→Prop) (h:H):Kp P h h:=⟨Nat.le_refl _,fun _ _=>rfl⟩
theorem Kp.trans {P:Nat→Prop} {a b c:H} (x:Kp P a b) (y:Kp P b c):Kp P a c:=⟨Nat.le_trans x.n y.n,fun i hi=>(y.get i hi).trans (x.get i hi)⟩
theorem Kp.mono {P Q:Nat→Prop} {a b:H} (x:Kp P a b) (h:∀ i,Q i→P i):Kp Q a b:=⟨x.n,fun i hi=>x.get i (h i hi)⟩
theorem Kp.of {P:Nat→Prop} {a b:H} (x:Ext a b) (h:∀ i,P i→i < a.n):Kp P a b:=⟨x.n,fun i hi=>x.get i (h i hi)⟩
theorem CoderAt.more {D:Nat→Prop} {h:H} {p m:Nat} {st:St} (a:CoderAt D h p m st) {m':Nat} (hm:m≤m') (hm':m' < 100000000):CoderAt D h p m' st:=by
 obtain ⟨vo,vi,vs,Ds,Dw,h1,h2,h3,h4,h5,h6,h7,h8,h9⟩:=a
 refine ⟨vo,vi,vs,Ds,Dw,h1,h2,h3,?_,h5,h6,⟨h7.1,by omega⟩,h8,h9⟩
 generalize st.sd=sd at h4 ⊢
 cases sd with
 | w out low rng=>exact ⟨h4.1,by have:=h4.2.1;omega,hm'⟩
 | r rest code rng=>exact ⟨h4.1,h4.2.1,hm'⟩
theorem Co.more {P:Nat→Prop} {h:H} {c q m:Nat} {st:St} {e:Int} (a:Co P h c q m st e) {m':Nat} (hm:m≤m') (hm':m' < 100000000):Co P h c q m' st e:=by
 obtain ⟨⟨D,C,hD⟩,k,pq,lt⟩:=a
 exact ⟨⟨D,C.more hm hm',hD⟩,k,pq,lt⟩
theorem Co.ok {P:Nat→Prop} {h:H} {c q m:Nat} {st:St} {e:Int} (a:Co P h c q m st e):SetOk st.S∧SideOk m st.sd:=by
 obtain ⟨⟨D,C,hD⟩,k,pq,lt⟩:=a
 exact ⟨C.ok.1,C.ok.2.1⟩
theorem Co.ext {P:Nat→Prop} {h h':H} {c q m:Nat} {st:St} {e:Int} (a:Co P h c q m st e) (x:Ext h h'):Co P h' c q m st e:=by
 obtain ⟨⟨D,C,hD⟩,k,pq,lt⟩:=a
 have:=x.n
 exact ⟨⟨D,C.keep x.n fun b hb hb2=>x.get b hb2,fun b hb=>⟨by have:=(hD b hb).1;omega,(hD b hb).2⟩⟩,(x.get q (lt q pq)).trans k,pq,fun b hb=>by have:=lt b hb;omega⟩
theorem Co.less {P Q:Nat→Prop} {h:H} {c q m:Nat} {st:St} {e:Int} (a:Co P h c q m st e) (hq:Q q) (hQ:∀ b,Q b→P b):Co Q h c q m st e:=by
 obtain ⟨⟨D,C,hD⟩,k,pq,lt⟩:=a
 exact ⟨⟨D,C,fun b hb=>⟨(hD b hb).1,fun h=>(hD b hb).2 (hQ b h)⟩⟩,k,hq,fun b hb=>lt b (hQ b hb)⟩
theorem Co.box {P:Nat→Prop} {h:H} {c q m:Nat} {st:St} {e:Int} (a:Co P h c q m st e) (X:Blk):Co (fun b=>P b∨b=h.n) (h.new X) c q m st e:=by
 obtain ⟨⟨D,C,hD⟩,k,pq,lt⟩:=a
 have x:Ext h (h.new X):=(Ext.refl h).new X
 refine ⟨⟨D,C.keep x.n fun b hb hb2=>x.get b hb2,fun b hb=>⟨by have:=(hD b hb).1;rw [H.n_new];omega,?_⟩⟩,(x.get q (lt q pq)).trans k,.inl pq,?_⟩
 ·rintro (h1 | h1)
  ·exact (hD b hb).2 h1
  ·have:=(hD b hb).1;omega
 ·rintro b (hb | hb)
  ·have:=lt b hb;rw [H.n_new];omega
  ·rw [H.n_new];omega
theorem Co.put {P:Nat→Prop} {h:H} {c q m:Nat} {st:St} {e:Int} (a:Co P h c q m st e) {t:Nat} (pt:P t) (nt:t ≠ q) (X:Blk):Co P (h.put t X) c q m st e:=by
 obtain ⟨⟨D,C,hD⟩,k,pq,lt⟩:=a
 exact ⟨⟨D,C.keep (by rw [H.n_put];exact Nat.le_refl _) fun b hb hb2=>get_put_ne (by rintro rfl;exact (hD _ hb).2 pt),fun b hb=>by rw [H.n_put];exact hD b hb⟩,(get_put_ne (Ne.symm nt)).trans k,pq,fun b hb=>by rw [H.n_put];exact lt b hb⟩
structure Res (P:Nat→Prop) (h:H) (c q t tt m:Nat) (st:St) (cs:List V) (h':H):Prop where
 co:Co P h' c q m st 0
 box:h'.get t=some (.cells cs tt false)
 kp:Kp (fun b=>P b∧b ≠ q∧b ≠ t) h h'
theorem symbol60_err {h:H} {q c:Nat} {e:Int} (hq:h.get q=some (.cells [.ptr c 0,.int .i64 e] 87 false)) (he:e ≠ 0) (a b d f:V):KW 60 [.ptr q 0,a,b,d,f] h=some (.ret (.tup []),h):=by
 have r1:=rd1_of (o:=1) hq
 rw [w60,f60,s60]
 simp [r1,he]
theorem symbol60_ok {P:Nat→Prop} {h:H} {c q m:Nat} {st:St} (a:Co P h c q m st 0) {t o tt:Nat} {cs:List V} {v f:Int} {k x:Nat} (ht:h.get t=some (.cells cs tt false)) (pt:P t) (nt:t ≠ q) (hv:cs[o]?=some (.int .i64 v))
  (hm:m+1 < 100000000) (hk:k < 32) (hx:x < cx k) (hb : -100000≤v∧v≤100000) (hf : -1000≤f∧f≤1000) (hw:st.sd.writes=true→0≤v - f∧v - f < vl k) :
  RT (fun w h'=>w=.tup []∧Res P h c q t tt (m+1) (st.sym k x (v - f)) (cs.set o (.int .i64 ((st.symV k x (v - f):Nat)+f))) h') (KW 60 [.ptr q 0,.int .i64 (k:Nat),.int .i64 (x:Nat),.int .i64 f,.ptr t o] h):=by
 obtain ⟨⟨D,C,hD⟩,hq,pq,lt⟩:=a
 have r1:=rd1_of (o:=1) hq
 have r0:=rd1_of (o:=0) hq
 have rv:=(rd1_of (o:=o) ht).trans hv
 have z1:IntKind.i64.wrap (v - f)=v - f:=wi64 (by omega) (by omega)
 obtain ⟨_,h1,a1,rfl,C1,M1⟩:=(symbol30_ok C hm hk hx hw).elim
 have sv:st.symV k x (v - f) < 16:=by
  have h1:=St.symV_lt C.ok.1 hk hx hw
  have h2:=(vl_le hk).2
  omega
 have M1n:=M1.n
 have nD:∀ b,P b→¬ D b:=fun b hb hd=>(hD b hd).2 hb
 have q1:h1.get q=_:=(M1.get q (lt q pq) (nD q pq)).trans hq
 have t1:h1.get t=_:=(M1.get t (lt t pt) (nD t pt)).trans ht
 have w1:h1.wr1 q 1 (.int .i64 0)=some (h1.put q (.cells [.ptr c 0,.int .i64 0] 87 false)):=by rw [wr1_of q1 (by simp)];rfl
 obtain ⟨h2,hh2⟩:∃ z,z=h1.put q (.cells [.ptr c 0,.int .i64 0] 87 false):=⟨_,rfl⟩
 rw [← hh2] at w1
 have q2:h2.get q=some (.cells [.ptr c 0,.int .i64 0] 87 false):=by rw [hh2,get_put_same (H.get_lt q1)]
 have r2:=rd1_of (o:=1) q2
 have t2:h2.get t=some (.cells cs tt false):=by rw [hh2,get_put_ne nt,t1]
 have ol:o < cs.length:=by
  rcases Nat.lt_or_ge o cs.length with h | h
  ·exact h
  ·rw [List.getElem?_eq_none h] at hv;cases hv
 obtain ⟨s,hs⟩:∃ s,s=st.symV k x (v - f):=⟨_,rfl⟩
 rw [← hs] at a1 sv ⊢
 have z2:IntKind.i64.wrap ((s:Int)+f)=(s:Int)+f:=wi64 (by omega) (by omega)
 obtain ⟨h3,hh3⟩:∃ z,z=h2.put t (.cells (cs.set o (.int .i64 ((s:Int)+f))) tt false):=⟨_,rfl⟩
 have w2:h2.wr1 t o (.int .i64 ((s:Int)+f))=some h3:=by rw [wr1_of t2 ol,hh3]
 have n3:h3.n=h1.n:=by rw [hh3,H.n_put,hh2,H.n_put]
 rw [w60,f60,s60]
 simp [r1,r0,rv,z1,a1,w1,r2,z2,w2]
 refine ⟨rfl,⟨⟨grow D h h1,C1.keep (by omega) (fun b hb hb2=>?_),fun b hb=>?_⟩,?_,pq,fun b hb=>by have:=lt b hb;omega⟩,?_,⟨by omega,?_⟩⟩
 ·have bp:¬ P b:=by
   rcases hb with hb | hb
   ·exact (hD b hb).2
   ·exact fun hp=>by have:=lt b hp;omega
  rw [hh3,get_put_ne (by rintro rfl;exact bp pt),hh2,get_put_ne (by rintro rfl;exact bp pq)]
 ·rcases hb with hb | hb
  ·exact ⟨by have:=(hD b hb).1;omega,(hD b hb).2⟩
  ·exact ⟨by omega,fun hp=>by have:=lt b hp;omega⟩
 ·rw [hh3,get_put_ne (Ne.symm nt),q2]
 ·rw [hh3,get_put_same (H.get_lt t2)]
 ·rintro b ⟨hb,bq,bt⟩
  rw [hh3,get_put_ne bt,hh2,get_put_ne bq,M1.get b (lt b hb) (nD b hb)]
theorem bits93_ok {P:Nat→Prop} {h:H} {c q m:Nat} {st:St} (a:Co P h c q m st 0) {t o tt:Nat} {cs:List V} {v:Int} {n:Nat} (ht:h.get t=some (.cells cs tt false)) (pt:P t) (nt:t ≠ q) (hv:cs[o]?=some (.int .i64 v))
  (hm:m+n < 100000000) (hn:n≤30) (hw:st.sd.writes=true→0≤v∧v < pw n) :
  RT (fun w h'=>w=.tup []∧Res P h c q t tt (m+n) (st.num n v.toNat) (cs.set o (.int .i64 (st.numV n v.toNat:Nat))) h') (KW 93 [.ptr q 0,.int .i64 (n:Nat),.ptr t o] h):=by
 obtain ⟨⟨D,C,hD⟩,hq,pq,lt⟩:=a
 have r1:=rd1_of (o:=1) hq
 have r0:=rd1_of (o:=0) hq
 have rv:=(rd1_of (o:=o) ht).trans hv
 obtain ⟨_,h1,a1,rfl,C1,M1⟩:=(bits29_ok C hn hm hw).elim
 have M1n:=M1.n
 have nD:∀ b,P b→¬ D b:=fun b hb hd=>(hD b hd).2 hb
 have q1:h1.get q=_:=(M1.get q (lt q pq) (nD q pq)).trans hq
 have t1:h1.get t=_:=(M1.get t (lt t pt) (nD t pt)).trans ht
 have w1:h1.wr1 q 1 (.int .i64 0)=some (h1.put q (.cells [.ptr c 0,.int .i64 0] 87 false)):=by rw [wr1_of q1 (by simp)];rfl
 obtain ⟨h2,hh2⟩:∃ z,z=h1.put q (.cells [.ptr c 0,.int .i64 0] 87 false):=⟨_,rfl⟩
 rw [← hh2] at w1
 have q2:h2.get q=some (.cells [.ptr c 0,.int .i64 0] 87 false):=by rw [hh2,get_put_same (H.get_lt q1)]
 have r2:=rd1_of (o:=1) q2
 have t2:h2.get t=some (.cells cs tt false):=by rw [hh2,get_put_ne nt,t1]
 have ol:o < cs.length:=by
  rcases Nat.lt_or_ge o cs.length with h | h
  ·exact h
  ·rw [List.getElem?_eq_none h] at hv;cases hv
 obtain ⟨s,hs⟩:∃ s,s=st.numV n v.toNat:=⟨_,rfl⟩
 rw [← hs] at a1 ⊢
 obtain ⟨h3,hh3⟩:∃ z,z=h2.put t (.cells (cs.set o (.int .i64 (s:Nat))) tt false):=⟨_,rfl⟩
 have w2:h2.wr1 t o (.int .i64 (s:Nat))=some h3:=by rw [wr1_of t2 ol,hh3]
 have n3:h3.n=h1.n:=by rw [hh3,H.n_put,hh2,H.n_put]
 rw [w93,f93,s93]
 simp [r1,r0,rv,a1,w1,r2,w2]
 refine ⟨rfl,⟨⟨grow D h h1,C1.keep (by omega) (fun b hb hb2=>?_),fun b hb=>?_⟩,?_,pq,fun b hb=>by have:=lt b hb;omega⟩,?_,⟨by omega,?_⟩⟩
 ·have bp:¬ P b:=by
   rcases hb with hb | hb
   ·exact (hD b hb).2
   ·exact fun hp=>by have:=lt b hp;omega
  rw [hh3,get_put_ne (by rintro rfl;exact bp pt),hh2,get_put_ne (by rintro rfl;exact bp pq)]
 ·rcases hb with hb | hb
  ·exact ⟨by have:=(hD b hb).1;omega,(hD b hb).2⟩
  ·exact ⟨by omega,fun hp=>by have:=lt b hp;omega⟩
 ·rw [hh3,get_put_ne (Ne.symm nt),q2]
 ·rw [hh3,get_put_same (H.get_lt t2)]
 ·rintro b ⟨hb,bq,bt⟩
  rw [hh3,get_put_ne bt,hh2,get_put_ne bq,M1.get b (lt b hb) (nD b hb)]
theorem flag31_ok {P:Nat→Prop} {h:H} {c q m:Nat} {st:St} (a:Co P h c q m st 0) {t o tt:Nat} {cs:List V} {b:Bool} {k x:Nat} (ht:h.get t=some (.cells cs tt false)) (pt:P t) (nt:t ≠ q) (hv:cs[o]?=some (.bool b))
  (hm:m+1 < 100000000) (hk:k < 32) (hx:x < cx k) (h2:vl k=2) :
  RT (fun w h'=>w=.tup []∧Res P h c q t tt (m+1) (st.sym k x (flg b)) (cs.set o (.bool (decide (st.symV k x (flg b)=1)))) h') (KW 31 [.ptr q 0,.int .i64 (k:Nat),.int .i64 (x:Nat),.ptr t o] h):=by
 have ol:o < cs.length:=by
  rcases Nat.lt_or_ge o cs.length with h | h
  ·exact h
  ·rw [List.getElem?_eq_none h] at hv;cases hv
 obtain ⟨h1,hh1⟩:∃ z,z=h.new (.cells [.int .i64 (flg b)] 3 false):=⟨_,rfl⟩
 have x1:Ext h h1:=by rw [hh1];exact (Ext.refl h).new _
 have n1:h1.n=h.n+1:=by rw [hh1,H.n_new]
 have g1:h1.get h.n=some (.cells [.int .i64 (flg b)] 3 false):=by rw [hh1,get_new_same]
 have a1:Co (fun b=>P b∨b=h.n) h1 c q m st 0:=by rw [hh1];exact a.box _
 have hqn:=a.lt q a.pq
 have htn:=a.lt t pt
 have fb:0≤flg b∧flg b≤1:=by cases b <;> decide
 obtain ⟨_,h3,a3,rfl,R⟩:=(symbol60_ok a1 (t:=h.n) (o:=0) (v:=flg b) (f:=0) g1 (.inr rfl) (by omega) rfl hm hk hx (by omega) (by decide) (fun _=>by rw [h2];omega)).elim
 rw [Int.sub_zero,Int.add_zero] at R
 obtain ⟨s,hs⟩:∃ s,s=st.symV k x (flg b):=⟨_,rfl⟩
 rw [← hs] at R ⊢
 have R3:=R.kp.n
 have t3:h3.get t=_:=(R.kp.get t ⟨.inl pt,nt,by omega⟩).trans ((x1.get t htn).trans ht)
 have rn:h3.rd1 h.n 0=some (.int .i64 (s:Nat)):=by rw [rd1_of R.box];rfl
 obtain ⟨h4,hh4⟩:∃ z,z=h3.put t (.cells (cs.set o (.bool (decide (s=1)))) tt false):=⟨_,rfl⟩
 have w4:h3.wr1 t o (.bool (decide (s=1)))=some h4:=by rw [wr1_of t3 ol,hh4]
 have ds:decide ((s:Int)=1)=decide (s=1):=by rw [decide_eq_decide];omega
 have fin:Res P h c q t tt (m+1) (st.sym k x (flg b)) (cs.set o (.bool (decide (s=1)))) h4:=by
  refine ⟨?_,by rw [hh4,get_put_same (H.get_lt t3)],⟨by rw [hh4,H.n_put];omega,?_⟩⟩
  ·rw [hh4];exact (R.co.put (.inl pt) nt _).less a.pq fun b hb=>.inl hb
  ·rintro i ⟨hi,iq,it⟩
   rw [hh4,get_put_ne it,R.kp.get i ⟨.inl hi,iq,by have:=a.lt i hi;omega⟩,x1.get i (a.lt i hi)]
 rw [w31,f31,s31]
 have hv1:h1.rd1 t o=some (.bool b):=(rd1_of ((x1.get t htn).trans ht)).trans hv
 cases b with
 | true =>
  have hv0:(h.new (.cells [.int .i64 0] 3 false)).rd1 t o=some (.bool true):=by rw [rd1_of (by rw [get_new_lt htn];exact ht)];exact hv
  have e1:flg true=1:=rfl
  rw [e1] at hh1
  simp [nw,hv0,← hh1,a3,rn,ds,w4]
  exact ⟨rfl,fin⟩
 | false =>
  have e1:flg false=0:=rfl
  rw [e1] at hh1
  have w10:h1.wr1 h.n 0 (.int .i64 0)=some h1:=by rw [hh1,wr1_new _ _ _ _ _ (by simp)];rfl
  simp [nw,← hh1,w10,hv1,a3,rn,ds,w4]
  exact ⟨rfl,fin⟩
theorem flag31_err {P:Nat→Prop} {h:H} {c q m:Nat} {st:St} {e:Int} (a:Co P h c q m st e) (he:e ≠ 0) {t o tt:Nat} {cs:List V} {b:Bool} (ht:h.get t=some (.cells cs tt false)) (hv:cs[o]?=some (.bool b)) (k x:V) :
  RT (fun w h'=>w=.tup []∧Ext h h') (KW 31 [.ptr q 0,k,x,.ptr t o] h):=by
 have ol:o < cs.length:=by
  rcases Nat.lt_or_ge o cs.length with h | h
  ·exact h
  ·rw [List.getElem?_eq_none h] at hv;cases hv
 have htn:=H.get_lt ht
 have hqn:=H.get_lt a.k
 have se:∀ n:Int,KW 60 [.ptr q 0,k,x,.int .i64 0,.ptr h.n 0] (h.new (.cells [.int .i64 n] 3 false))=some (.ret (.tup []),h.new (.cells [.int .i64 n] 3 false)):=fun n=>symbol60_err (by rw [get_new_lt hqn];exact a.k) he _ _ _ _
 have hr:∀ n:Int,(h.new (.cells [.int .i64 n] 3 false)).rd1 t o=some (.bool b):=fun n=>by rw [rd1_of (by rw [get_new_lt htn];exact ht)];exact hv
 have wr:∀ n:Int,(h.new (.cells [.int .i64 n] 3 false)).wr1 t o (.bool b)=some ((h.new (.cells [.int .i64 n] 3 false)).put t (.cells (cs.set o (.bool b)) tt false)):=fun n=>by rw [wr1_of (by rw [get_new_lt htn];exact ht) ol]
 have cse:cs.set o (.bool b)=cs:=by
  have:=List.getElem?_eq_some_iff.1 hv
  obtain ⟨h1,h2⟩:=this
  rw [← h2,List.set_getElem_self]
 have xe:∀ n:Int,Ext h ((h.new (.cells [.int .i64 n] 3 false)).put t (.cells (cs.set o (.bool b)) tt false)):=fun n=>⟨by rw [H.n_put,H.n_new];omega,fun i hi=>by
  by_cases e:i=t
  ·subst e;rw [get_put_same (by rw [H.n_new];omega),cse,ht]
  ·rw [get_put_ne e,get_new_lt hi]⟩
 rw [w31,f31,s31]
 cases b with
 | true=>simp [nw,hr,se,wr];exact ⟨rfl,xe _⟩
 | false=>simp [nw,hr,se,wr];exact ⟨rfl,xe _⟩
end Go.Proofs.Ytbkmdnmncaakdaa
