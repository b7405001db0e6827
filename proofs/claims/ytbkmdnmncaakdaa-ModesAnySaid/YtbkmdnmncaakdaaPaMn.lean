import Derived.Test.YtbkmdnmncaakdaaPaMm
set_option linter.unusedVariables false
set_option linter.unusedSimpArgs false
set_option maxRecDepth 20000
namespace Go.Proofs.Ytbkmdnmncaakdaa
open Go Go.Zf
open Go.Zf (wi64)
theorem exec_wr {α:Type}:∀ (p:Pr α) (st:St),(p.exec st).2.sd.writes=st.sd.writes
 | .done a,st=>rfl
 | .stop,st=>rfl
 | .sym k c v f,st=>by rw [Pr.exec_sym,exec_wr];exact St.sym_wr _ _ _ _
 | .num n v f,st=>by rw [Pr.exec_num,exec_wr];exact St.num_wr _ _ _
theorem exec_wr' {α:Type} {p:Pr α} {st st':St} {r:Option α} (h:p.exec st=(r,st')):st'.sd.writes=st.sd.writes:=by
 have:=exec_wr p st
 rw [h] at this;exact this
theorem set_self {cs:List V} {o:Nat} {v:V} (h:cs[o]?=some v):cs.set o v=cs:=by
 obtain ⟨h1,h2⟩:=List.getElem?_eq_some_iff.1 h
 rw [← h2,List.set_getElem_self]
theorem Res.more {P:Nat→Prop} {h:H} {c q t tt m:Nat} {st:St} {cs:List V} {h':H} (a:Res P h c q t tt m st cs h') {m':Nat} (hm:m≤m') (hm':m' < 100000000):Res P h c q t tt m' st cs h':=⟨a.co.more hm hm',a.box,a.kp⟩
theorem Res.trans {P:Nat→Prop} {h h1 h2:H} {c q t tt m m':Nat} {st st':St} {cs cs':List V} (a:Res P h c q t tt m st cs h1) (b:Res P h1 c q t tt m' st' cs' h2):Res P h c q t tt m' st' cs' h2:=⟨b.co,b.box,a.kp.trans b.kp⟩
def Ends {α:Type} (p:Pr α) (st:St) (v:α) (Q:α→St→Prop):Prop:=∃ r st',p.exec st=(some r,st')∧(st.sd.writes=true→r=v)∧Q r st'
theorem mode61_ok {P:Nat→Prop} {h:H} {c q m:Nat} {st:St} (a:Co P h c q m st 0) {t o1 o2 tt:Nat} {cs:List V} {v d:Int} {k x:Nat} (ht:h.get t=some (.cells cs tt false)) (pt:P t) (nt:t ≠ q) (h1:cs[o1]?=some (.int .i64 v)) (h2:cs[o2]?=some (.int .i64 d)) (ho:o1 ≠ o2)
  (hm:m+2 < 100000000) (hk:k < 32) (hx:x < cx k) (hb : -1000≤v∧v≤1000) (hd : -1000≤d∧d≤1000) (hw:st.sd.writes=true→(0≤v∧v < vl k)∧(1≤v∧v≤8 → -3≤d∧d≤3)) :
  RT (fun w h'=>w=.tup []∧Ends (modeP k x (v,d)) st (v,d) fun r st'=>(0≤r.1∧r.1 < vl k)∧(-1000≤r.2∧r.2≤1000)∧Res P h c q t tt (m+2) st' ((cs.set o1 (.int .i64 r.1)).set o2 (.int .i64 r.2)) h')
   (KW 61 [.ptr q 0,.int .i64 (k:Nat),.int .i64 (x:Nat),.ptr t o1,.ptr t o2] h):=by
 obtain ⟨_,g1,a1,rfl,R1⟩:=(symbol60_ok a (f:=0) ht pt nt h1 (by omega) hk hx (by omega) (by decide) (fun h=>by have:=(hw h).1;omega)).elim
 rw [Int.sub_zero,Int.add_zero] at R1
 have sl:=St.symV_lt a.ok.1 hk hx (v:=v) (fun h=>(hw h).1)
 have vv:=vl_le hk
 have ol:o1 < cs.length:=by
  rcases Nat.lt_or_ge o1 cs.length with h | h
  ·exact h
  ·rw [List.getElem?_eq_none h] at h1;cases h1
 have sw:st.sd.writes=true→((st.symV k x v:Nat):Int)=v:=fun h=>by rw [St.symV_w h];have:=(hw h).1;omega
 have cs1:(cs.set o1 (.int .i64 (st.symV k x v:Nat)))[o1]?=some (.int .i64 (st.symV k x v:Nat)):=by rw [List.getElem?_set_self ol]
 have cs2:(cs.set o1 (.int .i64 (st.symV k x v:Nat)))[o2]?=some (.int .i64 d):=by rw [List.getElem?_set_ne ho,h2]
 have ex:(modeP k x (v,d)).exec st=(if 1≤st.symV k x v∧st.symV k x v≤8 then Pr.sym 5 (st.symV k x v - 1) (d+3) fun y=>.done (((st.symV k x v:Nat):Int),(y:Int) - 3) else .done (((st.symV k x v:Nat):Int),d)).exec (st.sym k x v):=rfl
 obtain ⟨s,hs⟩:∃ s,s=st.symV k x v:=⟨_,rfl⟩
 rw [← hs] at R1 sl sw cs1 cs2 ex
 have rs:g1.rd1 t o1=some (.int .i64 (s:Nat)):=(rd1_of R1.box).trans cs1
 have re:=rd1_of (o:=1) R1.co.k
 have zs:IntKind.i64.wrap ((s:Int) - 1)=(s:Int) - 1:=wi64 (by omega) (by omega)
 rw [w61,f61,s61]
 by_cases c1:1≤s∧s≤8
 ·rw [if_pos c1] at ex
  have c1':1≤(s:Int)∧(s:Int)≤8:=by omega
  have e1:(s:Int) - 1=((s - 1:Nat):Int):=by omega
  obtain ⟨_,g2,a2,rfl,R2⟩:=(symbol60_ok R1.co (f := -3) (k:=5) (x:=s - 1) R1.box pt nt cs2 (by omega) (by decide) (by show s - 1 < 8;omega) (by omega) (by decide) (fun h=>by
   rw [St.sym_wr] at h
   have:=(hw h).2 (by have:=sw h;omega)
   show _∧_ < 7;omega)).elim
  rw [show d - (-3:Int)=d+3 by omega] at R2
  rw [← e1,show ((5:Nat):Int)=5 from rfl] at a2
  have sw2:st.sd.writes=true→(((st.sym k x v).symV 5 (s - 1) (d+3):Nat):Int) - 3=d:=fun h=>by
   rw [St.symV_w (by rw [St.sym_wr];exact h)]
   have:=(hw h).2 (by have:=sw h;omega)
   omega
  simp [a1,rs,dir69_ok,c1',re,zs,a2]
  have s7:=St.symV_lt R1.co.ok.1 (k:=5) (x:=s - 1) (v:=d+3) (by decide) (by show s - 1 < 8;omega) (fun h=>by
   rw [St.sym_wr] at h
   have:=(hw h).2 (by have:=sw h;omega)
   show _∧_ < 7;omega)
  have s7:(st.sym k x v).symV 5 (s - 1) (d+3) < 7:=s7
  refine ⟨rfl,_,_,ex,fun h=>Prod.ext (sw h) (sw2 h),by simp only;omega,by simp only;omega,?_⟩
  have:=(R1.trans R2).more (m':=m+2) (by omega) hm
  exact this
 ·rw [if_neg c1] at ex
  have c1':¬ (1≤(s:Int)∧(s:Int)≤8):=by omega
  simp [a1,rs,dir69_ok,c1',re]
  refine ⟨rfl,_,_,ex,fun h=>Prod.ext (sw h) rfl,by simp only;omega,hd,?_⟩
  rw [set_self cs2]
  exact R1.more (by omega) hm
theorem sgn79_ok (n:Int) (h:H):KW 79 [.int .i64 n] h=some (.ret (.int .i64 (sgn n:Nat)),h):=by
 rw [w79,f79,s79]
 unfold sgn
 by_cases c1:n < 0
 ·simp [c1]
 ·by_cases c2:0 < n
  ·simp [c1,c2]
  ·simp [c1,c2]
@[simp] theorem bl_pp (a b c d:Nat):bl [.nilp,.nilp] [(some (0,1),.ptr a b),(some (1,1),.ptr c d)]=some (.agg [.ptr a b,.ptr c d]):=id rfl
@[simp] theorem bl3 (x y z:V) (a b c:Int):bl [x,y,z] [(some (0,1),.int .i64 a),(some (1,1),.int .i64 b),(some (2,1),.int .i64 c)]=some (.agg [.int .i64 a,.int .i64 b,.int .i64 c]):=id rfl
theorem max3 (a b c:Int):maxV [.int .i64 a,.int .i64 b,.int .i64 c]=some (.int .i64 (imax (imax a b) c)):=by
 have:maxV [.int .i64 a,.int .i64 b,.int .i64 c]=some (.int .i64 (if c > (if b > a then b else a) then c else (if b > a then b else a))):=by simp [maxV,foldV,max2V]
 rw [this];rfl
abbrev K65:List Nat:=[0,1,4,5,6,7,8,29,30]
def restP (j:Nat) (i:Nat) (v:Int × Int):Pr (Int × Int) :=
 if i=0 then (magP ((j+1) / 3) 0 v.1).bind fun u=>(magP ((j+1) % 3) 1 v.2).bind fun w=>.done (u,w)
 else if i=1 then (magP ((j+1) % 3) 1 v.2).bind fun w=>.done (v.1,w) else .done v
structure I65 (P:Nat→Prop) (h0:H) (c q t J M:Nat) (b:Bk) (j:Nat) (R:Option (Int × Int) × St) (i:Nat) (e:E) (g:H):Prop where
 st:∃ v st',Res (fun b=>P b∨b=J) h0 c q t 45 (M+i) st' ({ b with cu:=v.1,cv:=v.2 }:Bk).cs g∧R=(restP j i v).exec st'∧(-1000≤v.1∧v.1≤1000)∧(-1000≤v.2∧v.2≤1000)∧(st'.sd.writes=true→v=(b.cu,b.cv))
 jb:g.get J=some (.cells [.int .i64 ((j:Int)+1)] 3 false)
 e0:e.s K65 0=.ptr q 0
 e4:e.s K65 4=.ptr J 0
 e29:e.s K65 29=.agg [.ptr t 10,.ptr t 11]
 e30:e.s K65 30=.int .i64 (i:Nat)
theorem mag_step {P:Nat→Prop} {h:H} {c q m:Nat} {st:St} (a:Co P h c q m st 0) {t o tt:Nat} {cs:List V} {v:Int} {s i:Nat} (ht:h.get t=some (.cells cs tt false)) (pt:P t) (nt:t ≠ q) (hv:cs[o]?=some (.int .i64 v))
  (hm:m+1 < 100000000) (hi:i < 2) (hs:s≤2) (hb : -1000≤v∧v≤1000) (hw:st.sd.writes=true→sgn v=s ∧ -16≤v∧v≤16) :
  ∃ r st' g1 A,(magP s i v).exec st=(some r,st')∧(st.sd.writes=true→r=v)∧(-1000≤r∧r≤1000) ∧
   (if s=0 then g1=h.new (.cells [.int .i64 (imax (iabs v) 1)] 3 false) else KW 60 [.ptr q 0,.int .i64 9,.int .i64 (i:Nat),.int .i64 1,.ptr h.n 0] (h.new (.cells [.int .i64 (imax (iabs v) 1)] 3 false))=some (.ret (.tup []),g1)) ∧
   g1.rd1 h.n 0=some (.int .i64 A)∧0≤A∧A≤1000∧r=(if s=0 then 0 else if s=1 then -A else A)∧g1.get t=some (.cells cs tt false)∧Res P h c q t tt (m+1) st' (cs.set o (.int .i64 r)) (g1.put t (.cells (cs.set o (.int .i64 r)) tt false)):=by
 have ab:=iabs_b v
 have mb:=imax_b (iabs v) 1
 have htn:=H.get_lt ht
 have x1:Ext h (h.new (.cells [.int .i64 (imax (iabs v) 1)] 3 false)):=(Ext.refl h).new _
 have g0:(h.new (.cells [.int .i64 (imax (iabs v) 1)] 3 false)).get h.n=some (.cells [.int .i64 (imax (iabs v) 1)] 3 false):=get_new_same
 have a1:=a.box (.cells [.int .i64 (imax (iabs v) 1)] 3 false)
 obtain ⟨h1,hh1⟩:∃ z,z=h.new (.cells [.int .i64 (imax (iabs v) 1)] 3 false):=⟨_,rfl⟩
 rw [← hh1] at x1 g0 a1 ⊢
 by_cases s0:s=0
 ·subst s0
  have t1:h1.get t=_:=(x1.get t htn).trans ht
  refine ⟨0,st,h1,imax (iabs v) 1,rfl,fun h=>?_,by decide,by rw [if_pos rfl],by rw [rd1_of g0];rfl,by omega,by omega,rfl,t1,?_,get_put_same (H.get_lt t1),⟨by rw [H.n_put];exact x1.n,?_⟩⟩
  ·have:=(hw h).1;have:=sgn_b v;omega
  ·exact ((a1.put (.inl pt) nt _).less a.pq fun b hb=>.inl hb).more (by omega) hm
  ·rintro i ⟨hi,iq,it⟩
   rw [get_put_ne it,x1.get i (a.lt i hi)]
 ·obtain ⟨_,g1,k1,rfl,R⟩:=(symbol60_ok a1 (t:=h.n) (o:=0) (v:=imax (iabs v) 1) (f:=1) (k:=9) (x:=i) g0 (.inr rfl) (by have:=a.lt q a.pq;omega) rfl hm (by decide) hi (by omega) (by decide) (fun h=>by
   have:=(hw h).2;show _∧_ < 16;omega)).elim
  have sl:=St.symV_lt a.ok.1 (k:=9) (x:=i) (v:=imax (iabs v) 1 - 1) (by decide) hi (fun h=>by have:=(hw h).2;show _∧_ < 16;omega)
  have sl:st.symV 9 i (imax (iabs v) 1 - 1) < 16:=sl
  have ex:(magP s i v).exec st=(some (if s=1 then -((st.symV 9 i (imax (iabs v) 1 - 1):Nat)+1:Int) else ((st.symV 9 i (imax (iabs v) 1 - 1):Nat)+1:Int)),st.sym 9 i (imax (iabs v) 1 - 1)):=by
   unfold magP;rw [if_neg s0];rfl
  have sw:st.sd.writes=true→((st.symV 9 i (imax (iabs v) 1 - 1):Nat):Int)=imax (iabs v) 1 - 1:=fun h=>by rw [St.symV_w h];omega
  obtain ⟨y,hy⟩:∃ y,y=st.symV 9 i (imax (iabs v) 1 - 1):=⟨_,rfl⟩
  rw [← hy] at R sl ex sw
  have t1:g1.get t=_:=(R.kp.get t ⟨.inl pt,nt,by omega⟩).trans ((x1.get t htn).trans ht)
  have r1:g1.rd1 h.n 0=some (.int .i64 ((y:Int)+1)):=by rw [rd1_of R.box];rfl
  have Rn:=R.kp.n
  refine ⟨_,_,g1,(y:Int)+1,ex,fun h=>?_,by split <;> omega,by rw [if_neg s0];exact k1,r1,by omega,by omega,by rw [if_neg s0],t1,?_,get_put_same (H.get_lt t1),⟨by rw [H.n_put];have:=x1.n;omega,?_⟩⟩
  ·have h1:=sw h
   have h2:=hw h
   have h3:=sgn_b v
   by_cases s1:s=1
   ·rw [if_pos s1];omega
   ·rw [if_neg s1];omega
  ·exact (R.co.put (.inl pt) nt _).less a.pq fun b hb=>.inl hb
  ·rintro j ⟨hj,jq,jt⟩
   rw [get_put_ne jt,R.kp.get j ⟨.inl hj,jq,by have:=a.lt j hj;omega⟩,x1.get j (a.lt j hj)]
theorem loop65 {P:Nat→Prop} {h0:H} {c q t J M:Nat} {b:Bk} {j:Nat} {R:Option (Int × Int) × St} {r:Int × Int} {stF:St} (hR:R=(some r,stF)) (pt:P t) (pq:P q) (nt:t ≠ q) (nJ:t ≠ J∧q ≠ J) (hM:M+2 < 100000000) (hj:j < 8)
  (hw:stF.sd.writes=true→(sgn b.cu=(j+1) / 3 ∧ -16≤b.cu∧b.cu≤16)∧(sgn b.cv=(j+1) % 3 ∧ -16≤b.cv∧b.cv≤16)) :
  ∀ k e g,(k≤2∧I65 P h0 c q t J M b j R (2 - k) e g)→LS (fun k e g=>k≤2∧I65 P h0 c q t J M b j R (2 - k) e g) (fun s=>s.x=.ex 0∧I65 P h0 c q t J M b j R 2 s.e s.h) k (l65_0 KW loopZ e g):=by
 rintro k e g ⟨hk,⟨v,st,Re,hRv,hb1,hb2,hwv⟩,jb,e0,e4,e29,e30⟩
 obtain ⟨i,hi⟩:∃ i,i=2 - k:=⟨_,rfl⟩
 rw [← hi] at Re hRv e30
 by_cases i2:i=2
 ·subst i2
  simp [l65_0,e30]
  exact ⟨rfl,⟨v,st,Re,hRv,hb1,hb2,hwv⟩,jb,by simp [e0],by simp [e4],by simp [e29],by simp [e30]⟩
 have i3:(i:Int) < 2:=by omega
 have z2:IntKind.i64.wrap ((i:Int)+1)=((i+1:Nat):Int):=by rw [wi64 (by omega) (by omega)];omega
 have zq:IntKind.i64.wrap (((j:Int)+1).tdiv 3)=((j+1) / 3:Nat):=by
  rw [Int.tdiv_eq_ediv_of_nonneg (by omega),wi64 (by omega) (by omega)];omega
 have zr:((j:Int)+1).tmod 3=((j+1) % 3:Nat):=by rw [Int.tmod_eq_emod_of_nonneg (by omega)];omega
 have wr:st.sd.writes=stF.sd.writes:=by
  have:=exec_wr (restP j i v) st
  rw [← hRv,hR] at this;exact this.symm
 have gJ:=rd1_of (o:=0) jb
 have box:=Re.box
 obtain ⟨o,x,s,v',ho,hx,hs,hcs,hixp,hixs,hrest,hv'⟩:∃ (o:Nat) (x:Int) (s:Nat) (v':Int→Int × Int),(o=10∨o=11)∧(-1000≤x∧x≤1000)∧s≤2∧({ b with cu:=v.1,cv:=v.2 }:Bk).cs[o]?=some (.int .i64 x) ∧
   ixA 2 1 (.agg [.ptr t 10,.ptr t 11]) (.int .i64 (i:Nat))=some (.ptr t o)∧ixA 2 1 (.agg [.int .i64 ((j+1) / 3:Nat),.int .i64 ((j+1) % 3:Nat)]) (.int .i64 (i:Nat))=some (.int .i64 (s:Nat)) ∧
   (∀ r' st',(magP s i x).exec st=(some r',st')→(restP j i v).exec st=(restP j (i+1) (v' r')).exec st') ∧
   (∀ r',({ b with cu:=v.1,cv:=v.2 }:Bk).cs.set o (.int .i64 r')=({ b with cu:=(v' r').1,cv:=(v' r').2 }:Bk).cs∧((-1000≤r'∧r'≤1000)→(-1000≤(v' r').1∧(v' r').1≤1000)∧(-1000≤(v' r').2∧(v' r').2≤1000))∧(st.sd.writes=true→(sgn x=s ∧ -16≤x∧x≤16)∧(r'=x→v' r'=(b.cu,b.cv)))):=by
  rcases (by omega:i=0∨i=1) with rfl | rfl
  ·refine ⟨10,v.1,(j+1) / 3,fun r'=>(r',v.2),.inl rfl,hb1,by omega,rfl,rfl,rfl,fun r' st' he=>?_,fun r'=>⟨rfl,fun h=>⟨h,hb2⟩,fun h=>?_⟩⟩
   ·unfold restP;rw [if_pos rfl,Pr.exec_some he];rfl
   ·have h1:=(hw (by rw [← wr];exact h)).1
    have h2:=hwv h
    rw [h2]
    exact ⟨h1,fun e=>by rw [e]⟩
  ·refine ⟨11,v.2,(j+1) % 3,fun r'=>(v.1,r'),.inr rfl,hb2,by omega,rfl,rfl,rfl,fun r' st' he=>?_,fun r'=>⟨rfl,fun h=>⟨hb1,h⟩,fun h=>?_⟩⟩
   ·unfold restP;rw [if_neg (by decide),if_pos rfl,Pr.exec_some he];rfl
   ·have h1:=(hw (by rw [← wr];exact h)).2
    have h2:=hwv h
    rw [h2]
    exact ⟨h1,fun e=>by rw [e]⟩
 obtain ⟨r',st',g1,A,ex,hrw,hrb,hg1,rA,A0,A1,er,gt,Rn⟩:=mag_step (i:=i) (s:=s) Re.co box (.inl pt) nt hcs (by omega) (by omega) hs hx (fun h=>((hv' 0).2.2 h).1)
 have rv:g.rd1 t o=some (.int .i64 x):=(rd1_of box).trans hcs
 have zn:IntKind.i64.wrap (-x) = -x:=wi64 (by omega) (by omega)
 have znA:IntKind.i64.wrap (-A) = -A:=wi64 (by omega) (by omega)
 have m3:maxV [.int .i64 x,.int .i64 (-x),.int .i64 1]=some (.int .i64 (imax (iabs x) 1)):=max3 x (-x) 1
 have ol:o < ({ b with cu:=v.1,cv:=v.2 }:Bk).cs.length:=by show o < 23;omega
 have w1:g1.wr1 t o (.int .i64 r')=some (g1.put t (.cells (({ b with cu:=v.1,cv:=v.2 }:Bk).cs.set o (.int .i64 r')) 45 false)):=by rw [wr1_of gt ol]
 have hix3:ixA 3 1 (.agg [.int .i64 0,.int .i64 (-A),.int .i64 A]) (.int .i64 (s:Nat))=some (.int .i64 r'):=by
  rw [er];rcases (by omega:s=0∨s=1∨s=2) with rfl | rfl | rfl <;> rfl
 have Rt:=Re.trans Rn
 obtain ⟨h1,h2,h3⟩:=hv' r'
 rw [h1] at Rt w1
 obtain ⟨h9,hh9⟩:∃ z,z=g1.put t (.cells ({ b with cu:=(v' r').1,cv:=(v' r').2 }:Bk).cs 45 false):=⟨_,rfl⟩
 rw [← hh9] at Rt
 rw [← hh9] at w1
 have nJt:J ≠ t:=fun h=>nJ.1 h.symm
 have nJq:J ≠ q:=fun h=>nJ.2 h.symm
 have jb9:h9.get J=some (.cells [.int .i64 ((j:Int)+1)] 3 false):=by
  rw [hh9,← h1,Rn.kp.get J ⟨.inr rfl,nJq,nJt⟩,jb]
 have fin:∀ e':E,e'.s K65 0=.ptr q 0→e'.s K65 4=.ptr J 0→e'.s K65 29=.agg [.ptr t 10,.ptr t 11]→e'.s K65 30=.int .i64 ((i+1:Nat):Int)→I65 P h0 c q t J M b j R (i+1) e' h9:=fun e' f0 f4 f29 f30 =>
  ⟨⟨v' r',st',Rt,by rw [hRv];exact hrest r' st' ex,(h2 hrb).1,(h2 hrb).2,fun h=>(h3 (by rw [← exec_wr' ex];exact h)).2 (hrw (by rw [← exec_wr' ex];exact h))⟩,jb9,f0,f4,f29,f30⟩
 have ck1:2 - (k - 1)=i+1:=by omega
 obtain ⟨d3,hd3⟩:∃ z,z=(j+1) / 3:=⟨_,rfl⟩
 obtain ⟨r3,hr3⟩:∃ z,z=(j+1) % 3:=⟨_,rfl⟩
 rw [← hd3] at zq hixs
 rw [← hr3] at zr hixs
 by_cases s0:s=0
 ·rw [if_pos s0] at hg1
  have s0':(s:Int)=0:=by omega
  simp [l65_0,e30,i3,e29,hixp,e4,gJ,zq,zr,hixs,rv,zn,m3,nw,← hg1,s0',rA,znA,-Int.natCast_add]
  rw [s0'] at hix3
  simp [hix3,w1,z2,-Int.natCast_add]
  refine ⟨k - 1,by omega,by omega,?_⟩
  rw [ck1]
  exact fin _ (by simp [e0]) (by simp [e4]) (by simp [e29]) (by simp)
 ·rw [if_neg s0] at hg1
  have s0':¬ (s:Int)=0:=by omega
  simp [l65_0,e30,i3,e29,hixp,e4,gJ,zq,zr,hixs,rv,zn,m3,nw,e0,hg1,s0,s0',rA,znA,hix3,w1,z2,-Int.natCast_add]
  refine ⟨k - 1,by omega,by omega,?_⟩
  rw [ck1]
  exact fin _ (by simp [e0]) (by simp [e4]) (by simp [e29]) (by simp)
end Go.Proofs.Ytbkmdnmncaakdaa
