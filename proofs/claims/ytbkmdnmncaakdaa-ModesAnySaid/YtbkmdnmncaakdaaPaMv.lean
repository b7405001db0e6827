import Derived.Test.YtbkmdnmncaakdaaPaMu
set_option linter.unusedVariables false
set_option linter.unusedSimpArgs false
set_option maxRecDepth 20000
namespace Go.Proofs.Ytbkmdnmncaakdaa
open Go Go.Zf
open Go.Zf (wi64)
theorem VEnd.up {P P':Nat→Prop} {h h1 g:H} {c q t tt m:Nat} {st:St} {G:Vc→List V} {v:Vc} {R:Option Vc × St} (x:VEnd P' h1 c q t tt m st G v R g) (pq:P q) (hP:∀ b,P b→P' b) (kp:Kp (fun b=>P b∧b ≠ q∧b ≠ t) h h1):VEnd P h c q t tt m st G v R g:=by
 obtain ⟨r,st'⟩:=R
 cases r with
 | some r=>exact ⟨x.1,x.2.co.less pq hP,x.2.box,kp.trans (x.2.kp.mono fun i hi=>⟨hP i hi.1,hi.2⟩)⟩
 | none=>exact ⟨x.1,x.2.1.less pq hP,x.2.2.1,kp.trans (x.2.2.2.mono fun i hi=>⟨hP i hi.1,hi.2⟩)⟩
abbrev K34v:List Nat:=[0,1,2,6,7,8,9,10,19,20,35,36]
structure E34 (q g t n i:Nat) (e:E):Prop where
 e0:e.s K34v 0=.ptr q 0
 e1:e.s K34v 1=.ptr g 0
 e2:e.s K34v 2=.ptr t 0
 e35:e.s K34v 35=.int .i64 (n:Nat)
 e36:e.s K34v 36=.int .i64 (i:Nat)
theorem ck4 {β:Type} (a b c d:Int) (z:Option β):ck (some (.agg [.int .i64 a,.int .i64 b,.int .i64 c,.int .i64 d])) (.agg [.int .i64 a,.int .i64 b,.int .i64 c,.int .i64 d]) z=z:=by simp [ck,V.same,V.sames]
theorem front34 {P:Nat→Prop} {h:H} {c q t m:Nat} {st:St} (a:Co P h c q m st 0) {D:Nat→Prop} {g:Nat} {G:Gr} (ga:GridAt D h g G) {bb:Bk} (ht:h.get t=some (.cells bb.cs 45 false)) (pt:P t) (nt:t ≠ q) (ig:InG G bb) {ref:Int} (hr:0≤ref∧ref≤2) :
  ∃ h1 h2 h3 h4,KW 58 [bb.v] h=some (.ret (.agg [.int .i64 bb.x,.int .i64 bb.y,.int .i64 bb.w,.int .i64 bb.h]),h1) ∧
   KW 57 [.ptr g 0,.agg [.int .i64 bb.x,.int .i64 bb.y,.int .i64 bb.w,.int .i64 bb.h],.int .i64 ref] h1=some (.ret (.tup [.agg [.int .i64 (vsOf G bb ref).1.1.1,.int .i64 (vsOf G bb ref).1.1.2,.int .i64 (vsOf G bb ref).1.2.1,.int .i64 (vsOf G bb ref).1.2.2],.int .i64 ((vsOf G bb ref).2:Nat),.int .i64 0]),h2) ∧
   (h2.new (.cells [.int .i64 0,.int .i64 0,.int .i64 0,.int .i64 0] 43 false)).wrN h2.n 0 [.int .i64 (vsOf G bb ref).1.1.1,.int .i64 (vsOf G bb ref).1.1.2,.int .i64 (vsOf G bb ref).1.2.1,.int .i64 (vsOf G bb ref).1.2.2]=some h3 ∧
   h3.wr1 q 1 (.int .i64 0)=some h4∧h1.get t=some (.cells bb.cs 45 false)∧h4.get t=some (.cells bb.cs 45 false) ∧
   h4.get h2.n=some (.cells [.int .i64 (vsOf G bb ref).1.1.1,.int .i64 (vsOf G bb ref).1.1.2,.int .i64 (vsOf G bb ref).1.2.1,.int .i64 (vsOf G bb ref).1.2.2] 43 false)∧h.n≤h2.n ∧
   Co (fun b=>P b∨b=h2.n) h4 c q m st 0∧Kp (fun b=>P b∧b ≠ q∧b ≠ t) h h4:=by
 obtain ⟨_,h1,a1,rfl,x1⟩:=(rect58_ok bb h).elim
 obtain ⟨_,h2,a2,rfl,x2⟩:=(vecs_of (ga.ext x1) ig hr).elim
 have x12:=x1.trans x2
 have a3:=(a.ext x12).box (.cells [.int .i64 (vsOf G bb ref).1.1.1,.int .i64 (vsOf G bb ref).1.1.2,.int .i64 (vsOf G bb ref).1.2.1,.int .i64 (vsOf G bb ref).1.2.2] 43 false)
 obtain ⟨h3,hh3⟩:∃ z,z=h2.new (.cells [.int .i64 (vsOf G bb ref).1.1.1,.int .i64 (vsOf G bb ref).1.1.2,.int .i64 (vsOf G bb ref).1.2.1,.int .i64 (vsOf G bb ref).1.2.2] 43 false):=⟨_,rfl⟩
 rw [← hh3] at a3
 have x3:Ext h2 h3:=by rw [hh3];exact (Ext.refl h2).new _
 have x13:=x12.trans x3
 have xn:=x12.n
 have htn:=a.lt t pt
 have hqn:=a.lt q a.pq
 have n3:h3.n=h2.n+1:=by rw [hh3,H.n_new]
 refine ⟨h1,h2,h3,h3.put q (.cells [.ptr c 0,.int .i64 0] 87 false),a1,a2,by rw [hh3];exact wrN_new _ _ _ _ rfl,by rw [wr1_of a3.k (by simp)];rfl,(x1.get t htn).trans ht,by rw [get_put_ne nt,x13.get t htn,ht],by rw [get_put_ne (by omega),hh3];exact get_new_same,xn,?_,⟨by rw [H.n_put];exact x13.n,?_⟩⟩
 ·obtain ⟨⟨E,C,hD⟩,k,pq,lt⟩:=a3
  exact ⟨⟨E,C.keep (by rw [H.n_put];exact Nat.le_refl _) fun b hb hb2=>get_put_ne (by rintro rfl;exact (hD _ hb).2 pq),fun b hb=>by rw [H.n_put];exact hD b hb⟩,get_put_same (H.get_lt k),pq,fun b hb=>by rw [H.n_put];exact lt b hb⟩
 ·rintro i ⟨hi,iq,it⟩
  rw [get_put_ne iq,x13.get i (a.lt i hi)]
theorem iter34_0 {P:Nat→Prop} {h:H} {c q t m:Nat} {st:St} (a:Co P h c q m st 0) {D:Nat→Prop} {g:Nat} {G:Gr} (ga:GridAt D h g G) {bb:Bk} (ht:h.get t=some (.cells bb.cs 45 false)) (pt:P t) (nt:t ≠ q) (ig:InG G bb) (hr:0≤bb.r0∧bb.r0≤2) (hm:m+28 < 100000000) {n:Nat} (hn:0 < n)
  (hmm : -1000≤bb.mm∧bb.mm≤1000) (hv:(-5000≤bb.m0.1∧bb.m0.1≤5000)∧(-5000≤bb.m0.2∧bb.m0.2≤5000)) (hw:st.sd.writes=true→(0≤bb.mm∧bb.mm≤3)∧if bb.mm=3 then vecB bb.m0 else bb.m0=saidV bb.mm (vsOf G bb bb.r0).1) {e:E} (he:E34 q g t n 0 e) :
  NmP (fun e' g'=>E34 q g t n 1 e'∧VEnd P h c q t 45 (m+28) (st.sym 16 (vsOf G bb bb.r0).2 bb.mm) (fun v=>({ bb with mm:=(st.symV 16 (vsOf G bb bb.r0).2 bb.mm:Nat),m0:=v }:Bk).cs) bb.m0
   ((vectorP (st.symV 16 (vsOf G bb bb.r0).2 bb.mm:Nat) (saidV (st.symV 16 (vsOf G bb bb.r0).2 bb.mm:Nat) (vsOf G bb bb.r0).1) bb.m0).exec (st.sym 16 (vsOf G bb bb.r0).2 bb.mm)) g') (l34_1 KW loopZ e h):=by
 obtain ⟨e0,e1,e2,e35,e36⟩:=he
 obtain ⟨vk1,vk2,vk3⟩:=vsOf_ok ga.ok bb bb.r0 hr.1 hr.2
 obtain ⟨h1,h2,h3,h4,a1,a2,w3,w4,t1,t4,g48,hn2,a4,kp4⟩:=front34 a ga ht pt nt ig hr
 obtain ⟨l,hl⟩:∃ l,l=(vsOf G bb bb.r0).1:=⟨_,rfl⟩
 obtain ⟨n0,hn0⟩:∃ n0,n0=(vsOf G bb bb.r0).2:=⟨_,rfl⟩
 rw [← hl,← hn0] at a2
 rw [← hl] at w3 g48 vk1 vk2 hw ⊢
 rw [← hn0] at vk3 ⊢
 have tb:h2.n ≠ t∧h2.n ≠ q:=⟨fun h=>by have:=a.lt t pt;omega,fun h=>by have:=a.lt q a.pq;omega⟩
 have hmw:st.sd.writes=true→0≤bb.mm - 0∧bb.mm - 0 < (vl 16:Nat):=fun h=>by have:=(hw h).1;show _∧_ < ((4:Nat):Int);omega
 obtain ⟨_,h5,a5,rfl,R5⟩:=(symbol60_ok a4 (t:=t) (o:=16) (k:=16) (x:=n0) (v:=bb.mm) (f:=0) t4 (.inl pt) nt rfl (by omega) (by decide) (by show n0 < 3;omega) (by omega) (by decide) hmw).elim
 rw [Int.sub_zero,Int.add_zero] at R5
 have sl:st.symV 16 n0 bb.mm < 4:=St.symV_lt a.ok.1 (k:=16) (by decide) (by show n0 < 3;omega) (fun h=>by have:=hmw h;omega)
 have sw:st.sd.writes=true→((st.symV 16 n0 bb.mm:Nat):Int)=bb.mm:=fun h=>by rw [St.symV_w h];have:=(hw h).1;omega
 obtain ⟨s,hs⟩:∃ s,s=st.symV 16 n0 bb.mm:=⟨_,rfl⟩
 obtain ⟨st5,hst5⟩:∃ z,z=st.sym 16 n0 bb.mm:=⟨_,rfl⟩
 rw [← hs,← hst5] at R5
 rw [← hs] at sl sw
 rw [← hs,← hst5]
 have w5:st5.sd.writes=st.sd.writes:=by rw [hst5];exact St.sym_wr _ _ _ _
 obtain ⟨b1,hb1⟩:∃ b1:Bk,b1={ bb with mm:=(s:Nat) }:=⟨_,rfl⟩
 have t5:h5.get t=some (.cells b1.cs 45 false):=by rw [hb1];exact R5.box
 have a5':KW 60 [.ptr q 0,.int .i64 16,.int .i64 (n0:Nat),.int .i64 0,.ptr t 16] h4=some (.ret (.tup []),h5):=a5
 have S:Slot (fun v=>({ bb with mm:=(s:Nat),m0:=v }:Bk).cs) 17:=slot0 { bb with mm:=(s:Nat) }
 obtain ⟨_,h6,a6,rfl,V6⟩:=(vector66_ok (l:=l) (mode:=(s:Nat)) (v:=bb.m0) R5.co S (by rw [t5,hb1]) (.inl pt) nt (by omega) hv ⟨vk1,vk2⟩ (fun h=>by
  rw [w5] at h
  rw [sw h];exact (hw h).2)).elim
 have V6:=(V6.up (h:=h) a.pq (fun b hb=>.inl hb) (kp4.trans (R5.kp.mono fun i hi=>⟨.inl hi.1,hi.2⟩)))
 have rb:h.rdN t 0 23=some bb.cs:=by rw [rdN_of ht (by simp)];rfl
 have r14:h.rd1 t 14=some (.int .i64 bb.r0)∧h1.rd1 t 14=some (.int .i64 bb.r0):=⟨rd1_of ht,rd1_of t1⟩
 have q1:=rd1_of (o:=1) a.k
 have mm5:h5.rd1 t 16=some (.int .i64 (s:Nat)):=by rw [rd1_of t5,hb1];rfl
 have r58:h5.rdN h2.n 0 4=some [.int .i64 l.1.1,.int .i64 l.1.2,.int .i64 l.2.1,.int .i64 l.2.2]:=by
  rw [rdN_of ((R5.kp.get h2.n ⟨.inr rfl,tb.2,tb.1⟩).trans g48) (by simp)];rfl
 have hn':(0:Int) < n:=by omega
 have z1:IntKind.i64.wrap 1=1:=rfl
 simp [l34_1,z1,e36,e35,hn,hn',e0,q1,e2,rb,a1,r14.1,r14.2,e1,a2,nw,w3,w4,a5',mm5,r58,a6,ck4,NmP]
 exact ⟨⟨by simp [e0],by simp [e1],by simp [e2],by simp [e35],by simp⟩,V6⟩
theorem iter34_1 {P:Nat→Prop} {h:H} {c q t m:Nat} {st:St} (a:Co P h c q m st 0) {D:Nat→Prop} {g:Nat} {G:Gr} (ga:GridAt D h g G) {bb:Bk} (ht:h.get t=some (.cells bb.cs 45 false)) (pt:P t) (nt:t ≠ q) (ig:InG G bb) (hr:0≤bb.r1∧bb.r1≤2) (hm:m+27 < 100000000)
  (hv:(-5000≤bb.m1.1∧bb.m1.1≤5000)∧(-5000≤bb.m1.2∧bb.m1.2≤5000)) (hw:st.sd.writes=true→if bb.mm=3 then vecB bb.m1 else bb.m1=saidV bb.mm (vsOf G bb bb.r1).1) {e:E} (he:E34 q g t 2 1 e) :
  NmP (fun e' g'=>E34 q g t 2 2 e'∧VEnd P h c q t 45 (m+27) st (fun v=>({ bb with m1:=v }:Bk).cs) bb.m1 ((vectorP bb.mm (saidV bb.mm (vsOf G bb bb.r1).1) bb.m1).exec st) g') (l34_1 KW loopZ e h):=by
 obtain ⟨e0,e1,e2,e35,e36⟩:=he
 obtain ⟨vk1,vk2,vk3⟩:=vsOf_ok ga.ok bb bb.r1 hr.1 hr.2
 obtain ⟨h1,h2,h3,h4,a1,a2,w3,w4,t1,t4,g48,hn2,a4,kp4⟩:=front34 a ga ht pt nt ig hr
 obtain ⟨l,hl⟩:∃ l,l=(vsOf G bb bb.r1).1:=⟨_,rfl⟩
 rw [← hl] at a2
 rw [← hl] at w3 g48 vk1 vk2 hw ⊢
 obtain ⟨_,h6,a6,rfl,V6⟩:=(vector66_ok (l:=l) (mode:=bb.mm) (v:=bb.m1) a4 (slot1 bb) t4 (.inl pt) nt (by omega) hv ⟨vk1,vk2⟩ hw).elim
 have V6:=(V6.up (h:=h) a.pq (fun b hb=>.inl hb) kp4)
 have rb:h.rdN t 0 23=some bb.cs:=by rw [rdN_of ht (by simp)];rfl
 have r14:h.rd1 t 15=some (.int .i64 bb.r1)∧h1.rd1 t 15=some (.int .i64 bb.r1):=⟨rd1_of ht,rd1_of t1⟩
 have q1:=rd1_of (o:=1) a.k
 have mm5:h4.rd1 t 16=some (.int .i64 bb.mm):=by rw [rd1_of t4];rfl
 have r58:h4.rdN h2.n 0 4=some [.int .i64 l.1.1,.int .i64 l.1.2,.int .i64 l.2.1,.int .i64 l.2.2]:=by rw [rdN_of g48 (by simp)];rfl
 have z2:IntKind.i64.wrap 2=2:=rfl
 simp [l34_1,e36,e35,e0,q1,e2,rb,a1,r14.1,r14.2,e1,a2,nw,w3,w4,mm5,r58,a6,ck4,NmP,z2]
 exact ⟨⟨by simp [e0],by simp [e1],by simp [e2],by simp [e35],by simp⟩,V6⟩
end Go.Proofs.Ytbkmdnmncaakdaa
