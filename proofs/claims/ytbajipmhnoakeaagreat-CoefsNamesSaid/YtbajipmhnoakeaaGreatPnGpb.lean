import Derived.Test.YtbajipmhnoakeaaGreatPnGp
set_option linter.unusedVariables false
set_option linter.unusedSimpArgs false
set_option maxRecDepth 20000
namespace Go.Proofs.YtbajipmhnoakeaaGreat
open Go Go.Zf
open Go.Zf (wi64)
theorem loop34 {D:Nat→Prop} {h0:H} {k sp:Nat} {y vr:V} {r:List Tb} (hk:k < 32) (R:RowR D h0 vr r) (hsp:h0.get sp=some (.cells [.int .i64 (cx k),.int .i64 (vl k),y] 69 false)) (hl:r.length < 1000) (hs:∀ (i:Nat) (t:Tb),r[i]?=some t→t.c.length < 1000) {en:E}
   (e4:en.s [0,1,2,3,4,6,11,12,29,30,31] 4=.ptr sp 0) (e29:en.s [0,1,2,3,4,6,11,12,29,30,31] 29=vr) (e30:en.s [0,1,2,3,4,6,11,12,29,30,31] 30=.int .i64 r.length) (e31:en.s [0,1,2,3,4,6,11,12,29,30,31] 31=.int .i64 0) :
   ∃ s,loopZ (l26_0 KW loopZ) en h0=some s∧Ext h0 s.h∧Keeps [0,1,2,3,4,6,11,12,29,30,31] [0,1,3,11,12] s.e en∧((s.x=.ex 2∧TabsOk k r)∨(s.x=.rt∧s.e.s [0,1,2,3,4,6,11,12,29,30,31] 2=.int .i64 2∧¬ TabsOk k r)):=by
 have hv:=vl_le hk
 have loop:=loop_run (body:=l26_0 KW loopZ) (fun n e g=>Ext h0 g∧n≤r.length∧Keeps [0,1,2,3,4,6,11,12,29,30,31] [0,1,3,11,12] e en∧e.s [0,1,2,3,4,6,11,12,29,30,31] 4=.ptr sp 0∧e.s [0,1,2,3,4,6,11,12,29,30,31] 29=vr∧e.s [0,1,2,3,4,6,11,12,29,30,31] 30=.int .i64 r.length∧e.s [0,1,2,3,4,6,11,12,29,30,31] 31=.int .i64 ((r.length - n:Nat):Int)∧∀ (i:Nat) (t:Tb),i < r.length - n→r[i]?=some t→t.c.length=vl k∧TabOk t)
   (fun s=>Ext h0 s.h∧Keeps [0,1,2,3,4,6,11,12,29,30,31] [0,1,3,11,12] s.e en∧((s.x=.ex 2∧TabsOk k r)∨(s.x=.rt∧s.e.s [0,1,2,3,4,6,11,12,29,30,31] 2=.int .i64 2∧¬ TabsOk k r)))
   (fun n e g ⟨xg,hn,ke,p4,p29,p30,p31,ha⟩=>by
    have i0:=ke 0 (by simp);have i1:=ke 1 (by simp);have i3:=ke 3 (by simp);have i11:=ke 11 (by simp);have i12:=ke 12 (by simp)
    cases n with
    | zero =>
     simp [l26_0,p30,p31]
     refine ⟨xg,fun i hm=>?_,.inl ⟨rfl,fun i t ht=>ha i t ?_ ht⟩⟩
     ·simp only [List.mem_cons,List.not_mem_nil,or_false] at hm
      rcases hm with rfl | rfl | rfl | rfl | rfl <;> simp [i0,i1,i3,i11,i12]
     ·by_cases e:i < r.length
      ·exact e
      ·rw [List.getElem?_eq_none (by omega)] at ht;cases ht
    | succ n =>
     obtain ⟨c,hc⟩:∃ c,c=r.length - (n+1):=⟨_,rfl⟩
     have hc2:r.length - n=c+1:=by omega
     rw [← hc] at p31 ha
     have hcl:c < r.length:=by omega
     obtain ⟨t,ht⟩:∃ t,r[c]?=some t:=⟨r[c],List.getElem?_eq_getElem hcl⟩
     have z1:IntKind.i64.wrap ((c:Int)+1)=c+1:=wi64 (by omega) (by omega)
     obtain ⟨b,o,vc,q1,q2,q3,q4,U,_⟩:=(R.ext xg).tab ht
     obtain ⟨g2,hg2⟩:∃ g2,g2=(g.new (.cells [.nils,.int .i64 0] 76 false)).put g.n (.cells [vc,.int .i64 t.n] 76 false):=⟨_,rfl⟩
     have x2:Ext g g2:=by rw [hg2];exact ((Ext.refl g).new _).put (Nat.le_refl _) _
     have b2:g2.get g.n=some (.cells [vc,.int .i64 t.n] 76 false):=by rw [hg2,get_put_same (by rw [H.n_new];omega)]
     have gsp:g.get sp=_:=(xg.get sp (H.get_lt hsp)).trans hsp
     have gsp2:g2.get sp=_:=(x2.get sp (H.get_lt gsp)).trans gsp
     have U2:=U.ext x2
     have ul:=U2.1.len
     have hrt:∀ (P:Prop),¬ (t.c.length=vl k∧TabOk t)→¬ TabsOk k r:=fun _ h1 h2=>h1 (h2 c t ht)
     by_cases c1:t.c.length=vl k
     ·obtain ⟨w,g3,e58,rfl,x3⟩:=(check58_ok U2 (hs c t ht)).elim
      by_cases c2:TabOk t
      ·rw [if_pos c2] at e58
       simp [l26_0,p30,p31,hcl,show (c:Int) < r.length by omega,p29,q1,q4,nw,wrN_of (o:=0) get_new_same,splice,← hg2,rd1_of b2,ul,p4,rd1_of gsp2,show (t.c.length:Int)=vl k by omega,c1,rdN_of (o:=0) (n:=2) b2 (by simp),e58,z1]
       refine ⟨n,Nat.lt_succ_self n,(xg.trans x2).trans x3,by omega,fun i hm=>?_,by simp [p4],by simp [p29],by simp [p30],by simp [hc2],fun i s hi hs2=>?_⟩
       ·simp only [List.mem_cons,List.not_mem_nil,or_false] at hm
        rcases hm with rfl | rfl | rfl | rfl | rfl <;> simp [i0,i1,i3,i11,i12]
       ·by_cases e:i=c
        ·subst e;rw [ht] at hs2;cases hs2;exact ⟨c1,c2⟩
        ·exact ha i s (by omega) hs2
      ·rw [if_neg c2] at e58
       simp [l26_0,p30,p31,hcl,show (c:Int) < r.length by omega,p29,q1,q4,nw,wrN_of (o:=0) get_new_same,splice,← hg2,rd1_of b2,ul,p4,rd1_of gsp2,show (t.c.length:Int)=vl k by omega,c1,rdN_of (o:=0) (n:=2) b2 (by simp),e58]
       refine ⟨(xg.trans x2).trans x3,fun i hm=>?_,.inr ⟨rfl,by simp,hrt True fun h=>c2 h.2⟩⟩
       simp only [List.mem_cons,List.not_mem_nil,or_false] at hm
       rcases hm with rfl | rfl | rfl | rfl | rfl <;> simp [i0,i1,i3,i11,i12]
     ·simp [l26_0,p30,p31,hcl,show (c:Int) < r.length by omega,p29,q1,q4,nw,wrN_of (o:=0) get_new_same,splice,← hg2,rd1_of b2,ul,p4,rd1_of gsp2,show ¬ (t.c.length:Int)=vl k by omega,c1,gl_t,gk_t]
      refine ⟨xg.trans x2,fun i hm=>?_,.inr ⟨rfl,by simp,hrt True fun h=>c1 h.1⟩⟩
      simp only [List.mem_cons,List.not_mem_nil,or_false] at hm
      rcases hm with rfl | rfl | rfl | rfl | rfl <;> simp [i0,i1,i3,i11,i12])
 exact loop r.length en h0 ⟨Ext.refl h0,Nat.le_refl _,fun _ _=>rfl,e4,e29,e30,by rw [e31,Nat.sub_self];rfl,fun i t hi=>by omega⟩
theorem lt_of_get {α:Type} {l:List α} {i:Nat} {x:α} (h:l[i]?=some x):i < l.length:=by
 by_cases e:i < l.length
 · exact e
 · rw [List.getElem?_eq_none (by omega)] at h;cases h
theorem get_of_lt {α:Type} {l:List α} {i:Nat} (h:i < l.length):∃ x,l[i]?=some x:=⟨l[i],List.getElem?_eq_getElem h⟩
def RowsOk (S:List (List Tb)) (n:Nat):Prop:=∀ (k:Nat) (r:List Tb),k < n→S[k]?=some r→r.length=cx k∧TabsOk k r
theorem setOk_iff {S:List (List Tb)} (h:S.length=32):SetOk S ↔ RowsOk S 32 :=
 ⟨fun a k r _ hr=>a.2 k r hr,fun a=>⟨h,fun k r hr=>a k r (by have:=lt_of_get hr;omega) hr⟩⟩
theorem check34_ok {D:Nat→Prop} {h:H} {v:V} {S:List (List Tb)} (u:SetR D h v S) (sm:Small S):RT (fun w h'=>w=.int .i64 (if SetOk S then 0 else 2)∧Ext h h') (KW 26 [.agg [v]] h):=by
 obtain ⟨h1,b1,x1,g1,n1,u1⟩:=box25 u
 have ul:=u1.len
 rw [w26,f26,s26]
 by_cases c0:S.length=32
 · obtain ⟨w,h2,e53,rfl,x2⟩:=(shapes53_ok h1).elim
   have u2:=u1.ext x2
   have g2:h2.get h.n=_:=(x2.get _ (H.get_lt g1)).trans g1
   have loop:=loop_run (body:=l26_1 KW loopZ) (fun n e g=>Ext h2 g∧n≤32∧e.s [0,1,2,3,4,6,11,12,29,30,31] 1=.ptr h.n 0∧e.s [0,1,2,3,4,6,11,12,29,30,31] 11=.agg shV∧e.s [0,1,2,3,4,6,11,12,29,30,31] 12=.int .i64 ((32 - n:Nat):Int)∧RowsOk S (32 - n))
    (fun s=>Ext h2 s.h∧((s.x=.ex 0∧SetOk S)∨(s.x=.rt∧s.e.s [0,1,2,3,4,6,11,12,29,30,31] 2=.int .i64 2∧¬ SetOk S)))
    (fun n e g ⟨xg,hn,p1,p11,p12,ha⟩=>by
     cases n with
     | zero =>
      simp [l26_1,p12]
      exact ⟨xg,.inl ⟨rfl,(setOk_iff c0).mpr ha⟩⟩
     | succ n =>
      obtain ⟨k,hk⟩:∃ k,k=32 - (n+1):=⟨_,rfl⟩
      have hk2:32 - n=k+1:=by omega
      have hkl:k < 32:=by omega
      rw [← hk] at p12 ha
      obtain ⟨r,hr⟩:=get_of_lt (l:=S) (i:=k) (by omega)
      have z1:IntKind.i64.wrap ((k:Int)+1)=k+1:=wi64 (by omega) (by omega)
      obtain ⟨g3,hg3⟩:∃ g1,g1=(g.new (.cells [.int .i64 0,.int .i64 0,.bool false] 69 false)).put g.n (.cells [.int .i64 (cx k),.int .i64 (vl k),.bool (stp k)] 69 false):=⟨_,rfl⟩
      have y1:Ext g g3:=by rw [hg3];exact ((Ext.refl g).new _).put (Nat.le_refl _) _
      have r1:g3.get g.n=some (.cells [.int .i64 (cx k),.int .i64 (vl k),.bool (stp k)] 69 false):=by rw [hg3,get_put_same (by rw [H.n_new];omega)]
      have gb:g3.get h.n=_:=(y1.get _ (by have:=H.get_lt g2;have:=xg.n;omega)).trans ((xg.get _ (H.get_lt g2)).trans g2)
      have u3:=(u2.ext xg).ext y1
      obtain ⟨b,o,vr,q1,q2,R,_⟩:=u3.row hr
      have rl:=R.len
      have hsm:=sm.2 k r hr
      by_cases c1:r.length=cx k
      ·obtain ⟨s,j1,xs,ke,j3⟩:=loop34 (y:=.bool (stp k)) hkl R r1 hsm.1 hsm.2
        (en:=⟨[e.s [0,1,2,3,4,6,11,12,29,30,31] 0,.ptr h.n 0,e.s [0,1,2,3,4,6,11,12,29,30,31] 2,.int .i64 k,.ptr g.n 0,e.s [0,1,2,3,4,6,11,12,29,30,31] 6,.agg shV,.int .i64 k,vr,.int .i64 r.length,.int .i64 0],31,.int .i64 0⟩) (by simp) (by simp) (by simp) (by simp)
       have i1:=ke 1 (by simp);have i11:=ke 11 (by simp);have i12:=ke 12 (by simp)
       simp at i1 i11 i12
       obtain ⟨sx,se,sh⟩:=s
       simp only at xs j3 i1 i11 i12
       rw [c1] at j1 rl
       rcases j3 with ⟨rfl,ok⟩ | ⟨rfl,p2,ok⟩
       ·simp [l26_1,p12,hkl,show (k:Int) < 32 by omega,p11,shV_ix hkl,nw,wrN_of (o:=0) get_new_same,splice,← hg3,p1,rd1_of gb,q1,q2,rl,rd1_of r1,u3.ckv,R.ckv,j1,i12,z1]
        refine ⟨n,Nat.lt_succ_self n,(xg.trans y1).trans xs,by omega,by simp [i1],by simp [i11],by simp [hk2],fun k' r' hk' hr'=>?_⟩
        by_cases e:k'=k
        ·subst e;rw [hr] at hr';cases hr';exact ⟨c1,ok⟩
        ·exact ha k' r' (by omega) hr'
       ·simp [l26_1,p12,hkl,show (k:Int) < 32 by omega,p11,shV_ix hkl,nw,wrN_of (o:=0) get_new_same,splice,← hg3,p1,rd1_of gb,q1,q2,rl,rd1_of r1,u3.ckv,R.ckv,j1]
        exact ⟨(xg.trans y1).trans xs,.inr ⟨rfl,by simp [p2],fun h=>ok (h.2 k r hr).2⟩⟩
      ·simp [l26_1,p12,hkl,show (k:Int) < 32 by omega,p11,shV_ix hkl,nw,wrN_of (o:=0) get_new_same,splice,← hg3,p1,rd1_of gb,q1,q2,rl,rd1_of r1,c1,u3.ckv,R.ckv,show ¬ (r.length:Int)=cx k by omega]
       exact ⟨xg.trans y1,.inr ⟨rfl,by simp,fun h=>c1 (h.2 k r hr).1⟩⟩)
   obtain ⟨⟨sx,se,sh⟩,q1,q2,q3⟩:=loop 32 ⟨[.agg [v],.ptr h.n 0,.int .i64 0,.tup [],.tup [],.tup [],.agg shV,.int .i64 0,.tup [],.tup [],.tup []],12,.int .i64 0⟩ h2 ⟨Ext.refl h2,Nat.le_refl _,by simp,by simp,by simp,fun k r hk=>by omega⟩
   simp only at q2 q3
   rcases q3 with ⟨rfl,ok⟩ | ⟨rfl,p2,ok⟩
   ·simp [b1,rd1_of g1,ul,c0,e53,q1]
    exact ⟨by rw [if_pos ok],(x1.trans x2).trans q2⟩
   ·simp [b1,rd1_of g1,ul,c0,e53,q1,p2]
    exact ⟨by rw [if_neg ok],(x1.trans x2).trans q2⟩
 · simp [b1,rd1_of g1,ul,c0,show ¬ (S.length:Int)=32 by omega]
   exact ⟨by rw [if_neg fun a=>c0 a.1],x1⟩
open Go.Zf (wi64)
theorem loop37 {D:Nat→Prop} {h0:H} {k P R:Nat} {v:V} {S:List (List Tb)} {r:List Tb} (hk:k < 32) (hS:SetR D h0 v S) (hr:S[k]?=some r) (hP:h0.get P=some (.cells [v] 29 false)) (hR:h0.get R=some (.cells rowV 81 false)) (hl:r.length < 1000) (hs:∀ (i:Nat) (t:Tb),r[i]?=some t→t.c.length < 1000) {en:E}
   (e1:en.s [0,1,2,3,4,5] 1=.ptr P 0) (e3:en.s [0,1,2,3,4,5] 3=.sl R 0 32 (.ex 32)) (e4:en.s [0,1,2,3,4,5] 4=.int .i64 k) (e5:en.s [0,1,2,3,4,5] 5=.int .i64 0) :
   ∃ s,loopZ (l32_0 KW loopZ) en h0=some s∧Ext h0 s.h∧((s.x=.ex 2∧s.e.s [0,1,2,3,4,5] 1=.ptr P 0∧s.e.s [0,1,2,3,4,5] 3=.sl R 0 32 (.ex 32)∧s.e.s [0,1,2,3,4,5] 4=.int .i64 k∧TabsOk k r)∨(s.x=.rt∧s.e.s [0,1,2,3,4,5] 2=.int .i64 2∧¬ TabsOk k r)):=by
 have hv:=vl_le hk
 have q1r:=rowV_at3 hk (show 1 < 3 by omega)
 simp at q1r
 have loop:=loop_run (body:=l32_0 KW loopZ) (fun n e g=>Ext h0 g∧n≤r.length∧e.s [0,1,2,3,4,5] 1=.ptr P 0∧e.s [0,1,2,3,4,5] 3=.sl R 0 32 (.ex 32)∧e.s [0,1,2,3,4,5] 4=.int .i64 k∧e.s [0,1,2,3,4,5] 5=.int .i64 ((r.length - n:Nat):Int)∧∀ (i:Nat) (t:Tb),i < r.length - n→r[i]?=some t→t.c.length=vl k∧TabOk t)
   (fun s=>Ext h0 s.h∧((s.x=.ex 2∧s.e.s [0,1,2,3,4,5] 1=.ptr P 0∧s.e.s [0,1,2,3,4,5] 3=.sl R 0 32 (.ex 32)∧s.e.s [0,1,2,3,4,5] 4=.int .i64 k∧TabsOk k r)∨(s.x=.rt∧s.e.s [0,1,2,3,4,5] 2=.int .i64 2∧¬ TabsOk k r)))
   (fun n e g ⟨xg,hn,p1,p3,p4,p5,ha⟩=>by
    have u:=hS.ext xg
    obtain ⟨bR,oR,vr,a1,a2,RR,_⟩:=u.row hr
    have gP:g.get P=_:=(xg.get P (H.get_lt hP)).trans hP
    have gR:g.get R=_:=(xg.get R (H.get_lt hR)).trans hR
    have rl:=RR.len
    cases n with
    | zero =>
     simp [l32_0,p1,rd1_of gP,p4,a1,a2,rl,p5]
     exact ⟨xg,.inl ⟨rfl,by simp [p1],by simp [p3],by simp [p4],fun i t ht=>ha i t (by have:=lt_of_get ht;omega) ht⟩⟩
    | succ n =>
     obtain ⟨c,hc⟩:∃ c,c=r.length - (n+1):=⟨_,rfl⟩
     have hc2:r.length - n=c+1:=by omega
     rw [← hc] at p5 ha
     have hcl:c < r.length:=by omega
     obtain ⟨t,ht⟩:=get_of_lt hcl
     have z1:IntKind.i64.wrap ((c:Int)+1)=c+1:=wi64 (by omega) (by omega)
     obtain ⟨b,o,vc,b1,b2,b3,b4,U,_⟩:=RR.tab ht
     have ul:=U.1.len
     have us:=U.1.same
     have hrt:¬ (t.c.length=vl k∧TabOk t)→¬ TabsOk k r:=fun h1 h2=>h1 (h2 c t ht)
     by_cases c1:t.c.length=vl k
     ·obtain ⟨w,g3,e62,rfl,x3⟩:=(check62_ok U (hs c t ht)).elim
      rw [c1] at ul
      by_cases c2:TabOk t
      ·rw [if_pos c2] at e62
       simp [l32_0,p1,rd1_of gP,p4,a1,a2,rl,p5,hcl,show (c:Int) < r.length by omega,b1,b2,ul,p3,hk,show (k:Int) < 32 by omega,rd1_of gR,q1r,b4,e62,u.ckv,RR.ckv,U.1.ck,ck,us,V.same,V.sames,z1]
       have us2:=u.ckv (some ());have rs2:=RR.ckv (some ())
       simp [ck] at us2 rs2
       simp [us2,rs2]
       refine ⟨n,Nat.lt_succ_self n,xg.trans x3,by omega,by simp [p1],by simp [p3],by simp [p4],by simp [hc2,z1],fun i s hi hs2=>?_⟩
       by_cases e:i=c
       ·subst e;rw [ht] at hs2;cases hs2;exact ⟨c1,c2⟩
       ·exact ha i s (by omega) hs2
      ·rw [if_neg c2] at e62
       simp [l32_0,p1,rd1_of gP,p4,a1,a2,rl,p5,hcl,show (c:Int) < r.length by omega,b1,b2,ul,p3,hk,show (k:Int) < 32 by omega,rd1_of gR,q1r,b4,e62,ck,us,V.same,V.sames]
       have us2:=u.ckv (some ());have rs2:=RR.ckv (some ())
       simp [ck] at us2 rs2
       simp [us2,rs2]
       exact ⟨xg.trans x3,.inr ⟨rfl,by simp,hrt fun h=>c2 h.2⟩⟩
     ·simp [l32_0,p1,rd1_of gP,p4,a1,a2,rl,p5,hcl,show (c:Int) < r.length by omega,b1,b2,ul,p3,hk,show (k:Int) < 32 by omega,rd1_of gR,q1r,show ¬ (t.c.length:Int)=vl k by omega,c1,gl_t,gk_t,u.ckv,RR.ckv,U.1.ck]
      exact ⟨xg,.inr ⟨rfl,by simp,hrt fun h=>c1 h.1⟩⟩)
 exact loop r.length en h0 ⟨Ext.refl h0,Nat.le_refl _,e1,e3,e4,by rw [e5,Nat.sub_self];rfl,fun i t hi=>by omega⟩
theorem check37_ok {D:Nat→Prop} {h:H} {v:V} {S:List (List Tb)} (u:SetR D h v S) (sm:Small S):RT (fun w h'=>w=.int .i64 (if SetOk S then 0 else 2)∧Ext h h') (KW 32 [.agg [v]] h):=by
 obtain ⟨h1,b1,x1,g1,n1,u1⟩:=box25 u
 have ul:=u1.len
 rw [w32,f32,s32]
 by_cases c0:S.length=32
 · have e48:=rows48_ok h1
   obtain ⟨h2,hh2⟩:∃ g,g=h1.new (.cells rowV 81 false):=⟨_,rfl⟩
   have x2:Ext h1 h2:=by rw [hh2];exact (Ext.refl h1).new _
   have gR:h2.get h1.n=some (.cells rowV 81 false):=by rw [hh2,get_new_same]
   rw [← hh2] at e48
   have u2:=u1.ext x2
   have g2:h2.get h.n=_:=(x2.get _ (H.get_lt g1)).trans g1
   have loop:=loop_run (body:=l32_1 KW loopZ) (fun n e g=>Ext h2 g∧n≤32∧e.s [0,1,2,3,4,5] 1=.ptr h.n 0∧e.s [0,1,2,3,4,5] 3=.sl h1.n 0 32 (.ex 32)∧e.s [0,1,2,3,4,5] 4=.int .i64 ((32 - n:Nat):Int)∧RowsOk S (32 - n))
    (fun s=>Ext h2 s.h∧((s.x=.ex 0∧SetOk S)∨(s.x=.rt∧s.e.s [0,1,2,3,4,5] 2=.int .i64 2∧¬ SetOk S)))
    (fun n e g ⟨xg,hn,p1,p3,p4,ha⟩=>by
     cases n with
     | zero =>
      simp [l32_1,p4]
      exact ⟨xg,.inl ⟨rfl,(setOk_iff c0).mpr ha⟩⟩
     | succ n =>
      obtain ⟨k,hk⟩:∃ k,k=32 - (n+1):=⟨_,rfl⟩
      have hk2:32 - n=k+1:=by omega
      have hkl:k < 32:=by omega
      rw [← hk] at p4 ha
      obtain ⟨r,hr⟩:=get_of_lt (l:=S) (i:=k) (by omega)
      have z1:IntKind.i64.wrap ((k:Int)+1)=k+1:=wi64 (by omega) (by omega)
      have gb:g.get h.n=_:=(xg.get _ (H.get_lt g2)).trans g2
      have gRg:g.get h1.n=_:=(xg.get _ (H.get_lt gR)).trans gR
      have u3:=u2.ext xg
      obtain ⟨b,o,vr,q1,q2,R,_⟩:=u3.row hr
      have rl:=R.len
      have hsm:=sm.2 k r hr
      have q0r:=rowV_at3 hkl (show 0 < 3 by omega)
      simp at q0r
      by_cases c1:r.length=cx k
      ·obtain ⟨⟨sx,se,sh⟩,j1,xs,j3⟩:=loop37 (v:=v) (P:=h.n) (R:=h1.n) hkl u3 hr gb gRg hsm.1 hsm.2
        (en:=⟨[e.s [0,1,2,3,4,5] 0,.ptr h.n 0,e.s [0,1,2,3,4,5] 2,.sl h1.n 0 32 (.ex 32),.int .i64 k,.int .i64 0],5,.int .i64 0⟩) (by simp) (by simp) (by simp) (by simp)
       simp only at xs j3
       rw [c1] at rl
       rcases j3 with ⟨rfl,i1,i3,i4,ok⟩ | ⟨rfl,p2,ok⟩
       ·simp [l32_1,p4,hkl,show (k:Int) < 32 by omega,p1,rd1_of gb,q1,q2,rl,p3,rd1_of gRg,q0r,u3.ckv,R.ckv,j1,i4,z1]
        refine ⟨n,Nat.lt_succ_self n,xg.trans xs,by omega,by simp [i1],by simp [i3],by simp [hk2],fun k' r' hk' hr'=>?_⟩
        by_cases e:k'=k
        ·subst e;rw [hr] at hr';cases hr';exact ⟨c1,ok⟩
        ·exact ha k' r' (by omega) hr'
       ·simp [l32_1,p4,hkl,show (k:Int) < 32 by omega,p1,rd1_of gb,q1,q2,rl,p3,rd1_of gRg,q0r,u3.ckv,R.ckv,j1]
        exact ⟨xg.trans xs,.inr ⟨rfl,by simp [p2],fun h=>ok (h.2 k r hr).2⟩⟩
      ·simp [l32_1,p4,hkl,show (k:Int) < 32 by omega,p1,rd1_of gb,q1,q2,rl,p3,rd1_of gRg,q0r,u3.ckv,R.ckv,c1,show ¬ (r.length:Int)=cx k by omega]
       exact ⟨xg,.inr ⟨rfl,by simp,fun h=>c1 (h.2 k r hr).1⟩⟩)
   obtain ⟨⟨sx,se,sh⟩,q1,q2,q3⟩:=loop 32 ⟨[.agg [v],.ptr h.n 0,.int .i64 0,.sl h1.n 0 32 (.ex 32),.int .i64 0,.tup []],4,.int .i64 0⟩ h2 ⟨Ext.refl h2,Nat.le_refl _,by simp,by simp,by simp,fun k r hk=>by omega⟩
   simp only at q2 q3
   rcases q3 with ⟨rfl,ok⟩ | ⟨rfl,p2,ok⟩
   ·simp [b1,rd1_of g1,ul,c0,e48,q1]
    exact ⟨by rw [if_pos ok],(x1.trans x2).trans q2⟩
   ·simp [b1,rd1_of g1,ul,c0,e48,q1,p2]
    exact ⟨by rw [if_neg ok],(x1.trans x2).trans q2⟩
 · simp [b1,rd1_of g1,ul,c0,show ¬ (S.length:Int)=32 by omega]
   exact ⟨by rw [if_neg fun a=>c0 a.1],x1⟩
open Go.Zf (wi64)
theorem apZ_nil0 {D:Nat→Prop} {h:H} {v:V} {e z bytes n:Nat} {cs:List V} (a:SlR D h v e z n cs) (hb:n*bytes≤140737488355328) :
   ∃ v' h',apZ e z bytes h .nils v=some (v',h')∧GrowV h.n h' v' e z cs n∧Ext h h':=by
 obtain ⟨v',h',k1,k2,k3,k4,k5⟩:=apZ_grow (GrowV.nil h.n h e z) (Nat.le_refl _) a.lenOf a.first a.length (by simpa using hb)
 exact ⟨v',h',k1,by simpa using k2,k3,fun c hc=>k4 c hc fun o n k e=>by cases e⟩
theorem rd1_ext {h h':H} (x:Ext h h') {b o:Nat} {v:V} (hb:b < h.n) (e:h.rd1 b o=some v):h'.rd1 b o=some v:=by
 unfold H.rd1 at e ⊢;rw [x.get b hb];exact e
structure I11 (h0:H) (k:Nat) (r:List Tb) (P p2 Q:Nat) (n:Nat) (e:E) (g:H):Prop where
 hn:n≤r.length
 x:∀ c,c < h0.n→g.get c=h0.get c
 gn:h0.n≤g.n
 ro:∃ v,e.s [0,1,2,3,4,5,6,7] 5=v∧RowG h0.n g v (r.take (r.length - n))
 e1:e.s [0,1,2,3,4,5,6,7] 1=.ptr P 0
 e2:e.s [0,1,2,3,4,5,6,7] 2=.ptr p2 0
 e3:e.s [0,1,2,3,4,5,6,7] 3=.ptr Q 0
 e4:e.s [0,1,2,3,4,5,6,7] 4=.int .i64 k
 e6:e.s [0,1,2,3,4,5,6,7] 6=.int .i64 ((r.length - n:Nat):Int)
theorem take_snoc {α:Type} {l:List α} {i:Nat} {x:α} (h:l[i]?=some x):l.take (i+1)=l.take i ++ [x]:=by
 rw [List.take_add_one,h];rfl
theorem loop11 {D:Nat→Prop} {h0:H} {k P p2 Q:Nat} {v:V} {S:List (List Tb)} {r:List Tb} (hS:SetR D h0 v S) (hr:S[k]?=some r) (hP:h0.get P=some (.cells [v] 29 false)) (hl:r.length < 1000) (hs:∀ (i:Nat) (t:Tb),r[i]?=some t→t.c.length < 1000) {e:E} {g:H} (hi:I11 h0 k r P p2 Q r.length e g) :
   ∃ e' g',loopZ (l34_0 KW loopZ) e g=some ⟨.ex 2,e',g'⟩∧I11 h0 k r P p2 Q 0 e' g':=by
 have loop:=loop_run (body:=l34_0 KW loopZ) (I11 h0 k r P p2 Q) (fun s=>s.x=.ex 2∧I11 h0 k r P p2 Q 0 s.e s.h)
   (fun n e g hi=>by
    obtain ⟨hn,x,gn,⟨vo,e5,G⟩,e1,e2,e3,e4,e6⟩:=hi
    have u:SetR D g v S:=hS.keep fun b _ hb=>x b hb
    obtain ⟨bR,oR,vr,a1,a2,RR,_,hbR⟩:=u.row hr
    have gP:g.get P=_:=(x P (H.get_lt hP)).trans hP
    have rl:=RR.len
    cases n with
    | zero =>
     simp [l34_0,e1,rd1_of gP,e4,a1,a2,rl,e6]
     exact ⟨rfl,hn,x,gn,⟨vo,by simp [e5],G⟩,by simp [e1],by simp [e2],by simp [e3],by simp [e4],by simp [e6]⟩
    | succ n =>
     obtain ⟨c,hc⟩:∃ c,c=r.length - (n+1):=⟨_,rfl⟩
     have hc2:r.length - n=c+1:=by omega
     rw [← hc] at e6 G
     have hcl:c < r.length:=by omega
     obtain ⟨t,ht⟩:=get_of_lt hcl
     have z1:IntKind.i64.wrap ((c:Int)+1)=c+1:=wi64 (by omega) (by omega)
     obtain ⟨b,o,vc,b1,b2,b3,b4,U,_,hb⟩:=RR.tab ht
     have htl:=hs c t ht
     -- the table's box
     obtain ⟨g1,hg1⟩:∃ g1,g1=(g.new (.cells [.nils,.int .i64 0] 76 false)).put g.n (.cells [.nils,.int .i64 t.n] 76 false):=⟨_,rfl⟩
     have x1:Ext g g1:=by rw [hg1];exact ((Ext.refl g).new _).put (Nat.le_refl _) _
     have n1:g1.n=g.n+1:=by rw [hg1,H.n_put,H.n_new]
     have r1:g1.get g.n=some (.cells [.nils,.int .i64 t.n] 76 false):=by rw [hg1,get_put_same (by rw [H.n_new];omega)]
     have gP1:g1.get P=_:=(x1.get _ (H.get_lt gP)).trans gP
     have a21:=rd1_ext x1 hbR a2
     have b21:=rd1_ext x1 hb b2
     have U1:=U.ext x1
     obtain ⟨v',g2,k1,k2,k3⟩:=apZ_nil0 (e:=97) (z:=1) (bytes:=2) U1.1 (by omega)
     have n2:=k3.n
     have r2:g2.get g.n=_:=(k3.get _ (H.get_lt r1)).trans r1
     obtain ⟨g3,hg3⟩:∃ g3,g3=g2.put g.n (.cells [v',.int .i64 t.n] 76 false):=⟨_,rfl⟩
     have n3:g3.n=g2.n:=by rw [hg3,H.n_put]
     have r3:g3.get g.n=some (.cells [v',.int .i64 t.n] 76 false):=by rw [hg3,get_put_same (H.get_lt r2)]
     have G3:GrowV g1.n g3 v' 97 1 (wordsV t.c) t.c.length:=by rw [hg3];exact k2.put (k2.fresh.ne (by omega))
     have x3:Ext g g3:=by rw [hg3];exact (x1.trans k3).put (Nat.le_refl _) _
     have U3:U16 (fun b=>h0.n≤b) g3 v' t.c:=⟨GrowV.slr G3 fun b hb=>by show h0.n≤b;omega,U1.2⟩
     obtain ⟨v5,g5,c1,c2,c3,c4⟩:=(G.ext x3).push U3 (by omega) (by rw [List.length_take];omega)
     simp [l34_0,e1,rd1_of gP,e4,a1,a2,rl,e6,hcl,show (c:Int) < r.length by omega,b1,b3,nw,bl,fillW,wrN_of (o:=0) get_new_same,splice,← hg1,rd1_of r1,rd1_of gP1,a21,b21,k1,k2.stZ,wr1_of (o:=0) r2,← hg3,u.ckv,RR.ckv,U1.1.ck,rdN_of (o:=0) (n:=2) r3 (by simp),bs,k2.cells,e5,c1,z1]
     exact ⟨n,Nat.lt_succ_self n,by omega,fun d hd=>by rw [c4 d hd,x3.get d (by omega),x d hd],by omega,⟨v5,by simp,by rw [hc2,take_snoc ht];exact c2⟩,by simp [e1],by simp [e2],by simp [e3],by simp [e4],by simp [hc2]⟩)
 obtain ⟨⟨x,e',g'⟩,r1,r2,r3⟩:=loop r.length e g hi
 simp only at r2 r3
 subst r2
 exact ⟨e',g',r1,r3⟩
structure O11 (h0:H) (S:List (List Tb)) (P P2 Q:Nat) (n:Nat) (e:E) (g:H):Prop where
 hn:n≤S.length
 x:∀ c,c < h0.n→c ≠ Q→g.get c=h0.get c
 gn:h0.n≤g.n
 b:SetG h0.n Q g (S.take (S.length - n))
 e1:e.s [0,1,2,3,4,5,6,7] 1=.ptr P 0
 e2:e.s [0,1,2,3,4,5,6,7] 2=.ptr P2 0
 e3:e.s [0,1,2,3,4,5,6,7] 3=.ptr Q 0
 e4:e.s [0,1,2,3,4,5,6,7] 4=.int .i64 ((S.length - n:Nat):Int)
theorem copy11_ok {D:Nat→Prop} {h:H} {v:V} {S:List (List Tb)} (u:SetR D h v S) (sm:Small S):RT (fun w h'=>∃ v',w=.agg [v']∧SetW (fun b=>h.n≤b) h' v' S∧Ext h h') (KW 34 [.agg [v]] h):=by
 obtain ⟨h1,b1,x1,g1,n1,u1⟩:=box25 u
 obtain ⟨h2,hh2⟩:∃ g,g=h1.new (.cells [.nils] 29 false):=⟨_,rfl⟩
 obtain ⟨h3,hh3⟩:∃ g,g=h2.new (.cells [.nils] 29 false):=⟨_,rfl⟩
 have x2:Ext h1 h2:=by rw [hh2];exact (Ext.refl h1).new _
 have x3:Ext h2 h3:=by rw [hh3];exact (Ext.refl h2).new _
 have n2:h2.n=h1.n+1:=by rw [hh2,H.n_new]
 have n3:h3.n=h2.n+1:=by rw [hh3,H.n_new]
 have gP:h3.get h.n=some (.cells [v] 29 false):=by rw [x3.get _ (by omega),x2.get _ (by omega),g1]
 have gP2:h3.get h1.n=some (.cells [.nils] 29 false):=by rw [x3.get _ (by omega),hh2,get_new_same]
 have gQ:h3.get h2.n=some (.cells [.nils] 29 false):=by rw [hh3,get_new_same]
 have u3:SetR (fun b=>b < h.n) h3 v S:=((u.mono (E:=fun b=>b < h.n) fun b hb _=>hb).ext x1).ext x2 |>.ext x3
 have ul:=u3.len
 have loop:=loop_run (body:=l34_1 KW loopZ) (O11 h3 S h.n h1.n h2.n) (fun s=>s.x=.ex 0∧O11 h3 S h.n h1.n h2.n 0 s.e s.h)
   (fun n e g hi=>by
    obtain ⟨hn,x,gn,b,e1,e2,e3,e4⟩:=hi
    have gPg:g.get h.n=some (.cells [v] 29 false):=by rw [x _ (by omega) (by omega),gP]
    cases n with
    | zero =>
     simp [l34_1,e1,rd1_of gPg,ul,e4]
     exact ⟨rfl,hn,x,gn,b,by simp [e1],by simp [e2],by simp [e3],by simp [e4]⟩
    | succ n =>
     obtain ⟨k,hk⟩:∃ k,k=S.length - (n+1):=⟨_,rfl⟩
     have hk2:S.length - n=k+1:=by omega
     have hkl:k < S.length:=by omega
     rw [← hk] at e4 b
     have hS:=sm.1
     obtain ⟨r,hr⟩:=get_of_lt hkl
     have hsm:=sm.2 k r hr
     have z1:IntKind.i64.wrap ((k:Int)+1)=k+1:=wi64 (by omega) (by omega)
     have ug:SetR (fun b=>b < h.n) g v S:=u3.keep fun b hb hb2=>x b hb2 (by have hb:b < h.n:=hb;omega)
     obtain ⟨f,g1,j1,I⟩:=loop11 (h0:=g) (k:=k) (P:=h.n) (p2:=h1.n) (Q:=h2.n) ug hr gPg hsm.1 hsm.2 (e:=⟨[e.s [0,1,2,3,4,5,6,7] 0,.ptr h.n 0,.ptr h1.n 0,.ptr h2.n 0,.int .i64 k,.nils,.int .i64 0,e.s [0,1,2,3,4,5,6,7] 7],6,.int .i64 0⟩) (g:=g)
      ⟨Nat.le_refl _,fun _ _=>rfl,Nat.le_refl _,⟨.nils,by simp,by rw [Nat.sub_self];exact RowG.nil _ _⟩,by simp,by simp,by simp,by simp,by simp⟩
     obtain ⟨_,x',gn',⟨vr,f5,G⟩,f1,f2,f3,f4,f6⟩:=I
     rw [Nat.sub_zero,List.take_length] at G
     obtain ⟨ov,v',g2,g3,c1,c2,c3,c4,c5,c6,c7,c8⟩:=b.push (by omega) x' gn' gn (G.rowW gn' fun b hb=>Nat.le_trans gn hb) (by rw [List.length_take];omega)
     simp [l34_1,e1,rd1_of gPg,ul,e4,show (k:Int) < S.length by omega,hkl,e2,e3,j1,f3,rd1_of c1,f5,bs,fillW,G.cells,splice,c2,c4,c3,f4,z1]
     exact ⟨n,Nat.lt_succ_self n,by omega,fun c hc hcq=>by rw [c6 c hc hcq,x c hc hcq],by omega,by rw [hk2,take_snoc hr];exact c5,by simp [f1],by simp [f2],by simp [f3],by simp [hk2]⟩)
 obtain ⟨⟨sx,se,sh⟩,q1,q2,I⟩:=loop S.length ⟨[.agg [v],.ptr h.n 0,.ptr h1.n 0,.ptr h2.n 0,.int .i64 0,.tup [],.tup [],.tup []],4,.int .i64 0⟩ h3 ⟨Nat.le_refl _,fun _ _ _=>rfl,Nat.le_refl _,by rw [Nat.sub_self];exact SetG.nil gQ,by simp,by simp,by simp,by simp⟩
 simp only at q2 I
 subst q2
 obtain ⟨_,x,gn,b,e1,e2,e3,e4⟩:=I
 obtain ⟨v',sQ,W⟩:=b.setW
 have sP:sh.get h1.n=some (.cells [.nils] 29 false):=by rw [x _ (by omega) (by omega),gP2]
 obtain ⟨h8,hh8⟩:∃ g,g=sh.put h1.n (.cells [v'] 29 false):=⟨_,rfl⟩
 have r8:h8.get h1.n=some (.cells [v'] 29 false):=by rw [hh8,get_put_same (H.get_lt sP)]
 rw [w34,f34,s34]
 simp [b1,nw,← hh2,← hh3,q1,e3,rdN_of (o:=0) (n:=1) sQ (by simp),e2,wrN_of (o:=0) sP,splice,← hh8,rdN_of (o:=0) (n:=1) r8 (by simp)]
 rw [Nat.sub_zero,List.take_length] at W
 refine ⟨v',rfl,?_,?_⟩
 · have W8:SetW (fun b=>h3.n≤b) h8 v' S:=W.keep fun b hb _=>by rw [hh8,get_put_ne];have hb:h3.n≤b:=hb;omega
   exact W8.mono fun b _ hb=>by have hb:h3.n≤b:=hb;show h.n≤b;omega
 · refine ⟨by rw [hh8,H.n_put];omega,fun c hc=>?_⟩
   rw [hh8,get_put_ne (by omega),x c (by omega) (by omega),x3.get c (by omega),x2.get c (by omega),x1.get c hc]
open Go.Zf (wi64)
theorem clone63_ok {D:Nat→Prop} {h:H} {v:V} {r:List Tb} {cs:List V} (u:SlR D h v tT 2 r.length cs) (hl:r.length < 1000):RT (fun w h'=>NewS h.n h' w tT 2 cs r.length∧Ext h h') (KW 63 [v] h):=by
 rw [w63,f63,s63]
 rcases u with ⟨rfl,h2,h3⟩ | ⟨b,o,k,c,hv,h2,h3,h4,h5⟩
 · simp
   exact ⟨.inl ⟨rfl,h2,h3⟩,Ext.refl h⟩
 · obtain ⟨v',h',k1,k2,k3,k4⟩:=apZ_clone (D:=D) (n:=r.length) (cs:=cs) (bytes:=32) (.inr ⟨b,o,k,c,hv,h2,h3,h4,h5⟩) (by omega)
   have hn:binK 3 .eql v .nils=some (.bool false):=by rw [hv];rfl
   simp [hn,bs,fillW,k1]
   exact ⟨k2,k3⟩
structure I38 (h0:H) (q bb:Nat) (r:List Tb) (P2 Q k:Nat) (vr v13:V) (len:Nat) (n:Nat) (e:E) (g:H):Prop where
 hn:n≤r.length
 x:∀ c,c < h0.n→c ≠ bb→g.get c=h0.get c
 gn:h0.n≤g.n
 ro:∃ cs,g.get bb=some (.cells cs tT false)∧cs.length=r.length*2∧Els (fun c=>q≤c) g cs (r.take (r.length - n))∧∀ (i:Nat) (t:Tb),r[i]?=some t→cs[2*i+1]?=some (.int .i64 t.n)
 e2:e.s [0,1,2,3,4,5,6,13,14,15,27,28] 2=.ptr P2 0
 e3:e.s [0,1,2,3,4,5,6,13,14,15,27,28] 3=.ptr Q 0
 e4:e.s [0,1,2,3,4,5,6,13,14,15,27,28] 4=.int .i64 k
 e5:e.s [0,1,2,3,4,5,6,13,14,15,27,28] 5=vr
 e13:e.s [0,1,2,3,4,5,6,13,14,15,27,28] 13=v13
 e14:e.s [0,1,2,3,4,5,6,13,14,15,27,28] 14=.int .i64 len
 e15:e.s [0,1,2,3,4,5,6,13,14,15,27,28] 15=.int .i64 k
 e27:e.s [0,1,2,3,4,5,6,13,14,15,27,28] 27=.int .i64 r.length
 e28:e.s [0,1,2,3,4,5,6,13,14,15,27,28] 28=.int .i64 ((r.length - n:Nat):Int)
theorem set_get {cs:List V} {o j:Nat} {x:V} (hl:o < cs.length):(cs.set o x)[j]?=if j=o then some x else cs[j]?:=by
 rw [List.getElem?_set]
 by_cases e:o=j
 · subst e;simp [hl]
 · rw [if_neg e,if_neg (fun h=>e h.symm)]
theorem loop38 {D:Nat→Prop} {h0:H} {q bb P2 Q k len bT:Nat} {vr v13:V} {r:List Tb} {rc:List V} {kk:Cap} (RR:RowR D h0 vr r) (hD:∀ b,D b→b ≠ bb) (hbb:bb < h0.n) (hq:q≤h0.n) (hQ:h0.get Q=some (.cells [.sl bT 0 len (.ex len)] 29 false)) (hT:h0.get bT=some (.cells rc 73 false)) (hk:rc[k]?=some (.sl bb 0 r.length kk)) (hkl:k < len) (hQb:Q ≠ bb) (hTb:bT ≠ bb) (hl:r.length < 1000) (hs:∀ (i:Nat) (t:Tb),r[i]?=some t→t.c.length < 1000) {e:E} {g:H} (hi:I38 h0 q bb r P2 Q k vr v13 len r.length e g) :
   ∃ e' g',loopZ (l28_0 KW loopZ) e g=some ⟨.ex 2,e',g'⟩∧I38 h0 q bb r P2 Q k vr v13 len 0 e' g':=by
 have loop:=loop_run (body:=l28_0 KW loopZ) (I38 h0 q bb r P2 Q k vr v13 len) (fun s=>s.x=.ex 2∧I38 h0 q bb r P2 Q k vr v13 len 0 s.e s.h)
   (fun n e g hi=>by
    obtain ⟨hn,x,gn,⟨cs,B,L,G,N⟩,e2,e3,e4,e5,e13,e14,e15,e27,e28⟩:=hi
    have R:RowR D g vr r:=RR.keep fun b hb hb2=>x b hb2 (hD b hb)
    cases n with
    | zero =>
     simp [l28_0,e27,e28]
     exact ⟨rfl,hn,x,gn,⟨cs,B,L,G,N⟩,by simp [e2],by simp [e3],by simp [e4],by simp [e5],by simp [e13],by simp [e14],by simp [e15],by simp [e27],by simp [e28]⟩
    | succ n =>
     obtain ⟨c,hc⟩:∃ c,c=r.length - (n+1):=⟨_,rfl⟩
     have hc2:r.length - n=c+1:=by omega
     rw [← hc] at e28 G
     have hcl:c < r.length:=by omega
     obtain ⟨t,ht⟩:=get_of_lt hcl
     have z1:IntKind.i64.wrap ((c:Int)+1)=c+1:=wi64 (by omega) (by omega)
     obtain ⟨b,o,vc,b1,b2,b3,b4,U,_,hb⟩:=R.tab ht
     obtain ⟨v',g1,a1,S1,x1,_⟩:=(clone61_ok U (hs c t ht)).elim
     have n1:=x1.n
     have gQ:g.get Q=_:=(x Q (H.get_lt hQ) hQb).trans hQ
     have gT:g.get bT=_:=(x bT (H.get_lt hT) hTb).trans hT
     have gQ1:g1.get Q=_:=(x1.get _ (H.get_lt gQ)).trans gQ
     have gT1:g1.get bT=_:=(x1.get _ (H.get_lt gT)).trans gT
     have B1:g1.get bb=_:=(x1.get _ (H.get_lt B)).trans B
     have U1:U16 (fun b=>q≤b) g1 v' t.c:=⟨S1.slr fun b hb _=>by show q≤b;omega,U.2⟩
     have hv':=U1.1.stZ
     obtain ⟨g2,hg2⟩:∃ g2,g2=g1.put bb (.cells (cs.set (c*2) v') 76 false):=⟨_,rfl⟩
     have hw:g1.wr1 bb (c*2) v'=some g2:=by rw [wr1_of B1 (by omega),hg2]
     have hkeep:∀ b c,g1.get b=some (.cells c tU false)→g2.get b=g1.get b:=fun b c hbc=>by
      rw [hg2,get_put_ne];rintro rfl;rw [B1] at hbc;cases hbc
     have G2:Els (fun b=>q≤b) g2 (cs.set (c*2) v') (r.take (c+1)):=by
      intro i s hs2
      have hil:=lt_of_get hs2
      rw [List.length_take] at hil
      rw [List.getElem?_take,if_pos (by omega)] at hs2
      rw [set_get (by omega),set_get (by omega),if_neg (show ¬ 2*i+1=c*2 by omega),N i s hs2]
      by_cases e:i=c
      ·subst e
       rw [ht] at hs2;cases hs2
       exact ⟨v',by rw [if_pos (show 2*i=i*2 by omega)],rfl,U1.keep fun b c _ hb=>hkeep b c hb⟩
      ·obtain ⟨vc',k1,k2,k3⟩:=G i s (by rw [List.getElem?_take,if_pos (by omega),hs2])
       exact ⟨vc',by rw [if_neg (show ¬ 2*i=c*2 by omega),k1],rfl,(k3.ext x1).keep fun b c _ hb=>hkeep b c hb⟩
     simp [l28_0,e27,e28,hcl,show (c:Int) < r.length by omega,e5,b1,b2,a1,e3,rd1_of gQ1,e4,hkl,show (k:Int) < len by omega,rd1_of gT1,hk,hv',hw,rd1_of gQ,rd1_of gT,U.1.ck,z1]
     exact ⟨n,Nat.lt_succ_self n,by omega,fun d hd hdb=>by rw [hg2,get_put_ne hdb,x1.get d (by omega),x d hd hdb],by rw [hg2,H.n_put];omega,⟨_,by rw [hg2,get_put_same (H.get_lt B1)],by rw [List.length_set,L],by rw [hc2];exact G2,fun i s hs2=>by rw [set_get (by omega),if_neg (show ¬ 2*i+1=c*2 by omega),N i s hs2]⟩,by simp [e2],by simp [e3],by simp [e4],by simp [e5],by simp [e13],by simp [e14],by simp [e15],by simp [e27],by simp [hc2]⟩)
 obtain ⟨⟨x,e',g'⟩,r1,r2,r3⟩:=loop r.length e g hi
 simp only at r2 r3
 subst r2
 exact ⟨e',g',r1,r3⟩
def Full (S:List (List Tb)):Prop:=∀ (i:Nat) (r:List Tb),S[i]?=some r→r ≠ []
theorem SetOk.full {S:List (List Tb)} (a:SetOk S):Full S:=fun i r hr e=>by
 have h1:=(a.2 i r hr).1
 have hk:=lt_of_get hr
 rw [a.1] at hk
 have:=cx_le hk
 rw [e] at h1;simp at h1;omega
def PartR (D:Nat→Prop) (g:H) (cs:List V) (S:List (List Tb)) (k:Nat) (B:Nat→Nat):Prop :=
 (∀ (i:Nat) (r:List Tb),i < k→S[i]?=some r→∃ vr,cs[i]?=some vr∧RowW D g vr (B i) r)∧(Full S→∀ i j,i < j→j < k→B i < B j)∧(Full S→∀ i,i < k→B i < g.n)
def SetP (D:Nat→Prop) (h:H) (v:V) (S:List (List Tb)):Prop :=
 ∃ cs B b k,v=.sl b 0 S.length k∧h.get b=some (.cells cs tR false)∧cs.length=S.length∧(D b∧CapOk 1 S.length k)∧PartR D h cs S S.length B
theorem SetP.setR {D:Nat→Prop} {h:H} {v:V} {S:List (List Tb)} (a:SetP D h v S):SetR D h v S:=by
 obtain ⟨cs,B,b,k,rfl,h1,h2,h3,h4⟩:=a
 exact ⟨cs,SlR.of h1 (by omega) h3.1 h3.2,fun i r hr=>by obtain ⟨vr,k1,k2⟩:=h4.1 i r (lt_of_get hr) hr;exact ⟨vr,k1,k2.rowR⟩⟩
theorem SetP.setW {D:Nat→Prop} {h:H} {v:V} {S:List (List Tb)} (a:SetP D h v S) (f:Full S):SetW D h v S:=by
 obtain ⟨cs,B,b,k,rfl,h1,h2,h3,h4⟩:=a
 exact ⟨cs,B,.inr ⟨b,k,rfl,h1,h2,h3⟩,fun i r hr=>h4.1 i r (lt_of_get hr) hr,fun i j hij hj=>h4.2.1 f i j hij hj⟩
structure O38 (h0:H) (S:List (List Tb)) (P2 Q bT:Nat) (v:V) (n:Nat) (e:E) (g:H):Prop where
 hn:n≤S.length
 x:∀ c,c < h0.n→c ≠ bT→g.get c=h0.get c
 gn:h0.n≤g.n
 b:∃ cs B,g.get bT=some (.cells cs tR false)∧cs.length=S.length∧PartR (fun b=>h0.n≤b) g cs S (S.length - n) B
 e2:e.s [0,1,2,3,4,5,6,13,14,15,27,28] 2=.ptr P2 0
 e3:e.s [0,1,2,3,4,5,6,13,14,15,27,28] 3=.ptr Q 0
 e13:e.s [0,1,2,3,4,5,6,13,14,15,27,28] 13=v
 e14:e.s [0,1,2,3,4,5,6,13,14,15,27,28] 14=.int .i64 S.length
 e15:e.s [0,1,2,3,4,5,6,13,14,15,27,28] 15=.int .i64 ((S.length - n:Nat):Int)
theorem PartR.next {p:Nat} {g g':H} {cs:List V} {S:List (List Tb)} {k bT bb:Nat} {B:Nat→Nat} {w:V} {r:List Tb} (a:PartR (fun b=>p≤b) g cs S k B) (hk:k < cs.length) (hr:S[k]?=some r) (hT:g.get bT=some (.cells cs tR false)) (hg:∀ c,c < g.n→c ≠ bT→g'.get c=g.get c) (hn:g.n≤g'.n) (hw:RowW (fun b=>p≤b) g' w bb r) (hbb:r ≠ []→g.n≤bb∧bb < g'.n) :
   ∃ B',PartR (fun b=>p≤b) g' (cs.set k w) S (k+1) B':=by
 refine ⟨fun i=>if i=k then bb else B i,fun i s hi hs=>?_,fun f i j hij hj=>?_,fun f i hi=>?_⟩
 · rw [set_get hk]
   by_cases e:i=k
   ·subst e
    rw [hr] at hs;cases hs
    exact ⟨w,by rw [if_pos rfl],by simp only [if_true];exact hw⟩
   ·obtain ⟨vr,k1,k2⟩:=a.1 i s (by omega) hs
    refine ⟨vr,by rw [if_neg e,k1],?_⟩
    simp only [if_neg e]
    refine k2.keep fun b c t _ ht hb=>hg b (H.get_lt hb) ?_
    rintro rfl
    rw [hT] at hb
    simp only [Option.some.injEq,Blk.cells.injEq] at hb
    rcases ht with rfl | rfl <;> (obtain ⟨_,hb,_⟩:=hb;cases hb)
 · have hb:=hbb (f k r hr)
   by_cases ej:j=k
   ·simp only [if_neg (show i ≠ k by omega),if_pos ej]
    have:=a.2.2 f i (by omega);omega
   ·simp only [if_neg (show i ≠ k by omega),if_neg ej]
    exact a.2.1 f i j hij (by omega)
 · have hb:=hbb (f k r hr)
   by_cases ei:i=k
   ·simp only [if_pos ei];exact hb.2
   ·simp only [if_neg ei]
    have:=a.2.2 f i (by omega);omega
open Go.Zf (wi64)
theorem Els.none (D:Nat→Prop) (h:H) (cs:List V) {r:List Tb}:Els D h cs (r.take 0):=fun i t hi=>by simp at hi
theorem copy38_ok {D:Nat→Prop} {h:H} {v:V} {S:List (List Tb)} (u:SetR D h v S) (sm:Small S):RT (fun w h'=>∃ v',w=.agg [v']∧SetP (fun b=>h.n≤b) h' v' S∧Ext h h') (KW 28 [.agg [v]] h):=by
 have hS:=sm.1
 obtain ⟨h1,b1,x1,g1,n1,u1⟩:=box25 u
 obtain ⟨h2,hh2⟩:∃ g,g=h1.new (.cells [.nils] 29 false):=⟨_,rfl⟩
 have x2:Ext h1 h2:=by rw [hh2];exact (Ext.refl h1).new _
 have n2:h2.n=h1.n+1:=by rw [hh2,H.n_new]
 obtain ⟨h3,hh3⟩:∃ g,g=h2.new (.cells (reps S.length [.nils]) 73 false):=⟨_,rfl⟩
 have x3:Ext h2 h3:=by rw [hh3];exact (Ext.refl h2).new _
 have n3:h3.n=h2.n+1:=by rw [hh3,H.n_new]
 obtain ⟨h4,hh4⟩:∃ g,g=(h3.new (.cells [.nils] 29 false)).put h3.n (.cells [.sl h2.n 0 S.length (.ex S.length)] 29 false):=⟨_,rfl⟩
 have x4:Ext h3 h4:=by rw [hh4];exact ((Ext.refl h3).new _).put (Nat.le_refl _) _
 have n4:h4.n=h3.n+1:=by rw [hh4,H.n_put,H.n_new]
 have gP:h2.get h.n=some (.cells [v] 29 false):=by rw [x2.get _ (by omega),g1]
 have gP4:h4.get h.n=some (.cells [v] 29 false):=by rw [x4.get _ (by omega),x3.get _ (by omega),gP]
 have gP2:h4.get h1.n=some (.cells [.nils] 29 false):=by rw [x4.get _ (by omega),x3.get _ (by omega),hh2,get_new_same]
 have gT:h4.get h2.n=some (.cells (reps S.length [.nils]) 73 false):=by rw [x4.get _ (by omega),hh3,get_new_same]
 have gQ:h4.get h3.n=some (.cells [.sl h2.n 0 S.length (.ex S.length)] 29 false):=by rw [hh4,get_put_same (by rw [H.n_new];omega)]
 have u4:SetR (fun b=>b < h.n) h4 v S:=(((u.mono (E:=fun b=>b < h.n) fun b hb _=>hb).ext x1).ext x2 |>.ext x3).ext x4
 have ul:=u4.len
 have hms:ms h2 73 24 [.nils] (.int .i64 S.length) (.int .i64 S.length)=some (.sl h2.n 0 S.length (.ex S.length),h3):=by
   simp only [ms]
   rw [if_pos ⟨by omega,by omega,by omega,by omega,trivial⟩,Int.toNat_natCast,← hh3]
 have loop:=loop_run (body:=l28_1 KW loopZ) (O38 h4 S h1.n h3.n h2.n v) (fun s=>s.x=.ex 0∧O38 h4 S h1.n h3.n h2.n v 0 s.e s.h)
   (fun n e g hi=>by
    obtain ⟨hn,x,gn,⟨cs,B,bT,L,PR⟩,e2,e3,e13,e14,e15⟩:=hi
    cases n with
    | zero =>
     simp [l28_1,e14,e15]
     exact ⟨rfl,hn,x,gn,⟨cs,B,bT,L,PR⟩,by simp [e2],by simp [e3],by simp [e13],by simp [e14],by simp [e15]⟩
    | succ n =>
     obtain ⟨k,hk⟩:∃ k,k=S.length - (n+1):=⟨_,rfl⟩
     have hk2:S.length - n=k+1:=by omega
     have hkl:k < S.length:=by omega
     rw [← hk] at e15 PR
     obtain ⟨r,hr⟩:=get_of_lt hkl
     have hsm:=sm.2 k r hr
     have z1:IntKind.i64.wrap ((k:Int)+1)=k+1:=wi64 (by omega) (by omega)
     have ug:SetR (fun b=>b < h.n) g v S:=u4.keep fun b hb hb2=>x b hb2 (by have hb:b < h.n:=hb;omega)
     obtain ⟨bR,oR,vr,q1,q2,RR,_,hbR⟩:=ug.row hr
     obtain ⟨rcs,RS,RE⟩:=RR
     obtain ⟨w,g1,a1,W,y1⟩:=(clone63_ok RS hsm.1).elim
     have m1:=y1.n
     have gQg:g.get h3.n=_:=(x _ (by omega) (by omega)).trans gQ
     have gQ1:g1.get h3.n=_:=(y1.get _ (H.get_lt gQg)).trans gQg
     have bT1:g1.get h2.n=_:=(y1.get _ (H.get_lt bT)).trans bT
     obtain ⟨g2,hg2⟩:∃ g2,g2=g1.put h2.n (.cells (cs.set k w) 73 false):=⟨_,rfl⟩
     have m2:g2.n=g1.n:=by rw [hg2,H.n_put]
     have bT2:g2.get h2.n=some (.cells (cs.set k w) 73 false):=by rw [hg2,get_put_same (H.get_lt bT1)]
     have gQ2:g2.get h3.n=_:=(show g2.get h3.n=g1.get h3.n by rw [hg2,get_put_ne (by omega)]).trans gQ1
     have hsw:=(W.slr (D:=fun _=>True) fun _ _ _=>trivial)
     have hst:=hsw.stZ
     have hw:g1.wr1 h2.n k w=some g2:=by rw [wr1_of bT1 (by omega),hg2]
     have hx2:∀ c,c < g.n→c ≠ h2.n→g2.get c=g.get c:=fun c hc hcb=>by rw [hg2,get_put_ne hcb,y1.get c hc]
     have rl:=RS.len
     rcases W with ⟨rfl,hr0,hc0⟩ | ⟨bb,kk,rfl,Wb,Wl,Wq,Wk⟩
     ·have hre:r=[]:=List.length_eq_zero_iff.mp hr0
      obtain ⟨B',PR'⟩:=PR.next (g':=g2) (bb:=0) (by omega) hr bT hx2 (by omega) (.inl ⟨rfl,hre⟩) (fun h=>(h hre).elim)
      have hl0:loopZ (l28_0 KW loopZ) ⟨[e.s [0,1,2,3,4,5,6,13,14,15,27,28] 0,e.s [0,1,2,3,4,5,6,13,14,15,27,28] 1,.ptr h1.n 0,.ptr h3.n 0,.int .i64 k,vr,e.s [0,1,2,3,4,5,6,13,14,15,27,28] 6,v,.int .i64 S.length,.int .i64 k,.int .i64 0,.int .i64 0],28,.int .i64 0⟩ g2=some ⟨.ex 2,⟨[e.s [0,1,2,3,4,5,6,13,14,15,27,28] 0,e.s [0,1,2,3,4,5,6,13,14,15,27,28] 1,.ptr h1.n 0,.ptr h3.n 0,.int .i64 k,vr,e.s [0,1,2,3,4,5,6,13,14,15,27,28] 6,v,.int .i64 S.length,.int .i64 k,.int .i64 0,.int .i64 0],29,.bool false⟩,g2⟩:=by
       rw [loopZ_eq];simp [l28_0]
      rw [hr0] at rl
      simp at rl
      simp [l28_1,e14,e15,hkl,show (k:Int) < S.length by omega,e13,q1,q2,a1,e3,rd1_of gQ1,hst,hw,rd1_of gQg,rl,e2,hl0,z1]
      exact ⟨n,Nat.lt_succ_self n,by omega,fun c hc hcq=>by rw [hx2 c (by omega) hcq,x c hc hcq],by omega,⟨_,B',bT2,by rw [List.length_set,L],by rw [hk2];exact PR'⟩,by simp,by simp,by simp,by simp,by simp [hk2]⟩
     ·have Wbl:=H.get_lt Wb
      have hbT:=H.get_lt bT
      have Wb2:g2.get bb=_:=(show g2.get bb=g1.get bb by rw [hg2,get_put_ne (by omega)]).trans Wb
      have RR2:RowR (fun b=>b < h.n) g2 vr r:=RowR.keep ⟨rcs,RS,RE⟩ fun b hb hb2=>by
       have hb:b < h.n:=hb
       exact hx2 b hb2 (by omega)
      obtain ⟨f,g3,j1,I⟩:=loop38 (h0:=g2) (q:=g.n) (bb:=bb) (P2:=h1.n) (Q:=h3.n) (k:=k) (len:=S.length) (bT:=h2.n) (v13:=v) (kk:=kk) RR2 (fun b hb=>by have hb:b < h.n:=hb;omega) (by omega) (by omega) gQ2 bT2 (by rw [set_get (by omega),if_pos rfl]) hkl (by omega) (by omega) hsm.1 hsm.2
       (e:=⟨[e.s [0,1,2,3,4,5,6,13,14,15,27,28] 0,e.s [0,1,2,3,4,5,6,13,14,15,27,28] 1,.ptr h1.n 0,.ptr h3.n 0,.int .i64 k,vr,e.s [0,1,2,3,4,5,6,13,14,15,27,28] 6,v,.int .i64 S.length,.int .i64 k,.int .i64 r.length,.int .i64 0],28,.int .i64 0⟩) (g:=g2)
       ⟨Nat.le_refl _,fun _ _ _=>rfl,Nat.le_refl _,⟨rcs,Wb2,Wl,by rw [Nat.sub_self];exact Els.none _ _ _,fun i t ht=>by obtain ⟨vc,_,k2,_⟩:=RE i t ht;exact k2⟩,by simp,by simp,by simp,by simp,by simp,by simp,by simp,by simp,by simp⟩
      obtain ⟨_,x',gn',⟨cs',Cb,CL,CE,_⟩,f2,f3,f4,f5,f13,f14,f15,f27,f28⟩:=I
      rw [Nat.sub_zero,List.take_length] at CE
      have hx3:∀ c,c < g.n→c ≠ h2.n→g3.get c=g.get c:=fun c hc hcb=>by rw [x' c (by omega) (by omega),hx2 c hc hcb]
      have bT3:g3.get h2.n=_:=(x' h2.n (by omega) (by omega)).trans bT2
      obtain ⟨B',PR'⟩:=PR.next (g':=g3) (w:=.sl bb 0 r.length kk) (bb:=bb) (by omega) hr bT hx3 (by omega) (.inr ⟨kk,cs',rfl,Cb,CL,(show h4.n≤bb by omega),CE.mono (fun b _ hb=>Nat.le_trans gn hb),Wk⟩) (fun _=>⟨Wq,H.get_lt Cb⟩)
      simp [l28_1,e14,e15,hkl,show (k:Int) < S.length by omega,e13,q1,q2,a1,e3,rd1_of gQ1,hw,rd1_of gQg,rl,e2,j1,f15,z1]
      exact ⟨n,Nat.lt_succ_self n,by omega,fun c hc hcq=>by rw [hx3 c (by omega) hcq,x c hc hcq],by omega,⟨_,B',bT3,by rw [List.length_set,L],by rw [hk2];exact PR'⟩,by simp [f2],by simp [f3],by simp [f13],by simp [f14],by simp [hk2]⟩)
 obtain ⟨⟨sx,se,sh⟩,q1,q2,I⟩:=loop S.length ⟨[.agg [v],.ptr h.n 0,.ptr h1.n 0,.ptr h3.n 0,.tup [],.tup [],.tup [],v,.int .i64 S.length,.int .i64 0,.tup [],.tup []],15,.int .i64 0⟩ h4
   ⟨Nat.le_refl _,fun _ _ _=>rfl,Nat.le_refl _,⟨_,fun _=>0,gT,by rw [reps_len];simp,by rw [Nat.sub_self];exact ⟨fun i r hi=>by omega,fun _ i j _ hj=>by omega,fun _ i hi=>by omega⟩⟩,by simp,by simp,by simp,by simp,by simp⟩
 simp only at q2 I
 subst q2
 obtain ⟨_,x,gn,⟨cs,B,bT,L,PR⟩,e2,e3,e13,e14,e15⟩:=I
 have sQ:sh.get h3.n=some (.cells [.sl h2.n 0 S.length (.ex S.length)] 29 false):=by rw [x _ (by omega) (by omega),gQ]
 have sP:sh.get h1.n=some (.cells [.nils] 29 false):=by rw [x _ (by omega) (by omega),gP2]
 obtain ⟨h8,hh8⟩:∃ g,g=sh.put h1.n (.cells [.sl h2.n 0 S.length (.ex S.length)] 29 false):=⟨_,rfl⟩
 have r8:h8.get h1.n=some (.cells [.sl h2.n 0 S.length (.ex S.length)] 29 false):=by rw [hh8,get_put_same (H.get_lt sP)]
 rw [w28,f28,s28]
 simp [b1,nw,← hh2,rd1_of gP,ul,hms,bl,fillW,splice,wrN_of (o:=0) get_new_same,← hh4,rd1_of gP4,q1,e3,rdN_of (o:=0) (n:=1) sQ (by simp),e2,wrN_of (o:=0) sP,← hh8,rdN_of (o:=0) (n:=1) r8 (by simp)]
 rw [Nat.sub_zero] at PR
 have hD:∀ b,h4.n≤b→h.n≤b:=fun b hb=>by omega
 refine ⟨_,rfl,⟨cs,B,h2.n,.ex S.length,rfl,by rw [hh8,get_put_ne (by omega)];exact bT,L,⟨(show h.n≤h2.n by omega),Nat.le_refl _⟩,fun i r hi hr=>?_,PR.2.1,fun f i hi=>by have:=PR.2.2 f i hi;rw [hh8,H.n_put];omega⟩,?_⟩
 · obtain ⟨vr,k1,k2⟩:=PR.1 i r hi hr
   refine ⟨vr,k1,(k2.keep fun b c t hb _ _=>?_).mono fun b _ hb=>hD b hb⟩
   rw [hh8,get_put_ne];have hb:h4.n≤b:=hb;omega
 · refine ⟨by rw [hh8,H.n_put];omega,fun c hc=>?_⟩
   rw [hh8,get_put_ne (by omega),x c (by omega) (by omega),x4.get c (by omega),x3.get c (by omega),x2.get c (by omega),x1.get c hc]
open Go.Zf (wi64)
theorem loop15_0 {D D2:Nat→Prop} {g:H} {v w:V} {t:Tb} {a b:Nat} (hu:U16 D g v t.c) (hw:U16 D2 g w t.c) (hl:t.c.length < 1000) (ha:g.get a=some (.cells [v,.int .i64 t.n] 76 false)) (hb:g.get b=some (.cells [w,.int .i64 t.n] 76 false)) {en:E}
   (e7:en.s [0,1,2,3,4,5,6,7,8,9] 7=.ptr a 0) (e8:en.s [0,1,2,3,4,5,6,7,8,9] 8=.ptr b 0) (e9:en.s [0,1,2,3,4,5,6,7,8,9] 9=.int .i64 0) :
   ∃ e',loopZ (l21_0 KW loopZ) en g=some ⟨.ex 4,e',g⟩∧Keeps [0,1,2,3,4,5,6,7,8,9] [2,3,5,6] e' en:=by
 have loop:=loop_run (body:=l21_0 KW loopZ) (fun n e h=>h=g∧n≤t.c.length∧Keeps [0,1,2,3,4,5,6,7,8,9] [2,3,5,6] e en∧e.s [0,1,2,3,4,5,6,7,8,9] 7=.ptr a 0∧e.s [0,1,2,3,4,5,6,7,8,9] 8=.ptr b 0∧e.s [0,1,2,3,4,5,6,7,8,9] 9=.int .i64 ((t.c.length - n:Nat):Int))
   (fun s=>s.h=g∧s.x=.ex 4∧Keeps [0,1,2,3,4,5,6,7,8,9] [2,3,5,6] s.e en)
   (fun n e h ⟨hg,hn,ke,p7,p8,p9⟩=>by
    subst hg
    have i2:=ke 2 (by simp);have i3:=ke 3 (by simp);have i5:=ke 5 (by simp);have i6:=ke 6 (by simp)
    have ul:=hu.1.len
    cases n with
    | zero =>
     simp [l21_0,p7,rd1_of ha,ul,p9]
     exact ⟨rfl,rfl,fun i hm=>by
      simp only [List.mem_cons,List.not_mem_nil,or_false] at hm
      rcases hm with rfl | rfl | rfl | rfl <;> simp [i2,i3,i5,i6]⟩
    | succ n =>
     obtain ⟨c,hc⟩:∃ c,c=t.c.length - (n+1):=⟨_,rfl⟩
     have hc2:t.c.length - n=c+1:=by omega
     rw [← hc] at p9
     have hcl:c < t.c.length:=by omega
     obtain ⟨b1,o1,q1,q2,_⟩:=hu.at hcl
     obtain ⟨b2,o2,r1,r2,_⟩:=hw.at hcl
     have z1:IntKind.i64.wrap ((c:Int)+1)=c+1:=wi64 (by omega) (by omega)
     simp [l21_0,p7,rd1_of ha,ul,p9,hcl,show (c:Int) < t.c.length by omega,q1,q2,p8,rd1_of hb,r1,r2,hu.1.ck,hw.1.ck,z1]
     exact ⟨n,Nat.lt_succ_self n,rfl,by omega,fun i hm=>by
      simp only [List.mem_cons,List.not_mem_nil,or_false] at hm
      rcases hm with rfl | rfl | rfl | rfl <;> simp [i2,i3,i5,i6],by simp [p7],by simp [p8],by simp [hc2]⟩)
 obtain ⟨⟨x,e',g'⟩,r1,r2,r3,r4⟩:=loop t.c.length en g ⟨rfl,Nat.le_refl _,fun _ _=>rfl,e7,e8,by rw [e9,Nat.sub_self];rfl⟩
 simp only at r2 r3 r4
 subst r2 r3
 exact ⟨e',r1,r4⟩
theorem loop15_1 {D D2:Nat→Prop} {h0:H} {v w:V} {S:List (List Tb)} {k A B:Nat} {r:List Tb} (hS:SetR D h0 v S) (hS2:SetR D2 h0 w S) (hr:S[k]?=some r) (hA:h0.get A=some (.cells [v] 29 false)) (hB:h0.get B=some (.cells [w] 29 false)) (hl:r.length < 1000) (hs:∀ (i:Nat) (t:Tb),r[i]?=some t→t.c.length < 1000) {en:E}
   (e2:en.s [0,1,2,3,4,5,6,7,8,9] 2=.ptr A 0) (e3:en.s [0,1,2,3,4,5,6,7,8,9] 3=.ptr B 0) (e5:en.s [0,1,2,3,4,5,6,7,8,9] 5=.int .i64 k) (e6:en.s [0,1,2,3,4,5,6,7,8,9] 6=.int .i64 0) :
   ∃ e' g',loopZ (l21_1 KW loopZ) en h0=some ⟨.ex 2,e',g'⟩∧Ext h0 g'∧e'.s [0,1,2,3,4,5,6,7,8,9] 2=.ptr A 0∧e'.s [0,1,2,3,4,5,6,7,8,9] 3=.ptr B 0∧e'.s [0,1,2,3,4,5,6,7,8,9] 5=.int .i64 k:=by
 have loop:=loop_run (body:=l21_1 KW loopZ) (fun n e g=>Ext h0 g∧n≤r.length∧e.s [0,1,2,3,4,5,6,7,8,9] 2=.ptr A 0∧e.s [0,1,2,3,4,5,6,7,8,9] 3=.ptr B 0∧e.s [0,1,2,3,4,5,6,7,8,9] 5=.int .i64 k∧e.s [0,1,2,3,4,5,6,7,8,9] 6=.int .i64 ((r.length - n:Nat):Int))
   (fun s=>s.x=.ex 2∧Ext h0 s.h∧s.e.s [0,1,2,3,4,5,6,7,8,9] 2=.ptr A 0∧s.e.s [0,1,2,3,4,5,6,7,8,9] 3=.ptr B 0∧s.e.s [0,1,2,3,4,5,6,7,8,9] 5=.int .i64 k)
   (fun n e g ⟨xg,hn,p2,p3,p5,p6⟩=>by
    have u:=hS.ext xg
    have u2:=hS2.ext xg
    obtain ⟨bR,oR,vr,a1,a2,RR,_,hbR⟩:=u.row hr
    obtain ⟨bR',oR',vr',a1',a2',RR',_,hbR'⟩:=u2.row hr
    have gA:g.get A=_:=(xg.get A (H.get_lt hA)).trans hA
    have gB:g.get B=_:=(xg.get B (H.get_lt hB)).trans hB
    have rl:=RR.len
    cases n with
    | zero =>
     simp [l21_1,p2,rd1_of gA,p5,a1,a2,rl,p6]
     exact ⟨rfl,xg,by simp [p2],by simp [p3],by simp [p5]⟩
    | succ n =>
     obtain ⟨c,hc⟩:∃ c,c=r.length - (n+1):=⟨_,rfl⟩
     have hc2:r.length - n=c+1:=by omega
     rw [← hc] at p6
     have hcl:c < r.length:=by omega
     obtain ⟨t,ht⟩:=get_of_lt hcl
     have z1:IntKind.i64.wrap ((c:Int)+1)=c+1:=wi64 (by omega) (by omega)
     obtain ⟨b,o,vc,b1,b2,b3,b4,U,_,hb⟩:=RR.tab ht
     obtain ⟨b',o',vc',b1',b2',b3',b4',U',_,hb'⟩:=RR'.tab ht
     obtain ⟨g1,hg1⟩:∃ g1,g1=((g.new (.cells [.nils,.int .i64 0] 76 false)).new (.cells [.nils,.int .i64 0] 76 false)).put g.n (.cells [vc,.int .i64 t.n] 76 false):=⟨_,rfl⟩
     have x1:Ext g g1:=by rw [hg1];exact (((Ext.refl g).new _).new _).put (Nat.le_refl _) _
     have n1:g1.n=g.n+2:=by rw [hg1,H.n_put];simp only [H.n_new]
     have w1:((g.new (.cells [.nils,.int .i64 0] 76 false)).new (.cells [.nils,.int .i64 0] 76 false)).wrN g.n 0 [vc,.int .i64 t.n]=some g1:=by
      rw [wrN_of (o:=0) (c:=[.nils,.int .i64 0]) (e:=76) (by rw [get_new_lt (by rw [H.n_new];omega),get_new_same]) (by simp),hg1];rfl
     have r1:g1.get g.n=some (.cells [vc,.int .i64 t.n] 76 false):=by rw [hg1,get_put_same (by simp only [H.n_new];omega)]
     have r1':g1.get (g.n+1)=some (.cells [.nils,.int .i64 0] 76 false):=by rw [hg1,get_put_ne (by omega),get_new_eq (by rw [H.n_new])]
     obtain ⟨g2,hg2⟩:∃ g2,g2=g1.put (g.n+1) (.cells [vc',.int .i64 t.n] 76 false):=⟨_,rfl⟩
     have x2:Ext g g2:=by rw [hg2];exact x1.put (by omega) _
     have r2:g2.get g.n=some (.cells [vc,.int .i64 t.n] 76 false):=by rw [hg2,get_put_ne (by omega),r1]
     have r2':g2.get (g.n+1)=some (.cells [vc',.int .i64 t.n] 76 false):=by rw [hg2,get_put_same (H.get_lt r1')]
     have gB1:g1.get B=_:=(x1.get _ (H.get_lt gB)).trans gB
     have a21':=rd1_ext x1 hbR' a2'
     have b41':g1.rdN b' o' 2=some [vc',.int .i64 t.n]:=rdN_ext x1 b4'
     obtain ⟨f,j1,ke⟩:=loop15_0 (U.ext x2) (U'.ext x2) (hs c t ht) r2 r2' (en:=⟨[e.s [0,1,2,3,4,5,6,7,8,9] 0,e.s [0,1,2,3,4,5,6,7,8,9] 1,.ptr A 0,.ptr B 0,e.s [0,1,2,3,4,5,6,7,8,9] 4,.int .i64 k,.int .i64 c,.ptr g.n 0,.ptr (g.n+1) 0,.int .i64 0],9,.int .i64 0⟩) (by simp) (by simp) (by simp)
     have i2:=ke 2 (by simp);have i3:=ke 3 (by simp);have i5:=ke 5 (by simp);have i6:=ke 6 (by simp)
     simp at i2 i3 i5 i6
     have ul:=U.1.len
     have ul':=U'.1.len
     have us:=U.1.same
     have us':=U'.1.same
     have vs:=u.ckv (some ());have vs':=u2.ckv (some ());have rs:=RR.ckv (some ());have rs':=RR'.ckv (some ())
     simp [ck] at vs vs' rs rs'
     simp [l21_1,p2,rd1_of gA,p5,a1,a2,rl,p6,hcl,show (c:Int) < r.length by omega,b1,b4,nw,H.n_new,w1,p3,rd1_of gB1,rd1_of gB,a1',a21',a2',b1',b41',b4',wrN_of (o:=0) r1',splice,← hg2,ck,V.same,V.sames,us,us',vs,vs',rs,rs',rd1_of r2,rd1_of r2',ul,ul',j1,i6,z1]
     exact ⟨n,Nat.lt_succ_self n,xg.trans x2,by omega,by simp [i2],by simp [i3],by simp [i5],by simp [hc2]⟩)
 obtain ⟨⟨x,e',g'⟩,r1,r2,r3,r4⟩:=loop r.length en h0 ⟨Ext.refl h0,Nat.le_refl _,e2,e3,e5,by rw [e6,Nat.sub_self];rfl⟩
 simp only at r2 r3 r4
 subst r2
 exact ⟨e',g',r1,r3,r4⟩
theorem same15_ok {D D2:Nat→Prop} {h:H} {v w:V} {S:List (List Tb)} (u:SetR D h v S) (u2:SetR D2 h w S) (sm:Small S):RT (fun x h'=>x=.bool true∧Ext h h') (KW 21 [.agg [v],.agg [w]] h):=by
 have hS:=sm.1
 obtain ⟨h1,b1,x1,g1,n1,ua⟩:=box25 u
 obtain ⟨h2,b2,x2,g2,n2,ub⟩:=box25 (u2.ext x1)
 have ga:h2.get h.n=_:=(x2.get _ (H.get_lt g1)).trans g1
 have uc:=ua.ext x2
 have ul:=uc.len
 have ul2:=ub.len
 have loop:=loop_run (body:=l21_2 KW loopZ) (fun n e g=>Ext h2 g∧n≤S.length∧e.s [0,1,2,3,4,5,6,7,8,9] 2=.ptr h.n 0∧e.s [0,1,2,3,4,5,6,7,8,9] 3=.ptr h1.n 0∧e.s [0,1,2,3,4,5,6,7,8,9] 5=.int .i64 ((S.length - n:Nat):Int))
   (fun s=>s.x=.ex 0∧Ext h2 s.h)
   (fun n e g ⟨xg,hn,p2,p3,p5⟩=>by
    have gA:g.get h.n=_:=(xg.get _ (H.get_lt ga)).trans ga
    have gB:g.get h1.n=_:=(xg.get _ (H.get_lt g2)).trans g2
    have v1:=uc.ext xg
    have v2:=ub.ext xg
    cases n with
    | zero =>
     simp [l21_2,p2,rd1_of gA,ul,p5]
     exact ⟨rfl,xg⟩
    | succ n =>
     obtain ⟨k,hk⟩:∃ k,k=S.length - (n+1):=⟨_,rfl⟩
     have hk2:S.length - n=k+1:=by omega
     have hkl:k < S.length:=by omega
     rw [← hk] at p5
     obtain ⟨r,hr⟩:=get_of_lt hkl
     have hsm:=sm.2 k r hr
     have z1:IntKind.i64.wrap ((k:Int)+1)=k+1:=wi64 (by omega) (by omega)
     obtain ⟨bR,oR,vr,a1,a2,RR,_⟩:=v1.row hr
     obtain ⟨bR',oR',vr',a1',a2',RR',_⟩:=v2.row hr
     have rl:=RR.len
     have rl':=RR'.len
     obtain ⟨f,g3,j1,y1,f2,f3,f5⟩:=loop15_1 v1 v2 hr gA gB hsm.1 hsm.2 (en:=⟨[e.s [0,1,2,3,4,5,6,7,8,9] 0,e.s [0,1,2,3,4,5,6,7,8,9] 1,.ptr h.n 0,.ptr h1.n 0,e.s [0,1,2,3,4,5,6,7,8,9] 4,.int .i64 k,.int .i64 0,e.s [0,1,2,3,4,5,6,7,8,9] 7,e.s [0,1,2,3,4,5,6,7,8,9] 8,e.s [0,1,2,3,4,5,6,7,8,9] 9],6,.int .i64 0⟩) (by simp) (by simp) (by simp) (by simp)
     simp [l21_2,p2,rd1_of gA,ul,p5,hkl,show (k:Int) < S.length by omega,a1,a2,rl,p3,rd1_of gB,a1',a2',rl',v1.ckv,v2.ckv,RR.ckv,RR'.ckv,j1,f5,z1]
     exact ⟨n,Nat.lt_succ_self n,xg.trans y1,by omega,by simp [f2],by simp [f3],by simp [hk2]⟩)
 obtain ⟨⟨sx,se,sh⟩,q1,q2,q3⟩:=loop S.length ⟨[.agg [v],.agg [w],.ptr h.n 0,.ptr h1.n 0,.bool false,.int .i64 0,.tup [],.tup [],.tup [],.tup []],5,.int .i64 0⟩ h2 ⟨Ext.refl h2,Nat.le_refl _,by simp,by simp,by simp⟩
 simp only at q2 q3
 subst q2
 rw [w21,f21,s21]
 simp [b1,b2,rd1_of ga,rd1_of g2,ul,ul2,q1]
 exact ⟨rfl,(x1.trans x2).trans q3⟩
open Go.Zf (wi64)
inductive Side where
 | w (out:List Nat) (low rng:Nat)
 | r (rest:List Nat) (code rng:Nat)
def SideOk (m:Nat):Side→Prop
 | .w out low rng=>EInv low rng∧out.length≤3*m∧m < 100000000
 | .r rest code rng=>DInv code rng∧(∀ x ∈ rest,x < 256)∧m < 100000000
def EncD (D:Nat→Prop) (h:H) (p:Nat) (t:TypeId) (out:List Nat) (low:Nat) (rng:V):Prop:=∃ v,EncAt h p t v out low rng∧D p∧∀ c o n k,v=.sl c o n k→D c
def DecD (D:Nat→Prop) (h:H) (p:Nat) (rest:List Nat) (code rng:Nat):Prop:=∃ v,DecAt h (fun c=>c=p∨¬ D c) p v rest code rng∧D p
def RefD (D:Nat→Prop) (h:H) (m p:Nat) (rest:List Nat) (code rng:Nat):Prop:=∃ at_,RefAt h (fun c=>c=p∨¬ D c) p at_ rest code rng∧at_≤4+3*m∧D p
section own
variable {D E:Nat→Prop} {h h':H}
theorem EncD.keep {p:Nat} {t:TypeId} {out:List Nat} {low:Nat} {rng:V} (a:EncD D h p t out low rng) (hk:∀ b,D b→b < h.n→h'.get b=h.get b):EncD D h' p t out low rng:=by
 obtain ⟨v,e,hp,hv⟩:=a
 refine ⟨v,⟨by rw [hk p hp (H.get_lt e.cell),e.cell],?_,e.byte,e.low64⟩,hp,hv⟩
 rcases e.grow with g | ⟨b,g1,g2,g3⟩
 · exact .inl g
 · exact .inr ⟨b,g1,g2,by rw [hk b (hv _ _ _ _ g1) (H.get_lt g3),g3]⟩
theorem EncD.mono {p:Nat} {t:TypeId} {out:List Nat} {low:Nat} {rng:V} (a:EncD D h p t out low rng) (hd:∀ b,b < h.n→D b→E b):EncD E h p t out low rng:=by
 obtain ⟨v,e,hp,hv⟩:=a
 refine ⟨v,e,hd p (H.get_lt e.cell) hp,fun c o n k ev=>hd c ?_ (hv c o n k ev)⟩
 rcases e.grow with ⟨g,_⟩ | ⟨b,g1,g2,g3⟩
 · rw [g] at ev;cases ev
 · rw [g1] at ev;cases ev;exact H.get_lt g3
theorem DecD.keep {p:Nat} {rest:List Nat} {code rng:Nat} (a:DecD D h p rest code rng) (hk:∀ b,D b→b < h.n→h'.get b=h.get b):DecD D h' p rest code rng:=by
 obtain ⟨v,e,hp⟩:=a
 exact ⟨v,⟨by rw [hk p hp (H.get_lt e.cell),e.cell],e.own,e.sl.keep fun b hb hx=>hk b (Classical.not_not.mp fun hn=>hx (.inr hn)) hb,e.byte⟩,hp⟩
theorem DecD.mono {p:Nat} {rest:List Nat} {code rng:Nat} (a:DecD D h p rest code rng) (hd:∀ b,b < h.n→D b→E b):DecD E h p rest code rng:=by
 obtain ⟨v,e,hp⟩:=a
 refine ⟨v,⟨e.cell,.inl rfl,e.sl.mono fun b hb hx=>?_,e.byte⟩,hd p (H.get_lt e.cell) hp⟩
 rintro (h1 | h1)
 · exact hx (.inl h1)
 · exact h1 (hd b hb (Classical.not_not.mp fun hn=>hx (.inr hn)))
theorem RefD.keep {m p:Nat} {rest:List Nat} {code rng:Nat} (a:RefD D h m p rest code rng) (hk:∀ b,D b→b < h.n→h'.get b=h.get b):RefD D h' m p rest code rng:=by
 obtain ⟨at_,⟨⟨v,B,hc,hs,hr,hB⟩,ho,hf⟩,hm,hp⟩:=a
 exact ⟨at_,⟨⟨v,B,by rw [hk p hp (H.get_lt hc),hc],hs.keep fun b hb hx=>hk b (Classical.not_not.mp fun hn=>hx (.inr hn)) hb,hr,hB⟩,ho,hf⟩,hm,hp⟩
theorem RefD.mono {m p:Nat} {rest:List Nat} {code rng:Nat} (a:RefD D h m p rest code rng) (hd:∀ b,b < h.n→D b→E b):RefD E h m p rest code rng:=by
 obtain ⟨at_,⟨⟨v,B,hc,hs,hr,hB⟩,ho,hf⟩,hm,hp⟩:=a
 refine ⟨at_,⟨⟨v,B,hc,hs.mono fun b hb hx=>?_,hr,hB⟩,.inl rfl,hf⟩,hm,hd p (H.get_lt hc) hp⟩
 rintro (h1 | h1)
 · exact hx (.inl h1)
 · exact h1 (hd b hb (Classical.not_not.mp fun hn=>hx (.inr hn)))
theorem Own.mod {p:Nat} {v v':V} (o:Own h h' p v v') (hp:D p) (hv:∀ c o n k,v=.sl c o n k→D c):Mod D h h' :=
 ⟨o.fr.1,fun c hc hd=>o.fr.2 c hc (by rintro (e | ⟨a,b,k,e⟩);exact hd (e ▸ hp);exact hd (hv _ _ _ _ e))⟩
theorem Only.mod {p:Nat} (o:Only h h' p) (hp:D p):Mod D h h':=⟨by rw [o.1];exact Nat.le_refl _,fun c hc hd=>o.2 c (fun e=>hd (e ▸ hp))⟩
theorem Own.encD {p:Nat} {t:TypeId} {v v':V} {out:List Nat} {low:Nat} {rng:V} (o:Own h h' p v v') (e:EncAt h' p t v' out low rng) (hp:D p) (hv:∀ c o n k,v=.sl c o n k→D c):EncD (grow D h h') h' p t out low rng:=by
 refine ⟨v',e,.inl hp,fun c a n k ev=>?_⟩
 rcases o.nw with e1 | e1
 · exact .inl (hv _ _ _ _ (e1 ▸ ev))
 · refine .inr ⟨e1 _ _ _ _ ev,?_⟩
   rcases e.grow with ⟨g,_⟩ | ⟨b,g1,g2,g3⟩
   ·rw [g] at ev;cases ev
   ·rw [g1] at ev;cases ev;exact H.get_lt g3
theorem put82_ok {m p:Nat} {out:List Nat} {low rng lo hi:Nat} (a:EncD D h p 104 out low (.int .u32 rng)) (ok:SideOk m (.w out low rng)) (h2:lo < hi) (h3:hi≤32768) :
   ∃ h',KW 94 [.ptr p 0,.int .u32 lo,.int .u32 hi] h=some (.ret (.int .i64 0),h')∧EncD (grow D h h') h' p 104 (put out low rng lo hi).1 (put out low rng lo hi).2.1 (.int .u32 (put out low rng lo hi).2.2)∧Mod D h h':=by
 obtain ⟨v,e,hp,hv⟩:=a
 have o1:=ok.1;have o2:=ok.2.1;have o3:=ok.2.2
 obtain ⟨h',v',k1,k2,k3⟩:=put12_ok e o1 (by omega) h2 h3
 exact ⟨h',k1,k3.encD k2 hp hv,k3.mod hp hv⟩
theorem put70_ok {m p:Nat} {out:List Nat} {low rng lo hi:Nat} (a:EncD D h p 108 out low (.int .u64 rng)) (ok:SideOk m (.w out low rng)) (h2:lo < hi) (h3:hi≤32768) :
   ∃ h',KW 75 [.ptr p 0,.int .u32 lo,.int .u32 hi] h=some (.ret (.int .i64 0),h')∧EncD (grow D h h') h' p 108 (put out low rng lo hi).1 (put out low rng lo hi).2.1 (.int .u64 (put out low rng lo hi).2.2)∧Mod D h h':=by
 obtain ⟨v,e,hp,hv⟩:=a
 have o1:=ok.1;have o2:=ok.2.1;have o3:=ok.2.2
 obtain ⟨h',v',k1,k2,k3⟩:=put13_ok e o1 (by omega) h2 h3
 exact ⟨h',k1,k3.encD k2 hp hv,k3.mod hp hv⟩
theorem put_side {m:Nat} {out:List Nat} {low rng lo hi:Nat} (ok:SideOk m (.w out low rng)) (hm:m+1 < 100000000) (h2:lo < hi) (h3:hi≤32768):SideOk (m+1) (.w (put out low rng lo hi).1 (put out low rng lo hi).2.1 (put out low rng lo hi).2.2):=by
 have o1:=ok.1;have o2:=ok.2.1
 have:=put_inv (out:=out) o1 h2 h3
 exact ⟨this.1,by omega,hm⟩
theorem take83_ok {m p:Nat} {rest:List Nat} {code rng lo hi:Nat} (a:DecD D h p rest code rng) (ok:SideOk m (.r rest code rng)) (h1:lo≤value code rng) (h2:value code rng < hi) (h3:hi≤32768) :
   ∃ h',KW 95 [.ptr p 0,.int .u32 lo,.int .u32 hi] h=some (.ret (.int .i64 0),h')∧DecD D h' p (take rest code rng lo hi).1 (take rest code rng lo hi).2.1 (take rest code rng lo hi).2.2∧Mod D h h':=by
 obtain ⟨v,e,hp⟩:=a
 obtain ⟨h',v',k1,k2,k3⟩:=take24_ok e ok.1 h1 h2 h3
 exact ⟨h',k1,⟨v',k2,hp⟩,k3.mod hp⟩
theorem take73_ok {m p:Nat} {rest:List Nat} {code rng lo hi:Nat} (a:RefD D h m p rest code rng) (ok:SideOk m (.r rest code rng)) (h1:lo≤value code rng) (h2:value code rng < hi) (h3:hi≤32768) :
   ∃ h',KW 78 [.ptr p 0,.int .u32 lo,.int .u32 hi] h=some (.ret (.int .i64 0),h')∧RefD D h' (m+1) p (take rest code rng lo hi).1 (take rest code rng lo hi).2.1 (take rest code rng lo hi).2.2∧Mod D h h':=by
 obtain ⟨at_,e,hm,hp⟩:=a
 have o3:=ok.2.2
 obtain ⟨h',at',k1,k0,k2,k3⟩:=take25_ok e (by omega) ok.1 h1 h2 h3
 exact ⟨h',k1,⟨at',k2,by omega,hp⟩,k3.mod hp⟩
theorem take_side {m:Nat} {rest:List Nat} {code rng lo hi:Nat} (ok:SideOk m (.r rest code rng)) (hm:m+1 < 100000000) (h1:lo≤value code rng) (h2:value code rng < hi) (h3:hi≤32768):SideOk (m+1) (.r (take rest code rng lo hi).1 (take rest code rng lo hi).2.1 (take rest code rng lo hi).2.2):=by
 have:=take_inv ok.1 h1 h2 h3 ok.2.1
 exact ⟨this.1,this.2,hm⟩
end own
def Side.code (lo hi:Nat):Side→Side
 | .w out low rng=>.w (put out low rng lo hi).1 (put out low rng lo hi).2.1 (put out low rng lo hi).2.2
 | .r rest code rng=>.r (take rest code rng lo hi).1 (take rest code rng lo hi).2.1 (take rest code rng lo hi).2.2
def Side.writes:Side→Bool
 | .w _ _ _=>true
 | .r _ _ _=>false
def Side.may (lo hi:Nat):Side→Prop
 | .w _ _ _=>lo < hi∧hi≤32768
 | .r _ code rng=>lo≤value code rng∧value code rng < hi∧hi≤32768
theorem Side.code_ok {m lo hi:Nat} {sd:Side} (ok:SideOk m sd) (hm:m+1 < 100000000) (h:sd.may lo hi):SideOk (m+1) (sd.code lo hi):=by
 cases sd with
 | w out low rng=>exact put_side ok hm h.1 h.2
 | r rest code rng=>exact take_side ok hm h.1 h.2.1 h.2.2
def SideAt (D:Nat→Prop) (h:H) (vo vi:V):Side→Prop
 | .w out low rng=>∃ e,vo=.ptr e 0∧vi=.nilp∧EncD D h e 104 out low (.int .u32 rng)
 | .r rest code rng=>∃ e,vo=.nilp∧vi=.ptr e 0∧DecD D h e rest code rng
def SideRef (D:Nat→Prop) (h:H) (m:Nat) (vo vi:V):Side→Prop
 | .w out low rng=>∃ e,vo=.ptr e 0∧vi=.nilp∧EncD D h e 108 out low (.int .u64 rng)
 | .r rest code rng=>∃ e,vo=.nilp∧vi=.ptr e 0∧RefD D h m e rest code rng
theorem SideAt.keep {D:Nat→Prop} {h h':H} {vo vi:V} {sd:Side} (a:SideAt D h vo vi sd) (hk:∀ b,D b→b < h.n→h'.get b=h.get b):SideAt D h' vo vi sd:=by
 cases sd with
 | w out low rng=>obtain ⟨e,h1,h2,h3⟩:=a;exact ⟨e,h1,h2,h3.keep hk⟩
 | r rest code rng=>obtain ⟨e,h1,h2,h3⟩:=a;exact ⟨e,h1,h2,h3.keep hk⟩
theorem SideAt.mono {D E:Nat→Prop} {h:H} {vo vi:V} {sd:Side} (a:SideAt D h vo vi sd) (hd:∀ b,b < h.n→D b→E b):SideAt E h vo vi sd:=by
 cases sd with
 | w out low rng=>obtain ⟨e,h1,h2,h3⟩:=a;exact ⟨e,h1,h2,h3.mono hd⟩
 | r rest code rng=>obtain ⟨e,h1,h2,h3⟩:=a;exact ⟨e,h1,h2,h3.mono hd⟩
theorem SideRef.keep {D:Nat→Prop} {h h':H} {m:Nat} {vo vi:V} {sd:Side} (a:SideRef D h m vo vi sd) (hk:∀ b,D b→b < h.n→h'.get b=h.get b):SideRef D h' m vo vi sd:=by
 cases sd with
 | w out low rng=>obtain ⟨e,h1,h2,h3⟩:=a;exact ⟨e,h1,h2,h3.keep hk⟩
 | r rest code rng=>obtain ⟨e,h1,h2,h3⟩:=a;exact ⟨e,h1,h2,h3.keep hk⟩
theorem SideRef.mono {D E:Nat→Prop} {h:H} {m:Nat} {vo vi:V} {sd:Side} (a:SideRef D h m vo vi sd) (hd:∀ b,b < h.n→D b→E b):SideRef E h m vo vi sd:=by
 cases sd with
 | w out low rng=>obtain ⟨e,h1,h2,h3⟩:=a;exact ⟨e,h1,h2,h3.mono hd⟩
 | r rest code rng=>obtain ⟨e,h1,h2,h3⟩:=a;exact ⟨e,h1,h2,h3.mono hd⟩
open Go.Zf (wi64)
def Side.val (t:Tb) (v:Int):Side→Nat
 | .w _ _ _=>v.toNat
 | .r _ code rng=>findP t (value code rng)
theorem value_lt (code rng:Nat):value code rng < 32768:=by unfold value;omega
theorem Side.val_may {t:Tb} {v:Int} {sd:Side} (ok:TabOk t) (hv:sd.writes=true→0≤v∧v < t.c.length):sd.val t v < t.c.length∧sd.may (pt t (sd.val t v)) (pt t (sd.val t v+1)):=by
 cases sd with
 | w out low rng =>
   have:=hv rfl
   have h1:v.toNat < t.c.length:=by omega
   exact ⟨h1,pt_lt ok h1,pt_le ok (show v.toNat+1≤_ by omega)⟩
 | r rest code rng =>
   have:=findP_lt ok (value_lt code rng)
   exact ⟨this.1,this.2.1,this.2.2,pt_le ok (Nat.succ_le_of_lt this.1)⟩
theorem writes14_ok {h:H} {p:Nat} {vo vi vs ba bn:V} {sd:Side} {D:Nat→Prop} (hp:h.get p=some (.cells [vo,vi,vs,ba,bn] 63 false)) (s:SideAt D h vo vi sd):KW 40 [.ptr p 0] h=some (.ret (.bool sd.writes),h):=by
 rw [w40,f40,s40]
 cases sd with
 | w out low rng=>obtain ⟨e,rfl,rfl,_⟩:=s;simp [rd1_of hp,Side.writes]
 | r rest code rng=>obtain ⟨e,rfl,rfl,_⟩:=s;simp [rd1_of hp,Side.writes]
theorem none44_ok {h:H} {p:Nat} {vo vi vs ba bn:V} {sd:Side} {D:Nat→Prop} (hp:h.get p=some (.cells [vo,vi,vs,ba,bn] 63 false)) (s:SideAt D h vo vi sd):KW 56 [.ptr p 0] h=some (.ret (.bool false),h):=by
 rw [w56,f56,s56]
 cases sd with
 | w out low rng=>obtain ⟨e,rfl,rfl,_⟩:=s;simp [rd1_of hp,gl_t]
 | r rest code rng=>obtain ⟨e,rfl,rfl,_⟩:=s;simp [rd1_of hp,gl_t]
theorem SideAt.ext {D:Nat→Prop} {h h':H} {vo vi:V} {sd:Side} (a:SideAt D h vo vi sd) (x:Ext h h'):SideAt D h' vo vi sd:=a.keep fun b _ hb=>x.get b hb
theorem value57_ok {D D2:Nat→Prop} {h:H} {p m:Nat} {vo vi vs ba bn vc:V} {sd:Side} {t:Tb} {v:Int} (hp:h.get p=some (.cells [vo,vi,vs,ba,bn] 63 false)) (s:SideAt D h vo vi sd) (so:SideOk m sd) (hD:∀ b,D b→b < h.n) (hDp:¬ D p) (u:U16 D2 h vc t.c) (ok:TabOk t) (hv:sd.writes=true→0≤v∧v < t.c.length) :
   RT (fun w h'=>w=.tup [.int .i64 (sd.val t v:Nat),.int .i64 0]∧SideAt (grow D h h') h' vo vi (sd.code (pt t (sd.val t v)) (pt t (sd.val t v+1)))∧Mod D h h') (KW 90 [.ptr p 0,.agg [vc,.int .i64 t.n],.int .i64 v] h):=by
 obtain ⟨h1,b1,x1,g1,n1,u1⟩:=box72 u
 have hp1:h1.get p=_:=(x1.get _ (H.get_lt hp)).trans hp
 have s1:=s.ext x1
 have e14:=writes14_ok hp1 s1
 obtain ⟨hsl,hmay⟩:=Side.val_may ok hv
 have hpl:=H.get_lt hp
 rw [w90,f90,s90]
 cases sd with
 | w out low rng =>
   obtain ⟨e,rfl,rfl,E1⟩:=s1
   have hv1:=hv rfl
   obtain ⟨k,hk⟩:∃ k:Nat,v=k:=⟨v.toNat,by omega⟩
   subst hk
   simp only [Side.val,Int.toNat_natCast] at hsl hmay ⊢
   obtain ⟨w,h2,e85,rfl,x2⟩:=(bounds85_ok u1 ok hsl).elim
   have hp2:h2.get p=_:=(x2.get _ (H.get_lt hp1)).trans hp1
   have E2:=E1.keep (h':=h2) fun b _ hb=>x2.get b hb
   have s2:SideAt D h2 (.ptr e 0) .nilp (.w out low rng):=⟨e,rfl,rfl,E2⟩
   have e142:=writes14_ok hp2 s2
   obtain ⟨h3,e82,E3,M3⟩:=put82_ok E2 so hmay.1 hmay.2
   have hx:Ext h h2:=x1.trans x2
   simp [b1,e14,Side.writes,rdN_of (o:=0) (n:=2) g1 (by simp),e85,e142,rd1_of hp2,e82]
   refine ⟨rfl,⟨e,rfl,rfl,E3.mono fun b hb hd=>?_⟩,(Mod.of hx).tr M3⟩
   rcases hd with hd | ⟨hd1,hd2⟩
   ·exact .inl hd
   ·exact .inr ⟨by have:=hx.n;omega,hd2⟩
 | r rest code rng =>
   obtain ⟨e,rfl,rfl,E1⟩:=s1
   simp only [Side.val] at hsl hmay ⊢
   obtain ⟨va,da,_⟩:=E1
   have e81:=value21_ok da so.1
   have hE1:DecD D h1 e rest code rng:=by obtain ⟨e',_,he,E⟩:=s.ext x1;cases he;exact E
   obtain ⟨w,h2,e84,rfl,x2⟩:=(find84_ok u1 ok (value_lt code rng)).elim
   have g2:h2.get h.n=_:=(x2.get _ (H.get_lt g1)).trans g1
   obtain ⟨w,h3,e85,rfl,x3⟩:=(bounds85_ok (u1.ext x2) ok hsl).elim
   have hp3:h3.get p=_:=((x2.trans x3).get _ (H.get_lt hp1)).trans hp1
   have E3:=hE1.keep (h':=h3) fun b _ hb=>(x2.trans x3).get b hb
   have s3:SideAt D h3 .nilp (.ptr e 0) (.r rest code rng):=⟨e,rfl,rfl,E3⟩
   have e143:=writes14_ok hp3 s3
   obtain ⟨h4,e83,E4,M4⟩:=take83_ok E3 so hmay.1 hmay.2.1 hmay.2.2
   have hx:Ext h h3:=(x1.trans x2).trans x3
   simp [b1,e14,Side.writes,rd1_of hp1,e81,rdN_of (o:=0) (n:=2) g1 (by simp),e84,rdN_of (o:=0) (n:=2) g2 (by simp),e85,e143,rd1_of hp3,e83]
   exact ⟨rfl,⟨e,rfl,rfl,E4.mono fun b hb hd=>.inl hd⟩,(Mod.of hx).tr M4⟩
open Go.Zf (wi64)
theorem U16.move {D E:Nat→Prop} {h h':H} {v:V} {c:List Nat} (a:U16 D h v c) (hk:∀ b x,D b→h.get b=some (.cells x tU false)→h'.get b=h.get b∧E b):U16 E h' v c:=by
 refine ⟨?_,a.2⟩
 rcases a.1 with a | ⟨b,o,k,x,h1,h2,h3,h4,h5⟩
 · exact .inl a
 · have:=hk b x h5.1 h2
   exact .inr ⟨b,o,k,x,h1,by rw [this.1,h2],h3,h4,this.2,h5.2⟩
theorem Els.move {D E:Nat→Prop} {h h':H} {cs:List V} {r:List Tb} (a:Els D h cs r) (hk:∀ b x,D b→h.get b=some (.cells x tU false)→h'.get b=h.get b∧E b):Els E h' cs r:=fun i t hi=>by
 obtain ⟨vc,h1,h2,h3⟩:=a i t hi;exact ⟨vc,h1,h2,h3.move hk⟩
theorem SetW.tab {D:Nat→Prop} {h:H} {v:V} {S:List (List Tb)} (a:SetW D h v S) {k c:Nat} {r:List Tb} {t:Tb} (hr:S[k]?=some r) (ht:r[c]?=some t) :
   ∃ bO oO vr bb cells vc,iaS 1 v (.int .i64 k)=some (.ptr bO oO)∧h.rd1 bO oO=some vr∧D bO∧bO < h.n∧iaS 2 vr (.int .i64 c)=some (.ptr bb (c*2))∧h.get bb=some (.cells cells 76 false)∧c*2+2≤cells.length∧h.rdN bb (c*2) 2=some [vc,.int .i64 t.n]∧U16 D h vc t.c∧D bb ∧
    ∀ (h1:H) (E:Nat→Prop) (vc':V) (t':Tb),(∀ b,D b→b < h.n→h1.get b=h.get b)→h.n≤h1.n→(∀ b,D b→b < h.n→E b)→U16 E h1 vc' t'.c→SetW E (h1.put bb (.cells (splice cells (c*2) [vc',.int .i64 t'.n]) 76 false)) v (S.set k (r.set c t')):=by
 obtain ⟨cs,B,h1,h2,hB⟩:=a
 have hk:=lt_of_get hr
 have hc:=lt_of_get ht
 obtain ⟨vr,k1,k2⟩:=h2 k r hr
 rcases k2 with ⟨rfl,rfl⟩ | ⟨kk,cells,rfl,g1,g2,g3,g4,g5⟩
 · simp at ht
 rcases h1 with ⟨rfl,rfl,rfl⟩ | ⟨bO,k0,rfl,o1,o2,o3,o4⟩
 · simp at hr
 obtain ⟨vc,e1,e2,e3⟩:=g4 c t ht
 refine ⟨bO,k,_,B k,cells,vc,by simp [hk],by rw [rd1_of o1,k1],o3,H.get_lt o1,by simp [hc],g1,by omega,?_,e3,g3,?_⟩
 · rw [rdN_of g1 (by omega)]
   congr 1
   apply List.ext_getElem?
   intro j
   simp only [List.getElem?_take,List.getElem?_drop]
   match j with
   | 0=>simp [Nat.mul_comm c 2,e1]
   | 1=>simp [Nat.mul_comm c 2,e2]
   | j+2=>simp;omega
 · intro h1 E vc' t' hk1 hn hE u
   obtain ⟨h9,hh9⟩:∃ g,g=h1.put (B k) (.cells (splice cells (c*2) [vc',.int .i64 t'.n]) 76 false):=⟨_,rfl⟩
   rw [← hh9]
   have g1':h1.get (B k)=some (.cells cells 76 false):=by rw [hk1 _ g3 (H.get_lt g1),g1]
   have hne:∀ b x ty,D b→h.get b=some (.cells x ty false)→b ≠ B k→h9.get b=h.get b:=fun b x ty hb hx hne=>by
    rw [hh9,get_put_ne hne,hk1 b hb (H.get_lt hx)]
   have hU:∀ b x,D b→h.get b=some (.cells x tU false)→h9.get b=h.get b:=fun b x hb hx=>hne b x tU hb hx (by rintro rfl;rw [g1] at hx;cases hx)
   refine ⟨cs,B,.inr ⟨bO,k0,by rw [List.length_set],by rw [hne bO _ _ o3 o1 (by rintro rfl;rw [g1] at o1;cases o1),o1],by rw [List.length_set];exact o2,hE _ o3 (H.get_lt o1),by rw [List.length_set];exact o4⟩,fun i s hs=>?_,fun i j hij hj=>hB i j hij (by rw [List.length_set] at hj;exact hj)⟩
   rw [List.getElem?_set] at hs
   by_cases ei:k=i
   ·subst ei
    rw [if_pos rfl,if_pos hk] at hs
    cases hs
    refine ⟨_,k1,.inr ⟨kk,_,by rw [List.length_set],by rw [hh9,get_put_same (H.get_lt g1')],by rw [splice_len (by simp;omega),List.length_set,g2],hE _ g3 (H.get_lt g1),?_,by rw [List.length_set];exact g5⟩⟩
    have hEl:Els E h9 cells r:=g4.move fun b x hb hx=>⟨hU b x hb hx,hE b hb (H.get_lt hx)⟩
    have u9:U16 E h9 vc' t'.c:=u.keep fun b x hb hx=>by rw [hh9,get_put_ne];rintro rfl;rw [g1'] at hx;cases hx
    exact hEl.set g2 hc u9
   ·rw [if_neg ei] at hs
    obtain ⟨vi,j1,j2⟩:=h2 i s hs
    refine ⟨vi,j1,?_⟩
    rcases j2 with j2 | ⟨k',c',a1,a2,a3,a4,a5,a6⟩
    ·exact .inl j2
    ·have hi:=lt_of_get hs
     have hBi:B i ≠ B k:=by
      rcases Nat.lt_or_gt_of_ne ei with e | e
      ·have:=hB k i e hi;omega
      ·have:=hB i k e hk;omega
     exact .inr ⟨k',c',a1,by rw [hne _ _ _ a4 a2 hBi,a2],a3,hE _ a4 (H.get_lt a2),a5.move (fun b x hb hx=>⟨hU b x hb hx,hE b hb (H.get_lt hx)⟩),a6⟩
structure St where
 sd:Side
 S:List (List Tb)
 ad:Bool
 n:Int
def tabOf (S:List (List Tb)) (k c:Nat):Tb:=(S.getD k []).getD c ⟨[],0⟩
theorem SetOk.get {S:List (List Tb)} (a:SetOk S) {k c:Nat} (hk:k < 32) (hc:c < cx k):∃ r,S[k]?=some r∧r[c]?=some (tabOf S k c)∧TabOk (tabOf S k c)∧(tabOf S k c).c.length=vl k:=by
 obtain ⟨r,hr⟩:=get_of_lt (l:=S) (i:=k) (by rw [a.1];exact hk)
 have h1:=a.2 k r hr
 obtain ⟨t,ht⟩:=get_of_lt (l:=r) (i:=c) (by rw [h1.1];exact hc)
 have e:tabOf S k c=t:=by simp [tabOf,hr,ht]
 rw [e]
 exact ⟨r,hr,ht,(h1.2 c t ht).2,(h1.2 c t ht).1⟩
theorem SetOk.set {S:List (List Tb)} (a:SetOk S) {k c:Nat} {t:Tb} (hk:k < 32) (ht:TabOk t) (hl:t.c.length=vl k):SetOk (S.set k ((S.getD k []).set c t)):=by
 refine ⟨by rw [List.length_set];exact a.1,fun i r hr=>?_⟩
 rw [List.getElem?_set] at hr
 by_cases e:k=i
 · subst e
   rw [if_pos rfl,if_pos (by rw [a.1];exact hk)] at hr
   cases hr
   obtain ⟨r,hr⟩:=get_of_lt (l:=S) (i:=k) (by rw [a.1];exact hk)
   have h1:=a.2 k r hr
   have e1:S.getD k []=r:=by simp [hr]
   rw [e1]
   refine ⟨by rw [List.length_set];exact h1.1,fun j s hs=>?_⟩
   rw [List.getElem?_set] at hs
   by_cases e2:c=j
   ·rw [if_pos e2] at hs
    split at hs
    ·cases hs;exact ⟨hl,ht⟩
    ·cases hs
   ·rw [if_neg e2] at hs;exact h1.2 j s hs
 · rw [if_neg e] at hr;exact a.2 i r hr
def St.sym (st:St) (k c:Nat) (v:Int):St :=
 ⟨st.sd.code (pt (tabOf st.S k c) (st.sd.val (tabOf st.S k c) v)) (pt (tabOf st.S k c) (st.sd.val (tabOf st.S k c) v+1)),
  if st.ad then st.S.set k ((st.S.getD k []).set c (adaptP (tabOf st.S k c) (st.sd.val (tabOf st.S k c) v))) else st.S,st.ad,st.n+1⟩
def St.symV (st:St) (k c:Nat) (v:Int):Nat:=st.sd.val (tabOf st.S k c) v
def CoderAt (D:Nat→Prop) (h:H) (p m:Nat) (st:St):Prop :=
 ∃ vo vi vs Ds Dw,h.get p=some (.cells [vo,vi,vs,.bool st.ad,.int .i64 st.n] 63 false)∧D p∧SideAt Ds h vo vi st.sd∧SideOk m st.sd∧SetW Dw h vs st.S∧SetOk st.S∧(0≤st.n∧st.n≤100*m) ∧
   (∀ b,Ds b→D b∧b ≠ p∧b < h.n)∧(∀ b,Dw b→D b∧b ≠ p∧b < h.n∧¬ Ds b)
theorem CoderAt.keep {D:Nat→Prop} {h h':H} {p m:Nat} {st:St} (a:CoderAt D h p m st) (hn:h.n≤h'.n) (hk:∀ b,D b→b < h.n→h'.get b=h.get b):CoderAt D h' p m st:=by
 obtain ⟨vo,vi,vs,Ds,Dw,h1,h2,h3,h4,h5,h6,h7,h8,h9⟩:=a
 exact ⟨vo,vi,vs,Ds,Dw,by rw [hk p h2 (H.get_lt h1),h1],h2,h3.keep fun b hb hb2=>hk b (h8 b hb).1 hb2,h4,h5.keep fun b hb hb2=>hk b (h9 b hb).1 hb2,h6,h7,
   fun b hb=>by have:=h8 b hb;exact ⟨this.1,this.2.1,by omega⟩,fun b hb=>by have:=h9 b hb;exact ⟨this.1,this.2.1,by omega,this.2.2.2⟩⟩
theorem CoderAt.mono {D E:Nat→Prop} {h:H} {p m:Nat} {st:St} (a:CoderAt D h p m st) (hd:∀ b,b < h.n→D b→E b):CoderAt E h p m st:=by
 obtain ⟨vo,vi,vs,Ds,Dw,h1,h2,h3,h4,h5,h6,h7,h8,h9⟩:=a
 exact ⟨vo,vi,vs,Ds,Dw,h1,hd p (H.get_lt h1) h2,h3,h4,h5,h6,h7,
   fun b hb=>by have:=h8 b hb;exact ⟨hd b this.2.2 this.1,this.2.1,this.2.2⟩,fun b hb=>by have:=h9 b hb;exact ⟨hd b this.2.2.1 this.1,this.2.1,this.2.2.1,this.2.2.2⟩⟩
open Go.Zf (wi64)
theorem symbol30_ok {D:Nat→Prop} {h:H} {p m:Nat} {st:St} {k c:Nat} {v:Int} (a:CoderAt D h p m st) (hm:m+1 < 100000000) (hk:k < 32) (hc:c < cx k) (hv:st.sd.writes=true→0≤v∧v < vl k) :
   RT (fun w h'=>w=.tup [.int .i64 (st.symV k c v:Nat),.int .i64 0]∧CoderAt (grow D h h') h' p (m+1) (st.sym k c v)∧Mod D h h') (KW 61 [.ptr p 0,.int .i64 k,.int .i64 c,.int .i64 v] h):=by
 obtain ⟨vo,vi,vs,Ds,Dw,h1,h2,h3,h4,h5,h6,h7,h8,h9⟩:=a
 have e44:=none44_ok h1 h3
 obtain ⟨w,g,e33,rfl,x⟩:=(shape33_ok k h).elim
 rw [if_pos ⟨by omega,by omega⟩,Int.toNat_natCast] at e33
 have xn:=x.n
 have hpl:=H.get_lt h1
 have hp:g.get p=_:=(x.get _ hpl).trans h1
 have e14:=writes14_ok hp (h3.ext x)
 obtain ⟨r,hr,ht,tok,tl⟩:=h6.get hk hc
 have hcx:=cx_le hk
 obtain ⟨t,htd⟩:∃ t,t=tabOf st.S k c:=⟨_,rfl⟩
 rw [← htd] at ht tok tl
 obtain ⟨bO,oO,vr,bb,cells,vc,t1,t2,t3,t4,t5,t6,t7,t8,t9,t10,t11⟩:=(h5.ext x).tab hr ht
 have hDsg:∀ b,Ds b→b < g.n:=fun b hb=>by have:=(h8 b hb).2.2;omega
 have hDp:¬ Ds p:=fun hb=>(h8 p hb).2.1 rfl
 have hv':st.sd.writes=true→0≤v∧v < t.c.length:=by rw [tl];exact hv
 obtain ⟨w,g2,e57,rfl,s2,M2⟩:=(value57_ok hp (h3.ext x) h4 hDsg hDp t9 tok hv').elim
 obtain ⟨hsl,hmay⟩:=Side.val_may tok hv'
 have so2:=Side.code_ok h4 hm hmay
 have M2n:=M2.n
 have hp2:g2.get p=_:=(M2.get p (by omega) hDp).trans hp
 have hDw2:∀ b,Dw b→b < g.n→g2.get b=g.get b:=fun b hb hb2=>M2.get b hb2 (h9 b hb).2.2.2
 have bb2:g2.get bb=_:=(hDw2 bb t10 (H.get_lt t6)).trans t6
 have t8':g2.rdN bb (c*2) 2=some [vc,.int .i64 t.n]:=by rw [← t8];unfold H.rdN;rw [bb2,t6]
 have hbp:bb ≠ p:=(h9 bb t10).2.1
 have zn:IntKind.i64.wrap (st.n+1)=st.n+1:=wi64 (by omega) (by omega)
 obtain ⟨s,hs⟩:∃ s,s=st.sd.val t v:=⟨_,rfl⟩
 have hsv:st.symV k c v=s:=by rw [hs,htd];rfl
 rw [← hs] at e57 s2 hsl so2
 rw [hsv]
 have cw:¬ ((st.sd.writes=true)∧(v < 0∨(vl k:Int)≤v)):=fun hw=>by have:=hv hw.1;omega
 have hsym:st.sym k c v=⟨st.sd.code (pt t s) (pt t (s+1)),if st.ad then st.S.set k ((st.S.getD k []).set c (adaptP t s)) else st.S,st.ad,st.n+1⟩:=by
   rw [St.sym,← htd,← hs]
 have hgr:st.S.getD k []=r:=by simp [hr]
 rw [w61,f61,s61]
 cases had:st.ad with
 | false =>
   obtain ⟨g5,hg5⟩:∃ x,x=g2.put p (.cells [vo,vi,vs,.bool st.ad,.int .i64 (st.n+1)] 63 false):=⟨_,rfl⟩
   have hw5:g2.wr1 p 4 (.int .i64 (st.n+1))=some g5:=by rw [wr1_of hp2 (by simp),hg5];rfl
   have hfin:CoderAt (grow D h g5) g5 p (m+1) (st.sym k c v)∧Mod D h g5:=by
    have hn5:g5.n=g2.n:=by rw [hg5,H.n_put]
    refine ⟨⟨vo,vi,vs,grow Ds g g2,Dw,?_,.inl h2,?_,?_,?_,?_,?_,fun b hb=>?_,fun b hb=>?_⟩,⟨by omega,fun d hd hdd=>?_⟩⟩
    ·rw [hg5,get_put_same (H.get_lt hp2),hsym]
    ·rw [hsym]
     exact s2.keep fun b hb hb2=>by
      rw [hg5,get_put_ne];rintro rfl
      rcases hb with hb | hb
      ·exact hDp hb
      ·omega
    ·rw [hsym];exact so2
    ·rw [hsym,had]
     exact (h5.ext x).keep fun b hb hb2=>by rw [hg5,get_put_ne (h9 b hb).2.1,hDw2 b hb hb2]
    ·rw [hsym,had];exact h6
    ·rw [hsym];show 0≤st.n+1∧st.n+1≤100*((m+1:Nat):Int);omega
    ·rcases hb with hb | hb
     ·have:=h8 b hb;exact ⟨.inl this.1,this.2.1,by omega⟩
     ·exact ⟨.inr ⟨by omega,by omega⟩,by omega,by omega⟩
    ·have:=h9 b hb
     refine ⟨.inl this.1,this.2.1,by omega,?_⟩
     rintro (h | h)
     ·exact this.2.2.2 h
     ·omega
    ·rw [hg5,get_put_ne (fun e=>hdd (by rw [e];exact h2)),M2.get d (by omega) (fun hb=>hdd (h8 d hb).1),x.get d hd]
   rw [had] at hp2 hp
   cases hw:st.sd.writes with
   | false =>
    rw [hw] at e14
    simp [e44,e33,show ¬ (c:Int) < 0 by omega,show ¬ (cx k:Int)≤c by omega,show ¬ cx k≤c by omega,e14,gl_t,rd1_of hp,t1,t2,t5,t8,e57,rd1_of hp2,zn,hw5]
    exact ⟨rfl,hfin⟩
   | true =>
    rw [hw] at e14
    have:=hv hw
    simp [e44,e33,show ¬ (c:Int) < 0 by omega,show ¬ (cx k:Int)≤c by omega,show ¬ cx k≤c by omega,e14,show ¬ v < 0 by omega,show ¬ (vl k:Int)≤v by omega,gl_t,rd1_of hp,t1,t2,t5,t8,e57,rd1_of hp2,zn,hw5]
    exact ⟨rfl,hfin⟩
 | true =>
   have U2:U16 Dw g2 vc t.c:=t9.keep fun b x hb hx=>hDw2 b hb (H.get_lt hx)
   obtain ⟨w,g3,e35,vt,rfl,⟨vc',rfl,U3⟩,x3⟩:=(adapt35_ok U2 tok hsl).elim
   have x3n:=x3.n
   have bb3:g3.get bb=_:=(x3.get _ (H.get_lt bb2)).trans bb2
   have hp3:g3.get p=_:=(x3.get _ (H.get_lt hp2)).trans hp2
   obtain ⟨g4,hg4⟩:∃ x,x=g3.put bb (.cells (splice cells (c*2) [vc',.int .i64 (adaptP t s).n]) 76 false):=⟨_,rfl⟩
   have hw4:g3.wrN bb (c*2) [vc',.int .i64 (adaptP t s).n]=some g4:=by rw [wrN_of bb3 (by simp;omega),hg4]
   have hp4:g4.get p=_:=(show g4.get p=g3.get p by rw [hg4,get_put_ne (fun e=>hbp e.symm)]).trans hp3
   have W4:SetW (fun b=>Dw b∨(g2.n≤b∧b < g3.n)) g4 vs (st.S.set k (r.set c (adaptP t s))):=by
    rw [hg4]
    refine t11 g3 _ vc' (adaptP t s) (fun b hb hb2=>by rw [x3.get b (by omega),hDw2 b hb hb2]) (by omega) (fun b hb _=>.inl hb) (U3.mono fun b hb hd=>.inr ⟨hd,hb⟩)
   obtain ⟨g5,hg5⟩:∃ x,x=g4.put p (.cells [vo,vi,vs,.bool st.ad,.int .i64 (st.n+1)] 63 false):=⟨_,rfl⟩
   have hw5:g4.wr1 p 4 (.int .i64 (st.n+1))=some g5:=by rw [wr1_of hp4 (by simp),hg5];rfl
   have hn4:g4.n=g3.n:=by rw [hg4,H.n_put]
   have hn5:g5.n=g3.n:=by rw [hg5,H.n_put,hn4]
   have hfin:CoderAt (grow D h g5) g5 p (m+1) (st.sym k c v)∧Mod D h g5:=by
    refine ⟨⟨vo,vi,vs,grow Ds g g2,fun b=>Dw b∨(g2.n≤b∧b < g3.n),?_,.inl h2,?_,?_,?_,?_,?_,fun b hb=>?_,fun b hb=>?_⟩,⟨by omega,fun d hd hdd=>?_⟩⟩
    ·rw [hg5,get_put_same (H.get_lt hp4),hsym]
    ·rw [hsym]
     exact s2.keep fun b hb hb2=>by
      have hbp2:b ≠ p:=by
       rintro rfl
       rcases hb with hb | hb
       ·exact hDp hb
       ·omega
      have hbb:b ≠ bb:=by
       rintro rfl
       rcases hb with hb | hb
       ·exact (h9 b t10).2.2.2 hb
       ·have:=(h9 b t10).2.2.1;omega
      rw [hg5,get_put_ne hbp2,hg4,get_put_ne hbb,x3.get b hb2]
    ·rw [hsym];exact so2
    ·rw [hsym,if_pos had,hgr]
     exact W4.keep fun b hb hb2=>by
      rw [hg5,get_put_ne];rintro rfl
      rcases hb with hb | hb
      ·exact (h9 b hb).2.1 rfl
      ·omega
    ·rw [hsym,if_pos had];exact h6.set hk (adaptP_ok tok s) (by rw [adaptP_len,tl])
    ·rw [hsym];show 0≤st.n+1∧st.n+1≤100*((m+1:Nat):Int);omega
    ·rcases hb with hb | hb
     ·have:=h8 b hb;exact ⟨.inl this.1,this.2.1,by omega⟩
     ·exact ⟨.inr ⟨by omega,by omega⟩,by omega,by omega⟩
    ·rcases hb with hb | hb
     ·have:=h9 b hb
      refine ⟨.inl this.1,this.2.1,by omega,?_⟩
      rintro (h | h)
      ·exact this.2.2.2 h
      ·omega
     ·refine ⟨.inr ⟨by omega,by omega⟩,by omega,by omega,?_⟩
      rintro (h | h)
      ·have:=(h8 b h).2.2;omega
      ·omega
    ·rw [hg5,get_put_ne (fun e=>hdd (by rw [e];exact h2)),hg4,get_put_ne (fun e=>hdd (by rw [e];exact (h9 bb t10).1)),x3.get d (by omega),M2.get d (by omega) (fun hb=>hdd (h8 d hb).1),x.get d hd]
   rw [had] at hp2 hp hp4
   cases hw:st.sd.writes with
   | false =>
    rw [hw] at e14
    simp [e44,e33,show ¬ (c:Int) < 0 by omega,show ¬ (cx k:Int)≤c by omega,show ¬ cx k≤c by omega,e14,gl_t,rd1_of hp,t1,t2,t5,t8,e57,rd1_of hp2,t8',e35,hw4,rd1_of hp4,zn,hw5]
    exact ⟨rfl,hfin⟩
   | true =>
    rw [hw] at e14
    have:=hv hw
    simp [e44,e33,show ¬ (c:Int) < 0 by omega,show ¬ (cx k:Int)≤c by omega,show ¬ cx k≤c by omega,e14,show ¬ v < 0 by omega,show ¬ (vl k:Int)≤v by omega,gl_t,rd1_of hp,t1,t2,t5,t8,e57,rd1_of hp2,t8',e35,hw4,rd1_of hp4,zn,hw5]
    exact ⟨rfl,hfin⟩
open Go.Zf (wi64)
def Side.bit (v:Nat):Side→Nat
 | .w _ _ _=>v
 | .r _ code rng=>value code rng / 16384
theorem Side.bit_may {v:Nat} (hv:v < 2) (sd:Side):sd.bit v < 2∧sd.may (sd.bit v*16384) (sd.bit v*16384+16384):=by
 cases sd with
 | w out low rng=>exact ⟨hv,by show v*16384 < v*16384+16384;omega,by show v*16384+16384≤32768;omega⟩
 | r rest code rng =>
   have:=value_lt code rng
   refine ⟨by show value code rng / 16384 < 2;omega,?_,?_,?_⟩
   ·show value code rng / 16384*16384≤value code rng;omega
   ·show value code rng < value code rng / 16384*16384+16384;omega
   ·show value code rng / 16384*16384+16384≤32768;omega
def bits:Nat→Nat→Nat→Side→Nat × Side
 | 0,_,out,sd=>(out,sd)
 | j+1,v,out,sd=>bits j v (2*out+sd.bit (v / 2 ^ j % 2)) (sd.code (sd.bit (v / 2 ^ j % 2)*16384) (sd.bit (v / 2 ^ j % 2)*16384+16384))
theorem bits_ok:∀ (j v out:Nat) {m:Nat} {sd:Side},SideOk m sd→m+j < 100000000→SideOk (m+j) (bits j v out sd).2∧(bits j v out sd).1 < (out+1)*2 ^ j
 | 0,v,out,m,sd,ok,hm=>⟨ok,by simp [bits]⟩
 | j+1,v,out,m,sd,ok,hm=>by
   have h1:=Side.bit_may (v:=v / 2 ^ j % 2) (by omega) sd
   have ih:=bits_ok j v (2*out+sd.bit (v / 2 ^ j % 2)) (Side.code_ok ok (by omega) h1.2) (by omega)
   refine ⟨by rw [show m+(j+1)=m+1+j by omega];exact ih.1,Nat.lt_of_lt_of_le ih.2 ?_⟩
   rw [Nat.pow_succ,Nat.mul_comm (2 ^ j) 2,← Nat.mul_assoc]
   exact Nat.mul_le_mul_right _ (by omega)
theorem bit56_ok {D:Nat→Prop} {h:H} {p m:Nat} {vo vi vs ba bn:V} {sd:Side} {v:Int} (hp:h.get p=some (.cells [vo,vi,vs,ba,bn] 63 false)) (s:SideAt D h vo vi sd) (so:SideOk m sd) (hv:0≤v∧v < 2) :
   RT (fun w h'=>w=.tup [.int .i64 (sd.bit v.toNat:Nat),.int .i64 0]∧SideAt (grow D h h') h' vo vi (sd.code (sd.bit v.toNat*16384) (sd.bit v.toNat*16384+16384))∧Mod D h h') (KW 67 [.ptr p 0,.int .i64 v] h):=by
 have e14:=writes14_ok hp s
 obtain ⟨n,rfl⟩:∃ n:Nat,v=n:=⟨v.toNat,by omega⟩
 rw [Int.toNat_natCast]
 obtain ⟨hb,hmay⟩:=Side.bit_may (v:=n) (by omega) sd
 rw [w67,f67,s67]
 cases sd with
 | w out low rng =>
   obtain ⟨e,rfl,rfl,E1⟩:=s
   simp only [Side.bit] at hb hmay ⊢
   obtain ⟨h3,e82,E3,M3⟩:=put82_ok E1 so hmay.1 hmay.2
   have z1:IntKind.u32.wrap (n:Int)=n:=wu32 (by omega) (by omega)
   have z2:IntKind.u32.wrap ((n:Int)*16384)=n*16384:=wu32 (by omega) (by omega)
   have z3:IntKind.u32.wrap ((n:Int)*16384+16384)=n*16384+16384:=wu32 (by omega) (by omega)
   simp at e82
   simp [e14,Side.writes,z1,z2,z3,rd1_of hp,e82]
   exact ⟨rfl,⟨e,rfl,rfl,E3⟩,M3⟩
 | r rest code rng =>
   obtain ⟨e,rfl,rfl,E1⟩:=s
   simp only [Side.bit] at hb hmay ⊢
   have hE:=E1
   obtain ⟨va,da,_⟩:=E1
   have e81:=value21_ok da so.1
   obtain ⟨h4,e83,E4,M4⟩:=take83_ok hE so hmay.1 hmay.2.1 hmay.2.2
   obtain ⟨b,hbe⟩:∃ b,b=value code rng / 16384:=⟨_,rfl⟩
   rw [← hbe] at e83 hb E4 ⊢
   have hd:((value code rng:Nat):Int).tdiv 16384=(b:Int):=by rw [Int.tdiv_eq_ediv_of_nonneg (by omega),hbe];simp
   have z0:IntKind.u32.wrap (b:Int)=b:=wu32 (by omega) (by omega)
   have z1:IntKind.i64.wrap (b:Int)=b:=wi64 (by omega) (by omega)
   have z2:IntKind.u32.wrap ((b:Int)*16384)=b*16384:=wu32 (by omega) (by omega)
   have z3:IntKind.u32.wrap ((b:Int)*16384+16384)=b*16384+16384:=wu32 (by omega) (by omega)
   simp at e83
   simp [e14,Side.writes,rd1_of hp,e81,hd,z0,z1,z2,z3,e83]
   exact ⟨rfl,⟨e,rfl,rfl,E4.mono fun b hb hd=>.inl hd⟩,M4⟩
theorem or_bit {a b:Nat} (ha:a < 4611686018427387904) (hb:b < 2):IntKind.i64.wrap ((BitVec.ofInt 64 (2*(a:Int)) ||| BitVec.ofInt 64 (b:Int)).toNat:Int)=((2*a+b:Nat):Int):=by
 have e1:(BitVec.ofInt 64 (2*(a:Int))).toNat=2*a:=by
   rw [show (2*(a:Int))=((2*a:Nat):Int) by simp,BitVec.ofInt_natCast,BitVec.toNat_ofNat,Nat.mod_eq_of_lt (by omega)]
 have e2:(BitVec.ofInt 64 (b:Int)).toNat=b:=by
   rw [BitVec.ofInt_natCast,BitVec.toNat_ofNat,Nat.mod_eq_of_lt (by omega)]
 rw [BitVec.toNat_or,e1,e2]
 have:=Nat.shiftLeft_add_eq_or_of_lt (a:=a) (i:=1) (b:=b) (by omega)
 rw [Nat.shiftLeft_eq,Nat.pow_one,Nat.mul_comm a 2] at this
 rw [← this]
 exact wi64 (by omega) (by omega)
open Go.Zf (wi64)
def St.num (st:St) (n v:Nat):St:=⟨(bits n v 0 st.sd).2,st.S,st.ad,st.n+n⟩
def St.numV (st:St) (n v:Nat):Nat:=(bits n v 0 st.sd).1
theorem Side.code_writes (sd:Side) (lo hi:Nat):(sd.code lo hi).writes=sd.writes:=by cases sd <;> rfl
theorem bit_any {sd:Side} {v:Int} (hv:sd.writes=true→0≤v) (j:Nat):sd.bit (v.fdiv (2 ^ j) % 2).toNat=sd.bit (v.toNat / 2 ^ j % 2):=by
 cases sd with
 | w out low rng =>
   have h0:=hv rfl
   obtain ⟨n,rfl⟩:∃ n:Nat,v=n:=⟨v.toNat,by omega⟩
   show ((n:Int).fdiv (2 ^ j) % 2).toNat=(n:Int).toNat / 2 ^ j % 2
   rw [Int.toNat_natCast,Int.fdiv_eq_ediv_of_nonneg _ (Int.pow_nonneg (by decide))]
   have:((n:Int) / 2 ^ j % 2)=((n / 2 ^ j % 2:Nat):Int):=by simp
   rw [this,Int.toNat_natCast]
 | r rest code rng=>rfl
structure I29 (h0:H) (Ds:Nat→Prop) (p m n:Nat) (v:Int) (vo vi:V) (c:List V) (st0:Side) (j:Nat) (e:E) (g:H):Prop where
 hj:j≤n
 md:Mod Ds h0 g
 q:∃ sd out,SideAt (grow Ds h0 g) g vo vi sd∧SideOk (m+(n - j)) sd∧sd.writes=st0.writes∧out < pw (n - j)∧bits j v.toNat out sd=bits n v.toNat 0 st0∧e.s [0,1,2,6,7,8,9,10,11,36,37] 8=.int .i64 (out:Nat)
 e0:e.s [0,1,2,6,7,8,9,10,11,36,37] 0=.ptr p 0
 e1:e.s [0,1,2,6,7,8,9,10,11,36,37] 1=.int .i64 n
 e2:e.s [0,1,2,6,7,8,9,10,11,36,37] 2=.int .i64 v
 e36:e.s [0,1,2,6,7,8,9,10,11,36,37] 36=.int .i64 n
 e37:e.s [0,1,2,6,7,8,9,10,11,36,37] 37=.int .i64 ((n - j:Nat):Int)
theorem loop29 {Ds:Nat→Prop} {h:H} {p m n:Nat} {v:Int} {vo vi vs ba bn:V} {sd0:Side} (hp:h.get p=some (.cells [vo,vi,vs,ba,bn] 63 false)) (hDp:¬ Ds p) (hn:n≤30) (hm:m+n < 100000000) (hv:sd0.writes=true→0≤v) {e:E} {g:H} (hi:I29 h Ds p m n v vo vi [] sd0 n e g) :
   ∃ e' g',loopZ (l38_0 KW loopZ) e g=some ⟨.ex 1,e',g'⟩∧I29 h Ds p m n v vo vi [] sd0 0 e' g':=by
 have loop:=loop_run (body:=l38_0 KW loopZ) (I29 h Ds p m n v vo vi [] sd0) (fun s=>s.x=.ex 1∧I29 h Ds p m n v vo vi [] sd0 0 s.e s.h)
   (fun j e g hi=>by
    obtain ⟨hj,md,⟨sd,out,q1,q2,q3,q4,q5,e8⟩,e0,e1,e2,e36,e37⟩:=hi
    have hpl:=H.get_lt hp
    have hpg:g.get p=_:=(md.get p hpl hDp).trans hp
    have hgn:=md.n
    cases j with
    | zero =>
     simp [l38_0,e36,e37]
     exact ⟨rfl,hj,md,⟨sd,out,q1,q2,q3,q4,q5,by simp [e8]⟩,by simp [e0],by simp [e1],by simp [e2],by simp [e36],by simp [e37]⟩
    | succ j =>
     obtain ⟨i,hi⟩:∃ i,i=n - (j+1):=⟨_,rfl⟩
     have hi2:n - j=i+1:=by omega
     rw [← hi] at e37 q2 q4
     obtain ⟨y,hy⟩:∃ y,y=v.fdiv (2 ^ j) % 2:=⟨_,rfl⟩
     have hy2:0≤y∧y < 2:=by rw [hy];omega
     obtain ⟨w,g1,e56,rfl,s1,M1⟩:=(bit56_ok (D:=grow Ds h g) hpg q1 q2 hy2).elim
     have hb:=bit_any (sd:=sd) (v:=v) (by rw [q3];exact hv) j
     rw [← hy] at hb
     rw [hb] at e56 s1
     have hbm:=Side.bit_may (v:=v.toNat / 2 ^ j % 2) (by omega) sd
     have hpw:pw i≤pw 30:=Nat.pow_le_pow_right (by decide) (by omega)
     have hpw2:pw (i+1)=2*pw i:=by simp [pw,Nat.pow_succ,Nat.mul_comm]
     have hp30:pw 30=1073741824:=by decide
     have z1:IntKind.i64.wrap ((n:Int) - 1)=n - 1:=wi64 (by omega) (by omega)
     have z2:IntKind.i64.wrap ((n:Int) - 1 - (i:Int))=(j:Int):=by rw [wi64 (by omega) (by omega)];omega
     have z3:IntKind.i64.wrap ((i:Int)+1)=i+1:=wi64 (by omega) (by omega)
     have hmin:min j IntKind.i64.bits=j:=Nat.min_eq_left (by rw [show IntKind.i64.bits=64 from rfl];omega)
     have mk:binK 0 .and (.int .i64 (v.fdiv (2 ^ j))) (.int .i64 1)=some (.int .i64 y):=by
      have:=binK_mask 0 (v.fdiv (2 ^ j)) 1 (by decide)
      rw [hy];simpa using this
     obtain ⟨b,hbe⟩:∃ b,b=sd.bit (v.toNat / 2 ^ j % 2):=⟨_,rfl⟩
     rw [← hbe] at e56 s1 hbm
     have z4:IntKind.i64.wrap ((out:Int)*2)=2*out:=by rw [wi64 (by omega) (by omega)];omega
     have mo:binK 0 .or (.int .i64 (2*(out:Int))) (.int .i64 (b:Nat))=some (.int .i64 ((2*out+b:Nat):Int)):=by
      rw [binK_or];exact congrArg (fun x=>some (V.int .i64 x)) (or_bit (by omega) hbm.1)
     have hsh:min (1:Nat) IntKind.i64.bits=1:=rfl
     simp [-binK_and,-binK_or,l38_0,e36,e37,show (i:Int) < n by omega,show i < n by omega,e0,e1,z1,z2,e2,show ¬ (j:Int) < 0 by omega,hmin,mk,e56,e8,hsh,z4,mo,z3]
     have M2:Mod Ds h g1:=md.trans M1
     refine ⟨j,Nat.lt_succ_self j,by omega,M2,⟨_,2*out+b,s1.mono fun d hd hdd=>?_,?_,by rw [Side.code_writes];exact q3,by rw [hi2,hpw2];omega,?_,by simp⟩,by simp [e0],by simp [e1],by simp [e2],by simp [e36],by simp [hi2]⟩
     ·rcases hdd with (hd1 | hd1) | hd1
      ·exact .inl hd1
      ·exact .inr ⟨hd1.1,hd⟩
      ·exact .inr ⟨by omega,hd⟩
     ·rw [hi2,← Nat.add_assoc];exact Side.code_ok q2 (by omega) hbm.2
     ·rw [← q5,bits,← hbe])
 obtain ⟨⟨x,e',g'⟩,r1,r2,r3⟩:=loop n e g hi
 simp only at r2 r3
 subst r2
 exact ⟨e',g',r1,r3⟩
open Go.Zf (wi64)
theorem bits29_ok {D:Nat→Prop} {h:H} {p m n:Nat} {st:St} {v:Int} (a:CoderAt D h p m st) (hn:n≤30) (hm:m+n < 100000000) (hv:st.sd.writes=true→0≤v∧v < pw n) :
   RT (fun w h'=>w=.tup [.int .i64 (st.numV n v.toNat:Nat),.int .i64 0]∧CoderAt (grow D h h') h' p (m+n) (st.num n v.toNat)∧Mod D h h') (KW 38 [.ptr p 0,.int .i64 n,.int .i64 v] h):=by
 obtain ⟨vo,vi,vs,Ds,Dw,h1,h2,h3,h4,h5,h6,h7,h8,h9⟩:=a
 have e44:=none44_ok h1 h3
 have e14:=writes14_ok h1 h3
 have hpl:=H.get_lt h1
 have hDp:¬ Ds p:=fun hb=>(h8 p hb).2.1 rfl
 obtain ⟨e',g',r1,I⟩:=loop29 (v:=v) (n:=n) (m:=m) h1 hDp hn hm (fun hw=>(hv hw).1)
   (e:=⟨[.ptr p 0,.int .i64 n,.int .i64 v,.int .i64 0,.int .i64 0,.int .i64 0,.tup [],.tup [],.tup [],.int .i64 n,.int .i64 0],37,.int .i64 0⟩) (g:=h)
   ⟨Nat.le_refl _,Mod.refl _ _,⟨st.sd,0,h3.mono fun b _ hb=>.inl hb,by rw [Nat.sub_self];exact h4,rfl,by rw [Nat.sub_self];decide,rfl,by simp⟩,by simp,by simp,by simp,by simp,by simp⟩
 obtain ⟨_,md,⟨sd,out,q1,q2,q3,q4,q5,e8⟩,e0,e1,e2,e36,e37⟩:=I
 have q5':(out,sd)=bits n v.toNat 0 st.sd:=q5
 have hout:out=st.numV n v.toNat:=by rw [St.numV,← q5']
 have hsd:sd=(st.num n v.toNat).sd:=by rw [St.num,← q5']
 rw [Nat.sub_zero] at q2
 have mn:=md.n
 have hp':g'.get p=_:=(md.get p hpl hDp).trans h1
 obtain ⟨g5,hg5⟩:∃ x,x=g'.put p (.cells [vo,vi,vs,.bool st.ad,.int .i64 (st.n+n)] 63 false):=⟨_,rfl⟩
 have hw5:g'.wr1 p 4 (.int .i64 (st.n+n))=some g5:=by rw [wr1_of hp' (by simp),hg5];rfl
 have zn:IntKind.i64.wrap (st.n+n)=st.n+n:=wi64 (by omega) (by omega)
 have hfin:CoderAt (grow D h g5) g5 p (m+n) (st.num n v.toNat)∧Mod D h g5:=by
   have hn5:g5.n=g'.n:=by rw [hg5,H.n_put]
   refine ⟨⟨vo,vi,vs,grow Ds h g',Dw,?_,.inl h2,?_,?_,?_,h6,?_,fun b hb=>?_,fun b hb=>?_⟩,⟨by omega,fun d hd hdd=>?_⟩⟩
   ·rw [hg5,get_put_same (H.get_lt hp')];rfl
   ·rw [← hsd]
    exact q1.keep fun b hb hb2=>by
     rw [hg5,get_put_ne];rintro rfl
     rcases hb with hb | hb
     ·exact hDp hb
     ·omega
   ·rw [← hsd];exact q2
   ·exact h5.keep fun b hb hb2=>by rw [hg5,get_put_ne (h9 b hb).2.1,md.get b hb2 (h9 b hb).2.2.2]
   ·show 0≤st.n+n∧st.n+n≤100*((m+n:Nat):Int);omega
   ·rcases hb with hb | hb
    ·have:=h8 b hb;exact ⟨.inl this.1,this.2.1,by omega⟩
    ·exact ⟨.inr ⟨by omega,by omega⟩,by omega,by omega⟩
   ·have:=h9 b hb
    refine ⟨.inl this.1,this.2.1,by omega,?_⟩
    rintro (h | h)
    ·exact this.2.2.2 h
    ·omega
   ·rw [hg5,get_put_ne (fun e=>hdd (by rw [e];exact h2)),md.get d hd (fun hb=>hdd (h8 d hb).1)]
 rw [← hout]
 rw [w38,f38,s38]
 cases hw:st.sd.writes with
 | false =>
   rw [hw] at e14
   simp [e44,show ¬ (n:Int) < 0 by omega,show ¬ (30:Int) < n by omega,show ¬ 30 < n by omega,e14,gl_t,r1,e0,rd1_of hp',e1,zn,hw5,e8]
   exact ⟨rfl,hfin⟩
 | true =>
   rw [hw] at e14
   have hv1:=hv hw
   have hmin:min n IntKind.i64.bits=n:=Nat.min_eq_left (by rw [show IntKind.i64.bits=64 from rfl];omega)
   have hsh:v.fdiv (2 ^ n)=0:=by
    rw [Int.fdiv_eq_ediv_of_nonneg _ (Int.pow_nonneg (by decide))]
    apply Int.ediv_eq_zero_of_lt hv1.1
    have:=hv1.2
    rw [pw] at this
    simpa using this
   simp [e44,show ¬ (n:Int) < 0 by omega,show ¬ (30:Int) < n by omega,show ¬ 30 < n by omega,e14,show ¬ v < 0 by omega,hmin,hsh,gl_t,r1,e0,rd1_of hp',e1,zn,hw5,e8]
   exact ⟨rfl,hfin⟩
theorem set17_ok {D:Nat→Prop} {h:H} {p m:Nat} {st:St} (a:CoderAt D h p m st):RT (fun w h'=>∃ v,w=.tup [.agg [v],.int .i64 0]∧SetW (fun b=>h.n≤b) h' v st.S∧Ext h h') (KW 19 [.ptr p 0] h):=by
 obtain ⟨vo,vi,vs,Ds,Dw,h1,h2,h3,h4,h5,h6,h7,h8,h9⟩:=a
 obtain ⟨g,hg⟩:∃ g,g=h.new (.cells [.nils] 29 false):=⟨_,rfl⟩
 have x:Ext h g:=by rw [hg];exact (Ext.refl h).new _
 have gn:g.n=h.n+1:=by rw [hg,H.n_new]
 have r0:g.get h.n=some (.cells [.nils] 29 false):=by rw [hg,get_new_same]
 have hp:g.get p=_:=(x.get _ (H.get_lt h1)).trans h1
 have e44:=none44_ok hp (h3.ext x)
 obtain ⟨w,g2,e38,v',rfl,W,x2⟩:=(copy38_ok (h5.ext x).setR h6.small).elim
 have r2:g2.get h.n=_:=(x2.get _ (H.get_lt r0)).trans r0
 obtain ⟨g3,hg3⟩:∃ y,y=g2.put h.n (.cells [v'] 29 false):=⟨_,rfl⟩
 have r3:g3.get h.n=some (.cells [v'] 29 false):=by rw [hg3,get_put_same (H.get_lt r2)]
 rw [w19,f19,s19]
 simp [nw,← hg,e44,rdN_of (o:=2) (n:=1) hp (by simp),e38,wrN_of (o:=0) r2,splice,← hg3,rdN_of (o:=0) (n:=1) r3 (by simp)]
 refine ⟨v',rfl,?_,(x.trans x2).put (Nat.le_refl _) _ |> fun y=>by rw [hg3];exact y⟩
 have W2:=(W.setW h6.full).keep (h':=g3) fun b hb _=>by rw [hg3,get_put_ne];have hb:g.n≤b:=hb;omega
 exact W2.mono fun b _ hb=>by have hb:g.n≤b:=hb;show h.n≤b;omega
theorem count32_ok {D:Nat→Prop} {h:H} {p m:Nat} {st:St} (a:CoderAt D h p m st):KW 14 [.ptr p 0] h=some (.ret (.int .i64 st.n),h):=by
 obtain ⟨vo,vi,vs,Ds,Dw,h1,h2,h3,h4,h5,h6,h7,h8,h9⟩:=a
 have e44:=none44_ok h1 h3
 rw [w14,f14,s14]
 simp [e44,rd1_of h1]
open Go.Zf (wi64)
def newW (S:List (List Tb)) (ad:Bool):St:=⟨.w [] 0 4294967295,S,ad,0⟩
def newR (l:List Nat) (S:List (List Tb)) (ad:Bool):St:=⟨.r (dread l).1 (dread l).2 4294967295,S,ad,0⟩
theorem writer12_ok {D:Nat→Prop} {h:H} {v:V} {S:List (List Tb)} (u:SetR D h v S) (ok:SetOk S) (ad:Bool) :
   RT (fun w h'=>∃ p,w=.tup [.ptr p 0,.int .i64 0]∧CoderAt (fun b=>h.n≤b) h' p 0 (newW S ad)∧Ext h h') (KW 6 [.agg [v],.bool ad] h):=by
 obtain ⟨h1,b1,x1,g1,n1,u1⟩:=box25 u
 obtain ⟨w,h2,e34,rfl,x2⟩:=(check34_ok u1 ok.small).elim
 rw [if_pos ok] at e34
 obtain ⟨h3,e42,E3,m3,f3⟩:=new10_ok h2
 have x3:Ext h2 h3:=⟨by omega,f3⟩
 have x2n:=x2.n
 obtain ⟨w,h4,e38,v',rfl,W,x4⟩:=(copy38_ok ((u1.ext x2).ext x3) ok.small).elim
 have g2:h2.get h.n=_:=(x2.get _ (H.get_lt g1)).trans g1
 have g3:h3.get h.n=_:=(x3.get _ (H.get_lt g2)).trans g2
 obtain ⟨h5,hh5⟩:∃ g,g=h4.new (.cells [.ptr h2.n 0,.nilp,v',.bool ad,.int .i64 0] 63 false):=⟨_,rfl⟩
 have x5:Ext h4 h5:=by rw [hh5];exact (Ext.refl h4).new _
 have n5:h5.n=h4.n+1:=by rw [hh5,H.n_new]
 have r5:h5.get h4.n=some (.cells [.ptr h2.n 0,.nilp,v',.bool ad,.int .i64 0] 63 false):=by rw [hh5,get_new_same]
 have x4n:=x4.n
 have hbx:bx h4 63 (.agg [.ptr h2.n 0,.nilp,v',.bool ad,.int .i64 0])=some (.ptr h4.n 0,h5):=by rw [hh5];rfl
 have hvc:V.cells v'=some [v']:=by
   obtain ⟨cs,k1,k2⟩:=W.setR;exact k1.cells
 rw [w6,f6,s6]
 simp [b1,rdN_of (o:=0) (n:=1) g1 (by simp),e34,e42,rdN_of (o:=0) (n:=1) g2 (by simp),rdN_of (o:=0) (n:=1) g3 (by simp),e38,bl,fillW,splice,hvc,hbx,ck,V.same,V.sames,u.ckv]
 have hvs:=u.ckv (some ())
 simp [ck] at hvs
 simp [hvs]
 refine ⟨h4.n,rfl,⟨.ptr h2.n 0,.nilp,v',fun b=>b=h2.n,fun b=>h3.n≤b∧b < h4.n,r5,(show h.n≤h4.n by omega),⟨h2.n,rfl,rfl,.nils,?_,rfl,fun c o n k e=>by cases e⟩,⟨⟨by decide,by decide,by decide⟩,by simp,by decide⟩,?_,ok,⟨Int.le_refl _,Int.le_refl _⟩,fun b hb=>?_,fun b hb=>?_⟩,?_⟩
 · exact ⟨by rw [x5.get _ (by omega),x4.get _ (by omega)];exact E3.cell,.inl ⟨rfl,rfl⟩,E3.byte,E3.low64⟩
 · exact ((W.setW ok.full).mono fun b hb hd=>⟨hd,hb⟩).ext x5
 · have hb:b=h2.n:=hb
   exact ⟨(show h.n≤b by omega),by omega,by omega⟩
 · exact ⟨(show h.n≤b by omega),by omega,by omega,(show ¬ b=h2.n by omega)⟩
 · exact (((x1.trans x2).trans x3).trans x4).trans x5
theorem reader25_ok {D:Nat→Prop} {h:H} {v bv:V} {l:List Nat} {S:List (List Tb)} (sb:SlB h bv l) (hl:l.length < 140737488355329) (hb:∀ x ∈ l,x < 256) (u:SetR D h v S) (ok:SetOk S) (ad:Bool) :
   RT (fun w h'=>∃ p,w=.tup [.ptr p 0,.int .i64 0]∧CoderAt (fun b=>h.n≤b) h' p 0 (newR l S ad)∧Ext h h') (KW 23 [bv,.agg [v],.bool ad] h):=by
 obtain ⟨h1,b1,x1,g1,n1,u1⟩:=box25 u
 obtain ⟨w,h2,e34,rfl,x2⟩:=(check34_ok u1 ok.small).elim
 rw [if_pos ok] at e34
 have x2n:=x2.n
 obtain ⟨h3,q,v3,e51,hdec,q1,q2,f3⟩:=read19_ok ((sb.keep x1.get).keep x2.get) hl hb
 have hn3:h2.n≤h3.n:=by omega
 have x3:Ext h2 h3:=⟨hn3,f3⟩
 have E3:=hdec (fun c=>c=q∨¬ (h2.n≤c∧c < h3.n)) (.inl rfl) (fun c c1 c2 c3=>by rintro (e | e);exact c3 e;exact e ⟨c1,c2⟩)
 obtain ⟨w,h4,e38,v',rfl,W,x4⟩:=(copy38_ok ((u1.ext x2).ext x3) ok.small).elim
 have g2:h2.get h.n=_:=(x2.get _ (H.get_lt g1)).trans g1
 have g3:h3.get h.n=_:=(x3.get _ (H.get_lt g2)).trans g2
 obtain ⟨h5,hh5⟩:∃ g,g=h4.new (.cells [.nilp,.ptr q 0,v',.bool ad,.int .i64 0] 63 false):=⟨_,rfl⟩
 have x5:Ext h4 h5:=by rw [hh5];exact (Ext.refl h4).new _
 have n5:h5.n=h4.n+1:=by rw [hh5,H.n_new]
 have r5:h5.get h4.n=some (.cells [.nilp,.ptr q 0,v',.bool ad,.int .i64 0] 63 false):=by rw [hh5,get_new_same]
 have x4n:=x4.n
 have hbx:bx h4 63 (.agg [.nilp,.ptr q 0,v',.bool ad,.int .i64 0])=some (.ptr h4.n 0,h5):=by rw [hh5];rfl
 have hvc:V.cells v'=some [v']:=by
   obtain ⟨cs,k1,k2⟩:=W.setR;exact k1.cells
 have hdi:=dread_inv hb
 have hvs:=u.ckv (some ())
 simp [ck] at hvs
 rw [w23,f23,s23]
 simp [b1,rdN_of (o:=0) (n:=1) g1 (by simp),e34,e51,rdN_of (o:=0) (n:=1) g2 (by simp),rdN_of (o:=0) (n:=1) g3 (by simp),e38,bl,fillW,splice,hvc,hbx,ck,V.same,V.sames,hvs]
 have hE3:DecD (fun c=>h2.n≤c∧c < h3.n) h3 q (dread l).1 (dread l).2 4294967295:=⟨v3,E3,⟨q1,q2⟩⟩
 refine ⟨h4.n,rfl,⟨.nilp,.ptr q 0,v',fun b=>h2.n≤b∧b < h3.n,fun b=>h3.n≤b∧b < h4.n,r5,(show h.n≤h4.n by omega),⟨q,rfl,rfl,hE3.keep fun b hb hb2=>by rw [x5.get _ (by omega),x4.get _ hb2]⟩,⟨hdi.1,hdi.2,by decide⟩,?_,ok,⟨Int.le_refl _,Int.le_refl _⟩,fun b hb=>?_,fun b hb=>?_⟩,?_⟩
 · exact ((W.setW ok.full).mono fun b hb hd=>⟨hd,hb⟩).ext x5
 · exact ⟨(show h.n≤b by omega),by omega,by omega⟩
 · exact ⟨(show h.n≤b by omega),by omega,by omega,fun h=>by omega⟩
 · exact (((x1.trans x2).trans x3).trans x4).trans x5
theorem bytes19_ok {D:Nat→Prop} {h:H} {p m:Nat} {st:St} {out:List Nat} {low rng:Nat} (a:CoderAt D h p m st) (hs:st.sd=.w out low rng) :
   RT (fun w h'=>∃ v,w=.tup [v,.int .i64 0]∧Wr h' h.n v (bytes out low)∧Ext h h') (KW 17 [.ptr p 0] h):=by
 obtain ⟨vo,vi,vs,Ds,Dw,h1,h2,h3,h4,h5,h6,h7,h8,h9⟩:=a
 have e44:=none44_ok h1 h3
 have e14:=writes14_ok h1 h3
 rw [hs] at e14 h3 h4
 obtain ⟨e,rfl,rfl,v,ea,_⟩:=h3
 obtain ⟨h',v',k1,k2,k3,k4⟩:=bytes14_wr ea h4.1 (by have:=h4.2.1;have:=h4.2.2;omega)
 rw [w17,f17,s17]
 simp [e44,e14,Side.writes,rd1_of h1,k1]
 exact ⟨v',rfl,k2,k3,k4⟩
open Go.Zf (wi64)
theorem CoderAt.mod {D E:Nat→Prop} {h h':H} {p m:Nat} {st:St} (a:CoderAt D h p m st) (x:Mod E h h') (hd:∀ b,D b→b < h.n→¬ E b):CoderAt D h' p m st :=
 a.keep x.n fun b hb hb2=>x.get b hb2 (hd b hb hb2)
theorem CoderAt.ext {D:Nat→Prop} {h h':H} {p m:Nat} {st:St} (a:CoderAt D h p m st) (x:Ext h h'):CoderAt D h' p m st:=a.keep x.n fun b _ hb=>x.get b hb
theorem CoderAt.under {D:Nat→Prop} {h:H} {p m:Nat} {st:St} (a:CoderAt D h p m st):CoderAt (fun b=>D b∧b < h.n) h p m st:=a.mono fun b hb hd=>⟨hd,hb⟩
open Go.Zf (wi64)
def CoderRef (D:Nat→Prop) (h:H) (p m:Nat) (st:St):Prop :=
 ∃ vo vi vs Ds Dw,h.get p=some (.cells [vo,vi,vs,.bool st.ad,.int .i64 st.n] 46 false)∧D p∧SideRef Ds h m vo vi st.sd∧SideOk m st.sd∧SetW Dw h vs st.S∧SetOk st.S∧(0≤st.n∧st.n≤100*m) ∧
   (∀ b,Ds b→D b∧b ≠ p∧b < h.n)∧(∀ b,Dw b→D b∧b ≠ p∧b < h.n∧¬ Ds b)
theorem CoderRef.keep {D:Nat→Prop} {h h':H} {p m:Nat} {st:St} (a:CoderRef D h p m st) (hn:h.n≤h'.n) (hk:∀ b,D b→b < h.n→h'.get b=h.get b):CoderRef D h' p m st:=by
 obtain ⟨vo,vi,vs,Ds,Dw,h1,h2,h3,h4,h5,h6,h7,h8,h9⟩:=a
 exact ⟨vo,vi,vs,Ds,Dw,by rw [hk p h2 (H.get_lt h1),h1],h2,h3.keep fun b hb hb2=>hk b (h8 b hb).1 hb2,h4,h5.keep fun b hb hb2=>hk b (h9 b hb).1 hb2,h6,h7,
   fun b hb=>by have:=h8 b hb;exact ⟨this.1,this.2.1,by omega⟩,fun b hb=>by have:=h9 b hb;exact ⟨this.1,this.2.1,by omega,this.2.2.2⟩⟩
theorem CoderRef.mono {D E:Nat→Prop} {h:H} {p m:Nat} {st:St} (a:CoderRef D h p m st) (hd:∀ b,b < h.n→D b→E b):CoderRef E h p m st:=by
 obtain ⟨vo,vi,vs,Ds,Dw,h1,h2,h3,h4,h5,h6,h7,h8,h9⟩:=a
 exact ⟨vo,vi,vs,Ds,Dw,h1,hd p (H.get_lt h1) h2,h3,h4,h5,h6,h7,
   fun b hb=>by have:=h8 b hb;exact ⟨hd b this.2.2 this.1,this.2.1,this.2.2⟩,fun b hb=>by have:=h9 b hb;exact ⟨hd b this.2.2.1 this.1,this.2.1,this.2.2.1,this.2.2.2⟩⟩
theorem CoderRef.ext {D:Nat→Prop} {h h':H} {p m:Nat} {st:St} (a:CoderRef D h p m st) (x:Ext h h'):CoderRef D h' p m st:=a.keep x.n fun b _ hb=>x.get b hb
theorem CoderRef.under {D:Nat→Prop} {h:H} {p m:Nat} {st:St} (a:CoderRef D h p m st):CoderRef (fun b=>D b∧b < h.n) h p m st:=a.mono fun b hb hd=>⟨hd,hb⟩
theorem CoderRef.mod {D E:Nat→Prop} {h h':H} {p m:Nat} {st:St} (a:CoderRef D h p m st) (x:Mod E h h') (hd:∀ b,D b→b < h.n→¬ E b):CoderRef D h' p m st :=
 a.keep x.n fun b hb hb2=>x.get b hb2 (hd b hb hb2)
theorem CoderRef.ok {D:Nat→Prop} {h:H} {p m:Nat} {st:St} (a:CoderRef D h p m st):SetOk st.S∧SideOk m st.sd∧0≤st.n∧st.n≤100*m:=by
 obtain ⟨vo,vi,vs,Ds,Dw,h1,h2,h3,h4,h5,h6,h7,h8,h9⟩:=a
 exact ⟨h6,h4,h7.1,h7.2⟩
theorem SideRef.ext {D:Nat→Prop} {h h':H} {m:Nat} {vo vi:V} {sd:Side} (a:SideRef D h m vo vi sd) (x:Ext h h'):SideRef D h' m vo vi sd:=a.keep fun b _ hb=>x.get b hb
open Go.Zf (wi64)
theorem code41_w {Ds D2:Nat→Prop} {g:H} {m e:Nat} {out:List Nat} {low rng:Nat} {t:Tb} {vc:V} {s:Nat} (E1:EncD Ds g e 108 out low (.int .u64 rng)) (so:SideOk m (.w out low rng)) (u:U16 D2 g vc t.c) (ok:TabOk t) (hs:s < t.c.length) :
   ∃ g2 g3,KW 74 [.agg [vc,.int .i64 t.n],.int .i64 s] g=some (.ret (.tup [.int .u32 (pt t s:Nat),.int .u32 (pt t (s+1):Nat),.int .i64 0]),g2)∧Ext g g2 ∧
    KW 75 [.ptr e 0,.int .u32 (pt t s:Nat),.int .u32 (pt t (s+1):Nat)] g2=some (.ret (.int .i64 0),g3)∧SideRef (grow Ds g g3) g3 (m+1) (.ptr e 0) .nilp ((Side.w out low rng).code (pt t s) (pt t (s+1)))∧Mod Ds g g3∧Mod Ds g2 g3:=by
 obtain ⟨w,g2,e69,rfl,x2⟩:=(bounds69_ok u ok hs).elim
 have E2:=E1.keep (h':=g2) fun b _ hb=>x2.get b hb
 obtain ⟨g3,e70,E3,M3⟩:=put70_ok E2 so (pt_lt ok hs) (pt_le ok (by omega))
 refine ⟨g2,g3,e69,x2,e70,⟨e,rfl,rfl,E3.mono fun b hb hd=>?_⟩,(Mod.of x2).tr M3,M3⟩
 rcases hd with hd | ⟨hd1,hd2⟩
 · exact .inl hd
 · exact .inr ⟨by have:=x2.n;omega,hd2⟩
theorem code41_r {Ds D2:Nat→Prop} {g:H} {m e:Nat} {rest:List Nat} {code rng:Nat} {t:Tb} {vc:V} (E1:RefD Ds g m e rest code rng) (so:SideOk m (.r rest code rng)) (u:U16 D2 g vc t.c) (ok:TabOk t) :
   ∃ g2 g3 g4,KW 76 [.ptr e 0] g=some (.ret (.tup [.int .u32 (value code rng:Nat),.int .i64 0]),g)∧KW 77 [.agg [vc,.int .i64 t.n],.int .u32 (value code rng:Nat)] g=some (.ret (.tup [.int .i64 (findP t (value code rng):Nat),.int .i64 0]),g2)∧Ext g g2 ∧
    KW 74 [.agg [vc,.int .i64 t.n],.int .i64 (findP t (value code rng):Nat)] g2=some (.ret (.tup [.int .u32 (pt t (findP t (value code rng)):Nat),.int .u32 (pt t (findP t (value code rng)+1):Nat),.int .i64 0]),g3)∧Ext g2 g3 ∧
    KW 78 [.ptr e 0,.int .u32 (pt t (findP t (value code rng)):Nat),.int .u32 (pt t (findP t (value code rng)+1):Nat)] g3=some (.ret (.int .i64 0),g4)∧SideRef (grow Ds g g4) g4 (m+1) .nilp (.ptr e 0) ((Side.r rest code rng).code (pt t (findP t (value code rng))) (pt t (findP t (value code rng)+1)))∧Mod Ds g g4∧Mod Ds g3 g4:=by
 have hf:=findP_lt ok (value_lt code rng)
 have hE:=E1
 obtain ⟨at_,ra,_,_⟩:=E1
 have e71:=value22_ok ra so.1
 obtain ⟨w,g2,e72,rfl,x2⟩:=(find72_ok u ok (value_lt code rng)).elim
 obtain ⟨w,g3,e69,rfl,x3⟩:=(bounds69_ok (u.ext x2) ok hf.1).elim
 have E3:=hE.keep (h':=g3) fun b _ hb=>(x2.trans x3).get b hb
 obtain ⟨g4,e73,E4,M4⟩:=take73_ok E3 so hf.2.1 hf.2.2 (pt_le ok (by have:=hf.1;omega))
 exact ⟨g2,g3,g4,e71,e72,x2,e69,x3,e73,⟨e,rfl,rfl,E4.mono fun b hb hd=>.inl hd⟩,(Mod.of (x2.trans x3)).tr M4,M4⟩
open Go.Zf (wi64)
theorem SideRef.more {D:Nat→Prop} {h:H} {m m':Nat} {vo vi:V} {sd:Side} (a:SideRef D h m vo vi sd) (hm:m≤m'):SideRef D h m' vo vi sd:=by
 cases sd with
 | w o l r=>exact a
 | r o l r =>
   obtain ⟨e,h1,h2,at_,h3,h4,h5⟩:=a
   exact ⟨e,h1,h2,at_,h3,by omega,h5⟩
theorem put41 {D Ds Dw:Nat→Prop} {h g1 g3:H} {p m k c s B:Nat} {vo vi vs vc vr:V} {st:St} {t:Tb} {r:List Tb} {sd':Side} {bO oO bb:Nat} {cells:List V} {ad:Bool} {v:Int}
   (x1:Ext h g1) (hp:h.get p=some (.cells [vo,vi,vs,.bool st.ad,.int .i64 st.n] 46 false)) (hDp:D p) (h5:SetW Dw h vs st.S) (h6:SetOk st.S) (h7:0≤st.n∧st.n≤100*m) (hm:m+1 < 100000000)
   (h8:∀ b,Ds b→D b∧b ≠ p∧b < h.n) (h9:∀ b,Dw b→D b∧b ≠ p∧b < h.n∧¬ Ds b)
   (hk:k < 32) (hc:c < cx k) (hr:st.S[k]?=some r) (ht:r[c]?=some t) (tok:TabOk t) (tl:t.c.length=vl k) (hsl:s < t.c.length)
   (hB:h.n≤B) (b3:g3.get B=some (.cells [vc,.int .i64 t.n] 76 false)) (U:U16 Dw h vc t.c)
   (s3:SideRef (grow Ds g1 g3) g3 (m+1) vo vi sd') (so3:SideOk (m+1) sd') (M3:Mod Ds g1 g3)
   (t1:iaS 1 vs (.int .i64 k)=some (.ptr bO oO)) (t2:h.rd1 bO oO=some vr) (t3:Dw bO) (t4:bO < h.n) (t5:iaS 2 vr (.int .i64 c)=some (.ptr bb (c*2))) (t6:h.get bb=some (.cells cells 76 false)) (t7:c*2+2≤cells.length) (t10:Dw bb)
   (t11:∀ (h1:H) (E:Nat→Prop) (vc':V) (t':Tb),(∀ b,Dw b→b < h.n→h1.get b=h.get b)→h.n≤h1.n→(∀ b,Dw b→b < h.n→E b)→U16 E h1 vc' t'.c→SetW E (h1.put bb (.cells (splice cells (c*2) [vc',.int .i64 t'.n]) 76 false)) vs (st.S.set k (r.set c t')))
   (hsym:st.sym k c v=⟨sd',if st.ad then st.S.set k ((st.S.getD k []).set c (adaptP t s)) else st.S,st.ad,st.n+1⟩) :
   (st.ad=false→∃ g5,g3.rd1 p 4=some (.int .i64 st.n)∧g3.wr1 p 4 (.int .i64 (st.n+1))=some g5∧CoderRef (grow D h g5) g5 p (m+1) (st.sym k c v)∧Mod D h g5) ∧
   (st.ad=true→∃ vc' g4 g5 g6 g7,KW 79 [.agg [vc,.int .i64 t.n],.int .i64 s] g3=some (.ret (.tup [.agg [vc',.int .i64 (adaptP t s).n],.int .i64 0]),g4)∧(g4.new (.cells [.nils,.int .i64 0] 76 false)).wrN g4.n 0 [vc',.int .i64 (adaptP t s).n]=some g5∧g5.rdN g4.n 0 2=some [vc',.int .i64 (adaptP t s).n]∧g5.rd1 p 2=some vs∧g5.rd1 bO oO=some vr∧g5.wrN bb (c*2) [vc',.int .i64 (adaptP t s).n]=some g6∧g6.rd1 p 4=some (.int .i64 st.n)∧g6.wr1 p 4 (.int .i64 (st.n+1))=some g7∧V.cells vc'=some [vc']∧V.same vc' vc'=true∧V.same vs vs=true∧V.same vr vr=true∧CoderRef (grow D h g7) g7 p (m+1) (st.sym k c v)∧Mod D h g7):=by
 have hpl:=H.get_lt hp
 have x1n:=x1.n
 have M3n:=M3.n
 have hDsp:¬ Ds p:=fun hb=>(h8 p hb).2.1 rfl
 have keep3:∀ b,b < h.n→¬ Ds b→g3.get b=h.get b:=fun b hb hd=>by rw [M3.get b (by omega) hd,x1.get b hb]
 have hp3:g3.get p=_:=(keep3 p hpl hDsp).trans hp
 have hDw3:∀ b,Dw b→b < h.n→g3.get b=h.get b:=fun b hb hb2=>keep3 b hb2 (h9 b hb).2.2.2
 constructor
 · intro had
   obtain ⟨g5,hg5⟩:∃ x,x=g3.put p (.cells [vo,vi,vs,.bool st.ad,.int .i64 (st.n+1)] 46 false):=⟨_,rfl⟩
   have hw5:g3.wr1 p 4 (.int .i64 (st.n+1))=some g5:=by rw [wr1_of hp3 (by simp),hg5];rfl
   have hn5:g5.n=g3.n:=by rw [hg5,H.n_put]
   refine ⟨g5,by rw [rd1_of hp3];rfl,hw5,⟨vo,vi,vs,grow Ds g1 g3,Dw,?_,.inl hDp,?_,?_,?_,?_,?_,fun b hb=>?_,fun b hb=>?_⟩,⟨by omega,fun d hd hdd=>?_⟩⟩
   ·rw [hg5,get_put_same (H.get_lt hp3),hsym]
   ·rw [hsym]
    exact s3.keep fun b hb hb2=>by
     rw [hg5,get_put_ne];rintro rfl
     rcases hb with hb | hb
     ·exact hDsp hb
     ·omega
   ·rw [hsym];exact so3
   ·rw [hsym,had]
    exact h5.keep fun b hb hb2=>by rw [hg5,get_put_ne (h9 b hb).2.1,hDw3 b hb hb2]
   ·rw [hsym,had];exact h6
   ·rw [hsym];show 0≤st.n+1∧st.n+1≤100*((m+1:Nat):Int);omega
   ·rcases hb with hb | hb
    ·have:=h8 b hb;exact ⟨.inl this.1,this.2.1,by omega⟩
    ·exact ⟨.inr ⟨by omega,by omega⟩,by omega,by omega⟩
   ·have:=h9 b hb
    refine ⟨.inl this.1,this.2.1,by omega,?_⟩
    rintro (h | h)
    ·exact this.2.2.2 h
    ·omega
   ·rw [hg5,get_put_ne (fun e=>hdd (by rw [e];exact hDp)),keep3 d hd (fun hb=>hdd (h8 d hb).1)]
 · intro had
   have U3:U16 Dw g3 vc t.c:=U.keep fun b x hb hx=>hDw3 b hb (H.get_lt hx)
   obtain ⟨w,g4,e74,vt,rfl,⟨vc',rfl,U4⟩,x4⟩:=(adapt74_ok U3 tok hsl).elim
   have x4n:=x4.n
   obtain ⟨g5,hg5⟩:∃ z,z=(g4.new (.cells [.nils,.int .i64 0] 76 false)).put g4.n (.cells [vc',.int .i64 (adaptP t s).n] 76 false):=⟨_,rfl⟩
   have x5:Ext g4 g5:=by rw [hg5];exact ((Ext.refl g4).new _).put (Nat.le_refl _) _
   have n5:g5.n=g4.n+1:=by rw [hg5,H.n_put,H.n_new]
   have k5:g5.get g4.n=some (.cells [vc',.int .i64 (adaptP t s).n] 76 false):=by rw [hg5,get_put_same (by rw [H.n_new];omega)]
   have hst:(g4.new (.cells [.nils,.int .i64 0] 76 false)).wrN g4.n 0 [vc',.int .i64 (adaptP t s).n]=some g5:=by
    rw [wrN_of (o:=0) get_new_same (by simp),hg5];rfl
   have keep5:∀ b,b < g3.n→g5.get b=g3.get b:=fun b hb=>by rw [x5.get b (by omega),x4.get b hb]
   have hbbl:=H.get_lt t6
   have bb5:g5.get bb=some (.cells cells 76 false):=by rw [keep5 bb (by omega),hDw3 bb t10 hbbl,t6]
   have hp5:g5.get p=_:=(keep5 p (by omega)).trans hp3
   have hbp:bb ≠ p:=(h9 bb t10).2.1
   obtain ⟨g6,hg6⟩:∃ x,x=g5.put bb (.cells (splice cells (c*2) [vc',.int .i64 (adaptP t s).n]) 76 false):=⟨_,rfl⟩
   have hw6:g5.wrN bb (c*2) [vc',.int .i64 (adaptP t s).n]=some g6:=by rw [wrN_of bb5 (by simp;omega),hg6]
   have hp6:g6.get p=_:=(show g6.get p=g5.get p by rw [hg6,get_put_ne (fun e=>hbp e.symm)]).trans hp5
   have W6:SetW (fun b=>Dw b∨(g3.n≤b∧b < g4.n)) g6 vs (st.S.set k (r.set c (adaptP t s))):=by
    rw [hg6]
    exact t11 g5 _ vc' (adaptP t s) (fun b hb hb2=>by rw [keep5 b (by omega),hDw3 b hb hb2]) (by omega) (fun b hb _=>.inl hb) ((U4.mono fun b hb hd=>.inr ⟨hd,hb⟩).ext x5)
   obtain ⟨g7,hg7⟩:∃ x,x=g6.put p (.cells [vo,vi,vs,.bool st.ad,.int .i64 (st.n+1)] 46 false):=⟨_,rfl⟩
   have hw7:g6.wr1 p 4 (.int .i64 (st.n+1))=some g7:=by rw [wr1_of hp6 (by simp),hg7];rfl
   have hn6:g6.n=g5.n:=by rw [hg6,H.n_put]
   have hn7:g7.n=g5.n:=by rw [hg7,H.n_put,hn6]
   have hgr:st.S.getD k []=r:=by simp [hr]
   have bo5:g5.rd1 bO oO=some vr:=by
    unfold H.rd1 at t2 ⊢
    rw [keep5 bO (by omega),hDw3 bO t3 t4];exact t2
   refine ⟨vc',g4,g5,g6,g7,e74,hst,by rw [rdN_of (o:=0) (n:=2) k5 (by simp)];simp,by rw [rd1_of hp5];rfl,bo5,hw6,by rw [rd1_of hp6];rfl,hw7,U4.1.cells,U4.1.same,by obtain ⟨_,k3,_⟩:=h5.setR;exact k3.same,?_,⟨vo,vi,vs,grow Ds g1 g3,fun b=>Dw b∨(g3.n≤b∧b < g4.n),?_,.inl hDp,?_,?_,?_,?_,?_,fun b hb=>?_,fun b hb=>?_⟩,⟨by omega,fun d hd hdd=>?_⟩⟩
   ·obtain ⟨_,_,vr',k1,k2,⟨_,k3,_⟩,_,_⟩:=h5.setR.row hr
    rw [t1] at k1;cases k1;rw [t2] at k2;cases k2
    exact k3.same
   ·rw [hg7,get_put_same (H.get_lt hp6),hsym]
   ·rw [hsym]
    exact s3.keep fun b hb hb2=>by
     have hbp2:b ≠ p:=by
      rintro rfl
      rcases hb with hb | hb
      ·exact hDsp hb
      ·omega
     have hbb:b ≠ bb:=by
      rintro rfl
      rcases hb with hb | hb
      ·exact (h9 b t10).2.2.2 hb
      ·have:=(h9 b t10).2.2.1;omega
     rw [hg7,get_put_ne hbp2,hg6,get_put_ne hbb,keep5 b hb2]
   ·rw [hsym];exact so3
   ·rw [hsym,if_pos had,hgr]
    exact W6.keep fun b hb hb2=>by
     rw [hg7,get_put_ne];rintro rfl
     rcases hb with hb | hb
     ·exact (h9 b hb).2.1 rfl
     ·omega
   ·rw [hsym,if_pos had];exact h6.set hk (adaptP_ok tok s) (by rw [adaptP_len,tl])
   ·rw [hsym];show 0≤st.n+1∧st.n+1≤100*((m+1:Nat):Int);omega
   ·rcases hb with hb | hb
    ·have:=h8 b hb;exact ⟨.inl this.1,this.2.1,by omega⟩
    ·exact ⟨.inr ⟨by omega,by omega⟩,by omega,by omega⟩
   ·rcases hb with hb | hb
    ·have:=h9 b hb
     refine ⟨.inl this.1,this.2.1,by omega,?_⟩
     rintro (h | h)
     ·exact this.2.2.2 h
     ·omega
    ·refine ⟨.inr ⟨by omega,by omega⟩,by omega,by omega,?_⟩
     rintro (h | h)
     ·have:=(h8 b h).2.2;omega
     ·omega
   ·rw [hg7,get_put_ne (fun e=>hdd (by rw [e];exact hDp)),hg6,get_put_ne (fun e=>hdd (by rw [e];exact (h9 bb t10).1)),keep5 d (by omega),keep3 d hd (fun hb=>hdd (h8 d hb).1)]
theorem symbol41_ok {D:Nat→Prop} {h:H} {p m:Nat} {st:St} {k c:Nat} {v:Int} (a:CoderRef D h p m st) (hm:m+1 < 100000000) (hk:k < 32) (hc:c < cx k) (hv:st.sd.writes=true→0≤v∧v < vl k) :
   RT (fun w h'=>w=.tup [.int .i64 (st.symV k c v:Nat),.int .i64 0]∧CoderRef (grow D h h') h' p (m+1) (st.sym k c v)∧Mod D h h') (KW 48 [.ptr p 0,.int .i64 k,.int .i64 c,.int .i64 v] h):=by
 obtain ⟨vo,vi,vs,Ds,Dw,h1,h2,h3,h4,h5,h6,h7,h8,h9⟩:=a
 obtain ⟨w,g,e68,rfl,x⟩:=(shape68_ok k h).elim
 rw [if_pos ⟨by omega,by omega⟩,Int.toNat_natCast] at e68
 have xn:=x.n
 have hp:g.get p=_:=(x.get _ (H.get_lt h1)).trans h1
 obtain ⟨r,hr,ht,tok,tl⟩:=h6.get hk hc
 have hcx:=cx_le hk
 obtain ⟨t,htd⟩:∃ t,t=tabOf st.S k c:=⟨_,rfl⟩
 rw [← htd] at ht tok tl
 obtain ⟨bO,oO,vr,bb,cells,vc,t1,t2,t3,t4,t5,t6,t7,t8,t9,t10,t11⟩:=h5.tab hr ht
 have hv':st.sd.writes=true→0≤v∧v < t.c.length:=by rw [tl];exact hv
 obtain ⟨g1,hg1⟩:∃ z,z=(g.new (.cells [.nils,.int .i64 0] 76 false)).put g.n (.cells [vc,.int .i64 t.n] 76 false):=⟨_,rfl⟩
 have x1:Ext g g1:=by rw [hg1];exact ((Ext.refl g).new _).put (Nat.le_refl _) _
 have n1:g1.n=g.n+1:=by rw [hg1,H.n_put,H.n_new]
 have k1:g1.get g.n=some (.cells [vc,.int .i64 t.n] 76 false):=by rw [hg1,get_put_same (by rw [H.n_new];omega)]
 have hst:(g.new (.cells [.nils,.int .i64 0] 76 false)).wrN g.n 0 [vc,.int .i64 t.n]=some g1:=by
   rw [wrN_of (o:=0) get_new_same (by simp),hg1];rfl
 have X1:=x.trans x1
 have hp1:g1.get p=_:=(x1.get _ (H.get_lt hp)).trans hp
 have g2r:g.rd1 bO oO=some vr:=rd1_ext x t4 t2
 have g8r:g.rdN bb (c*2) 2=some [vc,.int .i64 t.n]:=by rw [← t8];unfold H.rdN;rw [x.get _ (H.get_lt t6)]
 have hcv:V.cells vc=some [vc]:=t9.1.cells
 obtain ⟨hsl,hmay⟩:=Side.val_may tok hv'
 have so2:=Side.code_ok h4 hm hmay
 obtain ⟨s,hs⟩:∃ s,s=st.sd.val t v:=⟨_,rfl⟩
 have hsv:st.symV k c v=s:=by rw [hs,htd];rfl
 rw [← hs] at hsl so2
 rw [hsv]
 have hsym:st.sym k c v=⟨st.sd.code (pt t s) (pt t (s+1)),if st.ad then st.S.set k ((st.S.getD k []).set c (adaptP t s)) else st.S,st.ad,st.n+1⟩:=by
   rw [St.sym,← htd,← hs]
 have zn:IntKind.i64.wrap (st.n+1)=st.n+1:=wi64 (by omega) (by omega)
 have k1r:=rdN_of (o:=0) (n:=2) k1 (by simp)
 simp at k1r
 have hDsl:∀ b,Ds b→b < h.n:=fun b hb=>(h8 b hb).2.2
 cases hsd:st.sd with
 | w out low rng =>
   rw [hsd] at h3 h4 hs
   have hvv:=hv (by rw [hsd];rfl)
   have hsv2:(s:Int)=v:=by rw [hs];simp [Side.val];omega
   obtain ⟨e,rfl,rfl,E⟩:=h3
   obtain ⟨g2,g3,e69,x2,e70,s3,M3,M23⟩:=code41_w (s:=s) (E.keep fun b _ hb=>X1.get b hb) h4 (t9.ext X1) tok hsl
   have x2n:=x2.n
   have q2:g2.get p=_:=(x2.get _ (H.get_lt hp1)).trans hp1
   have hDsp:¬ Ds p:=fun hb=>(h8 p hb).2.1 rfl
   have q3:g3.get p=_:=(M23.get p (H.get_lt q2) hDsp).trans q2
   have k2:g2.get g.n=_:=(x2.get _ (H.get_lt k1)).trans k1
   have k3:g3.get g.n=_:=(M23.get g.n (H.get_lt k2) (fun hb=>by have:=hDsl _ hb;omega)).trans k2
   have k3r:=rdN_of (o:=0) (n:=2) k3 (by simp)
   simp at k3r
   rw [hsv2] at e69
   obtain ⟨p0,p1⟩:=put41 X1 h1 h2 h5 h6 h7 hm h8 h9 hk hc hr ht tok tl hsl (B:=g.n) (by omega) k3 t9 s3 (by rw [← hsd];exact so2) M3 t1 t2 t3 t4 t5 t6 t7 t10 t11 (v:=v) (ad:=true) (by rw [hsym,hsd])
   rw [w48,f48,s48]
   cases had:st.ad with
   | false =>
    obtain ⟨g5,c1,c2,c3,c4⟩:=p0 had
    rw [had] at q3
    simp [e68,show ¬ (c:Int) < 0 by omega,show ¬ (cx k:Int)≤c by omega,show ¬ cx k≤c by omega,gl_t,rd1_of hp,show ¬ v < 0 by omega,show ¬ (vl k:Int)≤v by omega,t1,g2r,t5,g8r,nw,hcv,hst,rd1_of hp1,k1r,e69,rd1_of q2,e70,rd1_of q3,zn,c1,c2]
    exact ⟨by rw [hsv2],c3,c4⟩
   | true =>
    obtain ⟨vc',g4,g5,g6,g7,c1,c2,c3,c4,c5,c6,c7,c8,c9,c10,c11,c12,c13,c14⟩:=p1 had
    rw [had] at q3
    rw [hsv2] at c1
    simp [e68,show ¬ (c:Int) < 0 by omega,show ¬ (cx k:Int)≤c by omega,show ¬ cx k≤c by omega,gl_t,rd1_of hp,show ¬ v < 0 by omega,show ¬ (vl k:Int)≤v by omega,t1,g2r,t5,g8r,nw,hcv,hst,rd1_of hp1,k1r,e69,rd1_of q2,e70,rd1_of q3,k3r,zn,c1,c2,c3,c4,c5,c6,c7,c8,c9,c10,c11,c12,ck,V.same,V.sames]
    exact ⟨by rw [hsv2],c13,c14⟩
 | r rest code rng =>
   rw [hsd] at h3 h4 hs
   obtain ⟨e,rfl,rfl,E⟩:=h3
   obtain ⟨g2,g3,g4,e71,e72,x2,e69,x3,e73,s3,M4,M34⟩:=code41_r (E.keep fun b _ hb=>X1.get b hb) h4 (t9.ext X1) tok
   have hs':findP t (value code rng)=s:=hs.symm
   rw [hs'] at e72 e69 e73 s3
   have x2n:=x2.n
   have x3n:=x3.n
   have q2:g2.get p=_:=(x2.get _ (H.get_lt hp1)).trans hp1
   have q3:g3.get p=_:=(x3.get _ (H.get_lt q2)).trans q2
   have hDsp:¬ Ds p:=fun hb=>(h8 p hb).2.1 rfl
   have q4:g4.get p=_:=(M34.get p (H.get_lt q3) hDsp).trans q3
   have k2:g2.get g.n=_:=(x2.get _ (H.get_lt k1)).trans k1
   have k3:g3.get g.n=_:=(x3.get _ (H.get_lt k2)).trans k2
   have k4:g4.get g.n=_:=(M34.get g.n (H.get_lt k3) (fun hb=>by have:=hDsl _ hb;omega)).trans k3
   have k2r:=rdN_of (o:=0) (n:=2) k2 (by simp)
   have k4r:=rdN_of (o:=0) (n:=2) k4 (by simp)
   simp at k2r k4r
   obtain ⟨p0,p1⟩:=put41 X1 h1 h2 h5 h6 h7 hm h8 h9 hk hc hr ht tok tl hsl (B:=g.n) (by omega) k4 t9 s3 (by rw [← hsd];exact so2) M4 t1 t2 t3 t4 t5 t6 t7 t10 t11 (v:=v) (ad:=true) (by rw [hsym,hsd])
   rw [w48,f48,s48]
   cases had:st.ad with
   | false =>
    obtain ⟨g5,c1,c2,c3,c4⟩:=p0 had
    rw [had] at q4
    simp [e68,show ¬ (c:Int) < 0 by omega,show ¬ (cx k:Int)≤c by omega,show ¬ cx k≤c by omega,gl_t,rd1_of hp,t1,g2r,t5,g8r,nw,hcv,hst,rd1_of hp1,k1r,e71,e72,k2r,e69,rd1_of q3,e73,rd1_of q4,zn,c1,c2]
    exact ⟨rfl,c3,c4⟩
   | true =>
    obtain ⟨vc',g5,g6,g7,g8,c1,c2,c3,c4,c5,c6,c7,c8,c9,c10,c11,c12,c13,c14⟩:=p1 had
    rw [had] at q4
    simp [e68,show ¬ (c:Int) < 0 by omega,show ¬ (cx k:Int)≤c by omega,show ¬ cx k≤c by omega,gl_t,rd1_of hp,t1,g2r,t5,g8r,nw,hcv,hst,rd1_of hp1,k1r,e71,e72,k2r,e69,rd1_of q3,e73,rd1_of q4,k4r,zn,c1,c2,c3,c4,c5,c6,c7,c8,c9,c10,c11,c12,ck,V.same,V.sames]
    exact ⟨rfl,c13,c14⟩
open Go.Zf (wi64)
structure I45 (h0:H) (Ds:Nat→Prop) (p m n:Nat) (v:Int) (vo vi:V) (st0:Side) (j:Nat) (e:E) (g:H):Prop where
 hj:j≤n
 md:Mod Ds h0 g
 q:∃ sd out,SideRef (grow Ds h0 g) g (m+(n - j)) vo vi sd∧SideOk (m+(n - j)) sd∧sd.writes=st0.writes∧out < pw (n - j)∧bits j v.toNat out sd=bits n v.toNat 0 st0∧e.s [0,1,2,6,7,8,9,10,11] 8=.int .i64 (out:Nat)
 e0:e.s [0,1,2,6,7,8,9,10,11] 0=.ptr p 0
 e1:e.s [0,1,2,6,7,8,9,10,11] 1=.int .i64 n
 e2:e.s [0,1,2,6,7,8,9,10,11] 2=.int .i64 v
 e9:e.s [0,1,2,6,7,8,9,10,11] 9=.int .i64 ((j:Int) - 1)
theorem loop45 {Ds:Nat→Prop} {h:H} {p m n:Nat} {v:Int} {vo vi vs ba bn:V} {sd0:Side} (hp:h.get p=some (.cells [vo,vi,vs,ba,bn] 46 false)) (hDp:¬ Ds p) (hn:n≤30) (hm:m+n < 100000000) (hv:sd0.writes=true→0≤v) {e:E} {g:H} (hi:I45 h Ds p m n v vo vi sd0 n e g) :
   ∃ e' g',loopZ (l51_0 KW loopZ) e g=some ⟨.ex 0,e',g'⟩∧I45 h Ds p m n v vo vi sd0 0 e' g':=by
 have loop:=loop_run (body:=l51_0 KW loopZ) (I45 h Ds p m n v vo vi sd0) (fun s=>s.x=.ex 0∧I45 h Ds p m n v vo vi sd0 0 s.e s.h)
   (fun j e g hi=>by
    obtain ⟨hj,md,⟨sd,out,q1,q2,q3,q4,q5,e8⟩,e0,e1,e2,e9⟩:=hi
    have hpl:=H.get_lt hp
    have hpg:g.get p=_:=(md.get p hpl hDp).trans hp
    have hgn:=md.n
    cases j with
    | zero =>
     simp [l51_0,e9]
     exact ⟨rfl,hj,md,⟨sd,out,q1,q2,q3,q4,q5,by simp [e8]⟩,by simp [e0],by simp [e1],by simp [e2],by simp [e9]⟩
    | succ j =>
     obtain ⟨i,hi⟩:∃ i,i=n - (j+1):=⟨_,rfl⟩
     have hi2:n - j=i+1:=by omega
     rw [← hi] at q1 q2 q4
     have e9':e.s [0,1,2,6,7,8,9,10,11] 9=.int .i64 (j:Nat):=by rw [e9];simp
     have hbm:=Side.bit_may (v:=v.toNat / 2 ^ j % 2) (by omega) sd
     have hpw:pw i≤pw 30:=Nat.pow_le_pow_right (by decide) (by omega)
     have hpw2:pw (i+1)=2*pw i:=by simp [pw,Nat.pow_succ,Nat.mul_comm]
     have hp30:pw 30=1073741824:=by decide
     have hmin:min j IntKind.i64.bits=j:=Nat.min_eq_left (by rw [show IntKind.i64.bits=64 from rfl];omega)
     obtain ⟨b,hbe⟩:∃ b,b=sd.bit (v.toNat / 2 ^ j % 2):=⟨_,rfl⟩
     rw [← hbe] at hbm
     have z4:IntKind.i64.wrap ((out:Int)*2)=out*2:=wi64 (by omega) (by omega)
     have z5:IntKind.i64.wrap ((out:Int)*2+b)=((2*out+b:Nat):Int):=by rw [wi64 (by omega) (by omega)];omega
     have z6:IntKind.i64.wrap ((j:Int) - 1)=(j:Int) - 1:=wi64 (by omega) (by omega)
     have z7:IntKind.u32.wrap (b:Int)=b:=wu32 (by omega) (by omega)
     have z8:IntKind.u32.wrap ((b:Int)*16384)=b*16384:=wu32 (by omega) (by omega)
     have z9:IntKind.i64.wrap ((b:Int)+1)=b+1:=wi64 (by omega) (by omega)
     have z10:IntKind.u32.wrap ((b:Int)+1)=b+1:=wu32 (by omega) (by omega)
     have z11:IntKind.u32.wrap (((b:Int)+1)*16384)=b*16384+16384:=by rw [wu32 (by omega) (by omega)];omega
     have fin:∀ (g1:H) (e':E),SideRef (grow (grow Ds h g) g g1) g1 (m+i+1) vo vi (sd.code (b*16384) (b*16384+16384))→Mod (grow Ds h g) g g1→e'.s [0,1,2,6,7,8,9,10,11] 0=.ptr p 0→e'.s [0,1,2,6,7,8,9,10,11] 1=.int .i64 n→e'.s [0,1,2,6,7,8,9,10,11] 2=.int .i64 v→e'.s [0,1,2,6,7,8,9,10,11] 8=.int .i64 ((2*out+b:Nat):Int)→e'.s [0,1,2,6,7,8,9,10,11] 9=.int .i64 ((j:Int) - 1)→I45 h Ds p m n v vo vi sd0 j e' g1:=by
      intro g1 e' s1 M1 b0 b1 b2 b8 b9
      have M2:Mod Ds h g1:=md.trans M1
      have M1n:=M1.n
      refine ⟨by omega,M2,⟨_,2*out+b,(s1.mono fun d hd hdd=>?_).more (by omega),?_,by rw [Side.code_writes];exact q3,by rw [hi2,hpw2];omega,?_,b8⟩,b0,b1,b2,b9⟩
      ·rcases hdd with (hd1 | hd1) | hd1
       ·exact .inl hd1
       ·exact .inr ⟨hd1.1,hd⟩
       ·exact .inr ⟨by omega,hd⟩
      ·rw [hi2,← Nat.add_assoc];exact Side.code_ok q2 (by omega) hbm.2
      ·rw [← q5,bits,← hbe]
     cases sd with
     | w o lo r =>
      obtain ⟨e70,rfl,rfl,E1⟩:=q1
      have hv0:=hv (by rw [← q3];rfl)
      obtain ⟨nv,rfl⟩:∃ nv:Nat,v=nv:=⟨v.toNat,by omega⟩
      have hbv:b=nv / 2 ^ j % 2:=by rw [hbe,Int.toNat_natCast];rfl
      have hfd:((nv:Int).fdiv (2 ^ j))=((nv / 2 ^ j:Nat):Int):=by
       rw [Int.fdiv_eq_ediv_of_nonneg _ (Int.pow_nonneg (by decide))];simp
      obtain ⟨qq,hqq⟩:∃ qq,qq=nv / 2 ^ j:=⟨_,rfl⟩
      rw [← hqq] at hfd hbv
      have hmd:(qq:Int).tmod 2=(b:Nat):=by rw [hbv];exact Int.ofNat_tmod qq 2
      obtain ⟨g1,a70,s1,M1⟩:=put70_ok E1 q2 hbm.2.1 hbm.2.2
      simp at a70
      simp [l51_0,e9',show ¬ (j:Int) < 0 by omega,e0,e1,e2,e8,rd1_of hpg,hmin,hfd,hmd,z7,z8,z9,z10,z11,a70,z4,z5,z6]
      exact ⟨j,Nat.lt_succ_self j,fin g1 _ ⟨_,rfl,rfl,s1⟩ M1 (by simp [e0]) (by simp [e1]) (by simp [e2]) (by simp [z4,z5]) (by simp [z6])⟩
     | r o lo r =>
      obtain ⟨e70,rfl,rfl,E1⟩:=q1
      have hE:=E1
      obtain ⟨at_,ra,_,_⟩:=E1
      have a71:=value22_ok ra q2.1
      obtain ⟨g1,a73,s1,M1⟩:=take73_ok hE q2 hbm.2.1 hbm.2.2.1 hbm.2.2.2
      have hbv:b=value lo r / 16384:=by rw [hbe];rfl
      have hd:((value lo r:Nat):Int).tdiv 16384=(b:Int):=by rw [Int.tdiv_eq_ediv_of_nonneg (by omega),hbv];simp
      have zb:IntKind.i64.wrap (b:Int)=b:=wi64 (by omega) (by omega)
      simp at a73
      simp [l51_0,e9',show ¬ (j:Int) < 0 by omega,e0,e1,e2,e8,rd1_of hpg,a71,hd,zb,z7,z8,z9,z10,z11,a73,z4,z5,z6]
      exact ⟨j,Nat.lt_succ_self j,fin g1 _ ⟨_,rfl,rfl,s1.mono fun b hb hd=>.inl hd⟩ M1 (by simp [e0]) (by simp [e1]) (by simp [e2]) (by simp [z4,z5]) (by simp [z6])⟩)
 obtain ⟨⟨x,e',g'⟩,r1,r2,r3⟩:=loop n e g hi
 simp only at r2 r3
 subst r2
 exact ⟨e',g',r1,r3⟩
theorem bits45_ok {D:Nat→Prop} {h:H} {p m n:Nat} {st:St} {v:Int} (a:CoderRef D h p m st) (hn:n≤30) (hm:m+n < 100000000) (hv:st.sd.writes=true→0≤v∧v < pw n) :
   RT (fun w h'=>w=.tup [.int .i64 (st.numV n v.toNat:Nat),.int .i64 0]∧CoderRef (grow D h h') h' p (m+n) (st.num n v.toNat)∧Mod D h h') (KW 51 [.ptr p 0,.int .i64 n,.int .i64 v] h):=by
 obtain ⟨vo,vi,vs,Ds,Dw,h1,h2,h3,h4,h5,h6,h7,h8,h9⟩:=a
 have hpl:=H.get_lt h1
 have hDp:¬ Ds p:=fun hb=>(h8 p hb).2.1 rfl
 obtain ⟨e',g',r1,I⟩:=loop45 (v:=v) (n:=n) (m:=m) h1 hDp hn hm (fun hw=>(hv hw).1)
   (e:=⟨[.ptr p 0,.int .i64 n,.int .i64 v,.int .i64 0,.int .i64 0,.int .i64 0,.int .i64 ((n:Int) - 1),.tup [],.tup []],9,.int .i64 ((n:Int) - 1)⟩) (g:=h)
   ⟨Nat.le_refl _,Mod.refl _ _,⟨st.sd,0,by rw [Nat.sub_self];exact h3.mono fun b _ hb=>.inl hb,by rw [Nat.sub_self];exact h4,rfl,by rw [Nat.sub_self];decide,rfl,by simp⟩,by simp,by simp,by simp,by simp⟩
 obtain ⟨_,md,⟨sd,out,q1,q2,q3,q4,q5,e8⟩,e0,e1,e2,e9⟩:=I
 have q5':(out,sd)=bits n v.toNat 0 st.sd:=q5
 have hout:out=st.numV n v.toNat:=by rw [St.numV,← q5']
 have hsd:sd=(st.num n v.toNat).sd:=by rw [St.num,← q5']
 rw [Nat.sub_zero] at q1 q2
 have mn:=md.n
 have hp':g'.get p=_:=(md.get p hpl hDp).trans h1
 obtain ⟨g5,hg5⟩:∃ x,x=g'.put p (.cells [vo,vi,vs,.bool st.ad,.int .i64 (st.n+n)] 46 false):=⟨_,rfl⟩
 have hw5:g'.wr1 p 4 (.int .i64 (st.n+n))=some g5:=by rw [wr1_of hp' (by simp),hg5];rfl
 have zn:IntKind.i64.wrap (st.n+n)=st.n+n:=wi64 (by omega) (by omega)
 have z1:IntKind.i64.wrap ((n:Int) - 1)=(n:Int) - 1:=wi64 (by omega) (by omega)
 have hfin:CoderRef (grow D h g5) g5 p (m+n) (st.num n v.toNat)∧Mod D h g5:=by
   have hn5:g5.n=g'.n:=by rw [hg5,H.n_put]
   refine ⟨⟨vo,vi,vs,grow Ds h g',Dw,?_,.inl h2,?_,?_,?_,h6,?_,fun b hb=>?_,fun b hb=>?_⟩,⟨by omega,fun d hd hdd=>?_⟩⟩
   ·rw [hg5,get_put_same (H.get_lt hp')];rfl
   ·rw [← hsd]
    exact q1.keep fun b hb hb2=>by
     rw [hg5,get_put_ne];rintro rfl
     rcases hb with hb | hb
     ·exact hDp hb
     ·omega
   ·rw [← hsd];exact q2
   ·exact h5.keep fun b hb hb2=>by rw [hg5,get_put_ne (h9 b hb).2.1,md.get b hb2 (h9 b hb).2.2.2]
   ·show 0≤st.n+n∧st.n+n≤100*((m+n:Nat):Int);omega
   ·rcases hb with hb | hb
    ·have:=h8 b hb;exact ⟨.inl this.1,this.2.1,by omega⟩
    ·exact ⟨.inr ⟨by omega,by omega⟩,by omega,by omega⟩
   ·have:=h9 b hb
    refine ⟨.inl this.1,this.2.1,by omega,?_⟩
    rintro (h | h)
    ·exact this.2.2.2 h
    ·omega
   ·rw [hg5,get_put_ne (fun e=>hdd (by rw [e];exact h2)),md.get d hd (fun hb=>hdd (h8 d hb).1)]
 rw [← hout]
 rw [w51,f51,s51]
 cases hsdc:st.sd with
 | r o lo rr =>
   rw [hsdc] at h3
   obtain ⟨e,rfl,rfl,_⟩:=h3
   simp [show ¬ (n:Int) < 0 by omega,show ¬ (30:Int) < n by omega,show ¬ 30 < n by omega,rd1_of h1,gl_t,z1,r1,e0,rd1_of hp',e1,zn,hw5,e8]
   exact ⟨rfl,hfin⟩
 | w o lo rr =>
   rw [hsdc] at h3
   obtain ⟨e,rfl,rfl,_⟩:=h3
   have hv1:=hv (by rw [hsdc];rfl)
   have hmin:min n IntKind.i64.bits=n:=Nat.min_eq_left (by rw [show IntKind.i64.bits=64 from rfl];omega)
   have hpl30:pw n≤1073741824:=by rw [show 1073741824=pw 30 from rfl];exact Nat.pow_le_pow_right (by decide) hn
   obtain ⟨P,hP⟩:∃ P,P=pw n:=⟨_,rfl⟩
   have hpw:(2:Int) ^ n=P:=by rw [hP,pw];simp
   rw [← hP] at hv1 hpl30
   have zp:IntKind.i64.wrap (P:Int)=P:=wi64 (by omega) (by omega)
   simp [show ¬ (n:Int) < 0 by omega,show ¬ (30:Int) < n by omega,show ¬ 30 < n by omega,rd1_of h1,show ¬ v < 0 by omega,hmin,hpw,zp,show ¬ (P:Int)≤v by omega,gl_t,z1,r1,e0,rd1_of hp',e1,zn,hw5,e8]
   exact ⟨rfl,hfin⟩
open Go.Zf (wi64)
theorem writer13_ok {D:Nat→Prop} {h:H} {v:V} {S:List (List Tb)} (u:SetR D h v S) (ok:SetOk S) (ad:Bool) :
   RT (fun w h'=>∃ p,w=.tup [.ptr p 0,.int .i64 0]∧CoderRef (fun b=>h.n≤b) h' p 0 (newW S ad)∧Ext h h') (KW 8 [.agg [v],.bool ad] h):=by
 obtain ⟨h1,b1,x1,g1,n1,u1⟩:=box25 u
 obtain ⟨w,h2,e37,rfl,x2⟩:=(check37_ok u1 ok.small).elim
 rw [if_pos ok] at e37
 obtain ⟨h3,e43,E3,m3,f3⟩:=new11_ok h2
 have x3:Ext h2 h3:=⟨by omega,f3⟩
 have x2n:=x2.n
 obtain ⟨w,h4,e11,v',rfl,W,x4⟩:=(copy11_ok ((u1.ext x2).ext x3) ok.small).elim
 have g2:h2.get h.n=_:=(x2.get _ (H.get_lt g1)).trans g1
 have g3:h3.get h.n=_:=(x3.get _ (H.get_lt g2)).trans g2
 have g4:h4.get h.n=_:=(x4.get _ (H.get_lt g3)).trans g3
 obtain ⟨h5,hh5⟩:∃ g,g=h4.new (.cells [.ptr h2.n 0,.nilp,v',.bool ad,.int .i64 0] 46 false):=⟨_,rfl⟩
 have x5:Ext h4 h5:=by rw [hh5];exact (Ext.refl h4).new _
 have n5:h5.n=h4.n+1:=by rw [hh5,H.n_new]
 have r5:h5.get h4.n=some (.cells [.ptr h2.n 0,.nilp,v',.bool ad,.int .i64 0] 46 false):=by rw [hh5,get_new_same]
 have x4n:=x4.n
 have hbx:bx h4 46 (.agg [.ptr h2.n 0,.nilp,v',.bool ad,.int .i64 0])=some (.ptr h4.n 0,h5):=by rw [hh5];rfl
 have hvc:V.cells v'=some [v']:=by
   obtain ⟨cs,k1,k2⟩:=W.setR;exact k1.cells
 rw [w8,f8,s8]
 simp [b1,rdN_of (o:=0) (n:=1) g1 (by simp),e37,e43,rdN_of (o:=0) (n:=1) g2 (by simp),rdN_of (o:=0) (n:=1) g3 (by simp),rdN_of (o:=0) (n:=1) g4 (by simp),e11,bl,fillW,splice,hvc,hbx,ck,V.same,V.sames,u.ckv]
 have hvs:=u.ckv (some ())
 simp [ck] at hvs
 simp [hvs]
 refine ⟨h4.n,rfl,⟨.ptr h2.n 0,.nilp,v',fun b=>b=h2.n,fun b=>h3.n≤b∧b < h4.n,r5,(show h.n≤h4.n by omega),⟨h2.n,rfl,rfl,.nils,?_,rfl,fun c o n k e=>by cases e⟩,⟨⟨by decide,by decide,by decide⟩,by simp,by decide⟩,?_,ok,⟨Int.le_refl _,Int.le_refl _⟩,fun b hb=>?_,fun b hb=>?_⟩,?_⟩
 · exact ⟨by rw [x5.get _ (by omega),x4.get _ (by omega)];exact E3.cell,.inl ⟨rfl,rfl⟩,E3.byte,E3.low64⟩
 · exact (W.mono fun b hb hd=>⟨hd,hb⟩).ext x5
 · have hb:b=h2.n:=hb
   exact ⟨(show h.n≤b by omega),by omega,by omega⟩
 · exact ⟨(show h.n≤b by omega),by omega,by omega,(show ¬ b=h2.n by omega)⟩
 · exact (((x1.trans x2).trans x3).trans x4).trans x5
theorem reader26_ok {D:Nat→Prop} {h:H} {v bv:V} {l:List Nat} {S:List (List Tb)} (sb:SlB h bv l) (hl:l.length < 140737488355329) (hb:∀ x ∈ l,x < 256) (u:SetR D h v S) (ok:SetOk S) (ad:Bool) :
   RT (fun w h'=>∃ p,w=.tup [.ptr p 0,.int .i64 0]∧CoderRef (fun b=>h.n≤b) h' p 0 (newR l S ad)∧Ext h h') (KW 24 [bv,.agg [v],.bool ad] h):=by
 obtain ⟨h1,b1,x1,g1,n1,u1⟩:=box25 u
 obtain ⟨w,h2,e37,rfl,x2⟩:=(check37_ok u1 ok.small).elim
 rw [if_pos ok] at e37
 have x2n:=x2.n
 obtain ⟨h3,q,v3,e52,hdec,q0,q1,q2,f3⟩:=read20_ok ((sb.keep x1.get).keep x2.get) hl hb
 have hn3:h2.n≤h3.n:=by omega
 have x3:Ext h2 h3:=⟨hn3,f3⟩
 have E3:=hdec (fun c=>c=q∨¬ (h2.n≤c∧c < h3.n)) (.inl rfl) (fun c c1 c2 c3=>by rintro (e | e);exact c3 e;exact e ⟨c1,c2⟩)
 obtain ⟨w,h4,e11,v',rfl,W,x4⟩:=(copy11_ok ((u1.ext x2).ext x3) ok.small).elim
 have g2:h2.get h.n=_:=(x2.get _ (H.get_lt g1)).trans g1
 have g3:h3.get h.n=_:=(x3.get _ (H.get_lt g2)).trans g2
 obtain ⟨h5,hh5⟩:∃ g,g=h4.new (.cells [.nilp,.ptr q 0,v',.bool ad,.int .i64 0] 46 false):=⟨_,rfl⟩
 have x5:Ext h4 h5:=by rw [hh5];exact (Ext.refl h4).new _
 have n5:h5.n=h4.n+1:=by rw [hh5,H.n_new]
 have r5:h5.get h4.n=some (.cells [.nilp,.ptr q 0,v',.bool ad,.int .i64 0] 46 false):=by rw [hh5,get_new_same]
 have x4n:=x4.n
 have hbx:bx h4 46 (.agg [.nilp,.ptr q 0,v',.bool ad,.int .i64 0])=some (.ptr h4.n 0,h5):=by rw [hh5];rfl
 have hvc:V.cells v'=some [v']:=by
   obtain ⟨cs,k1,k2⟩:=W.setR;exact k1.cells
 have hdi:=dread_inv hb
 have hvs:=u.ckv (some ())
 simp [ck] at hvs
 rw [w24,f24,s24]
 simp [b1,rdN_of (o:=0) (n:=1) g1 (by simp),e37,e52,rdN_of (o:=0) (n:=1) g2 (by simp),rdN_of (o:=0) (n:=1) g3 (by simp),e11,bl,fillW,splice,hvc,hbx,ck,V.same,V.sames,hvs]
 have hE3:RefD (fun c=>h2.n≤c∧c < h3.n) h3 0 q (dread l).1 (dread l).2 4294967295:=⟨v3,E3,by omega,⟨q1,q2⟩⟩
 refine ⟨h4.n,rfl,⟨.nilp,.ptr q 0,v',fun b=>h2.n≤b∧b < h3.n,fun b=>h3.n≤b∧b < h4.n,r5,(show h.n≤h4.n by omega),⟨q,rfl,rfl,hE3.keep fun b hb hb2=>by rw [x5.get _ (by omega),x4.get _ hb2]⟩,⟨hdi.1,hdi.2,by decide⟩,?_,ok,⟨Int.le_refl _,Int.le_refl _⟩,fun b hb=>?_,fun b hb=>?_⟩,?_⟩
 · exact (W.mono fun b hb hd=>⟨hd,hb⟩).ext x5
 · exact ⟨(show h.n≤b by omega),by omega,by omega⟩
 · exact ⟨(show h.n≤b by omega),by omega,by omega,fun h=>by omega⟩
 · exact (((x1.trans x2).trans x3).trans x4).trans x5
theorem bytes20_ok {D:Nat→Prop} {h:H} {p m:Nat} {st:St} {out:List Nat} {low rng:Nat} (a:CoderRef D h p m st) (hs:st.sd=.w out low rng) :
   RT (fun w h'=>∃ v,w=.tup [v,.int .i64 0]∧Wr h' h.n v (bytes out low)∧Ext h h') (KW 18 [.ptr p 0] h):=by
 obtain ⟨vo,vi,vs,Ds,Dw,h1,h2,h3,h4,h5,h6,h7,h8,h9⟩:=a
 rw [hs] at h3 h4
 obtain ⟨e,rfl,rfl,v,ea,_⟩:=h3
 obtain ⟨h',v',k1,k2,k3,k4⟩:=bytes16_wr ea h4.1 (by have:=h4.2.1;have:=h4.2.2;omega)
 rw [w18,f18,s18]
 simp [rd1_of h1,k1]
 exact ⟨v',rfl,k2,k3,k4⟩
theorem CoderRef.set {D:Nat→Prop} {h:H} {p m:Nat} {st:St} (a:CoderRef D h p m st):∃ vs,h.rdN p 2 1=some [vs]∧SetW D h vs st.S∧h.rd1 p 4=some (.int .i64 st.n):=by
 obtain ⟨vo,vi,vs,Ds,Dw,h1,h2,h3,h4,h5,h6,h7,h8,h9⟩:=a
 exact ⟨vs,by rw [rdN_of h1 (by simp)];rfl,h5.mono fun b _ hb=>(h9 b hb).1,by rw [rd1_of h1];rfl⟩
open Go.Zf (wi64)
theorem CoderRef.more {D:Nat→Prop} {g:H} {p m m':Nat} {st:St} (a:CoderRef D g p m st) (h1:m≤m') (h2:m' < 100000000):CoderRef D g p m' st:=by
 obtain ⟨vo,vi,vs,Ds,Dw,a1,a2,a3,a4,a5,a6,a7,a8,a9⟩:=a
 refine ⟨vo,vi,vs,Ds,Dw,a1,a2,a3.more h1,?_,a5,a6,⟨a7.1,by omega⟩,a8,a9⟩
 cases hs:st.sd with
 | w o lo r=>rw [hs] at a4;exact ⟨a4.1,by have:=a4.2.1;omega,h2⟩
 | r o lo r=>rw [hs] at a4;exact ⟨a4.1,a4.2.1,h2⟩
def Alike (a b:List Nat):Prop:=∀ i,a.getD i 0=b.getD i 0
theorem Alike.head {a b:List Nat} (h:Alike a b):a.headD 0=b.headD 0:=by
 have:=h 0
 cases a <;> cases b <;> first | rfl | (simpa using this)
theorem Alike.tail {a b:List Nat} (h:Alike a b):Alike a.tail b.tail:=fun i=>by
 have:=h (i+1)
 cases a <;> cases b <;> first | rfl | (simpa using this)
theorem Alike.dsh:∀ (n:Nat) {a b:List Nat} (c:Nat),Alike a b→Alike (dsh n a c).1 (dsh n b c).1∧(dsh n a c).2=(dsh n b c).2
 | 0,a,b,c,h=>⟨h,rfl⟩
 | n+1,a,b,c,h=>by
   simp only [YtbajipmhnoakeaaGreat.dsh]
   rw [h.head]
   exact Alike.dsh n _ h.tail
theorem Alike.renorm:∀ (n:Nat) {a b:List Nat} (c w:Nat),Alike a b→Alike (drenorm n a c w).1 (drenorm n b c w).1∧(drenorm n a c w).2=(drenorm n b c w).2
 | 0,a,b,c,w,h=>⟨h,rfl⟩
 | n+1,a,b,c,w,h=>by
   simp only [drenorm]
   split
   ·rw [h.head]
    exact Alike.renorm n _ _ h.tail
   ·exact ⟨h,rfl⟩
theorem Alike.take {a b:List Nat} (h:Alike a b) (c r lo hi:Nat):Alike (take a c r lo hi).1 (take b c r lo hi).1∧(take a c r lo hi).2=(take b c r lo hi).2:=Alike.renorm 3 _ _ h
def shorter (l:List Nat):Nat→Nat
 | 0=>0
 | k+1=>if l[k]?=some 0 then shorter l k else k+1
theorem shorter_alike (l:List Nat):∀ k,k≤l.length→Alike (l.take k) (l.take (shorter l k))
 | 0,_=>fun i=>rfl
 | k+1,hk=>by
   unfold shorter
   split
   ·rename_i h
    intro i
    rw [← shorter_alike l k (by omega) i]
    simp only [List.getD_eq_getElem?_getD,List.getElem?_take]
    by_cases h1:i < k
    ·simp [h1,show i < k+1 by omega]
    ·by_cases h2:i=k
     ·subst h2;simp [h]
     ·simp [h1,show ¬ i < k+1 by omega]
   ·intro i;rfl
def bev (l:List Nat):Nat:=l.foldl (fun a b=>a*256+b) 0
theorem bev_snoc (l:List Nat) (b:Nat):bev (l ++ [b])=bev l*256+b:=by simp [bev]
theorem bev_nil:bev []=0:=rfl
theorem bev_append (a:List Nat):∀ b:List Nat,bev (a ++ b)=bev a*256 ^ b.length+bev b:=by
 intro b
 obtain ⟨n,hn⟩:∃ n,n=b.length:=⟨_,rfl⟩
 induction n generalizing b with
 | zero=>have:b=[]:=List.length_eq_zero_iff.mp hn.symm;subst this;simp [bev_nil]
 | succ n ih =>
   rcases List.eq_nil_or_concat b with h0 | ⟨c,x,h0⟩
   ·subst h0;simp at hn
   ·subst h0
    have h1:=ih c (by simpa using hn)
    rw [List.concat_eq_append,← List.append_assoc,bev_snoc,bev_snoc,h1]
    simp only [List.length_append,List.length_singleton,Nat.pow_succ]
    rw [Nat.add_mul,Nat.mul_assoc,Nat.add_assoc]
theorem bev_lt:∀ l:List Nat,(∀ x ∈ l,x < 256)→bev l < 256 ^ l.length:=by
 intro l
 obtain ⟨n,hn⟩:∃ n,n=l.length:=⟨_,rfl⟩
 induction n generalizing l with
 | zero=>intro _;have:l=[]:=List.length_eq_zero_iff.mp hn.symm;subst this;simp [bev_nil]
 | succ n ih =>
   intro hb
   rcases List.eq_nil_or_concat l with h0 | ⟨c,x,h0⟩
   ·subst h0;simp at hn
   ·subst h0
    have h1:=ih c (by simpa using hn) fun y hy=>hb y (by simp [hy])
    have h2:=hb x (by simp)
    rw [List.concat_eq_append,bev_snoc]
    simp only [List.length_append,List.length_singleton,Nat.pow_succ]
    omega
theorem bev_inc:∀ l:List Nat,(∀ x ∈ l,x < 256)→bev l+1 < 256 ^ l.length→bev (inc l)=bev l+1:=by
 intro l
 obtain ⟨n,hn⟩:∃ n,n=l.length:=⟨_,rfl⟩
 induction n generalizing l with
 | zero=>intro _ h;have:l=[]:=List.length_eq_zero_iff.mp hn.symm;subst this;simp [bev_nil] at h
 | succ n ih =>
   intro hb h
   rcases List.eq_nil_or_concat l with h0 | ⟨c,x,h0⟩
   ·subst h0;simp at hn
   ·subst h0
    have h2:=hb x (by simp)
    rw [List.concat_eq_append] at h ⊢
    rw [bev_snoc] at h
    simp only [List.length_append,List.length_singleton,Nat.pow_succ] at h
    rw [inc_snoc,bev_snoc]
    split
    ·rename_i hx
     rw [bev_snoc,ih c (by simpa using hn) (fun y hy=>hb y (by simp [hy])) (by omega)]
     omega
    ·rw [bev_snoc];omega
def at_ (out:List Nat) (low:Nat):Nat:=bev out*4294967296+low
theorem emit_at {out:List Nat} {low:Nat} (hb:∀ x ∈ out,x < 256) (hl:low < 8589934592) (hf:at_ out low < 4294967296*256 ^ out.length) :
   at_ (emit out low).1 (emit out low).2=at_ out low*256∧∀ x ∈ (emit out low).1,x < 256:=by
 unfold at_ at *
 unfold emit
 split
 · rename_i hc
   have h1:=bev_inc out hb (by
    have:(bev out+1)*4294967296 < 256 ^ out.length*4294967296:=by rw [Nat.mul_comm (256 ^ out.length)];omega
    exact Nat.lt_of_mul_lt_mul_right this)
   refine ⟨?_,fun x hx=>?_⟩
   ·simp only [bev_snoc,h1];omega
   ·rcases List.mem_append.mp hx with h | h
    ·exact inc_byte hb x h
    ·simp at h;omega
 · rename_i hc
   refine ⟨?_,fun x hx=>?_⟩
   ·simp only [bev_snoc];omega
   ·rcases List.mem_append.mp hx with h | h
    ·exact hb x h
    ·simp at h;omega
def steps:Nat→Nat→Nat
 | 0,_=>0
 | n+1,w=>if w < 16777216 then steps n (w*256)+1 else 0
structure SInv (out:List Nat) (low wide:Nat):Prop where
 byte:∀ x ∈ out,x < 256
 lw:low+wide < 8589934592
 fit:at_ out low+wide≤4294967296*256 ^ out.length
 pos:0 < wide
theorem renorm_at:∀ (n:Nat) {out:List Nat} {low wide:Nat},SInv out low wide→wide < 4294967296 →
   SInv (renorm n out low wide).1 (renorm n out low wide).2.1 (renorm n out low wide).2.2∧(renorm n out low wide).1.length=out.length+steps n wide ∧
    at_ (renorm n out low wide).1 (renorm n out low wide).2.1=at_ out low*256 ^ steps n wide∧(renorm n out low wide).2.2=wide*256 ^ steps n wide
 | 0,out,low,wide,h,hw=>⟨h,rfl,by simp [renorm,steps],by simp [renorm,steps]⟩
 | n+1,out,low,wide,h,hw=>by
   simp only [renorm,steps]
   split
   ·rename_i hc
    obtain ⟨h1,h2,h3,h4⟩:=h
    obtain ⟨e1,e2⟩:=emit_at (low:=low) h1 (by omega) (by omega)
    have hel:=emit_length out low
    have hlt:(emit out low).2≤4294967040:=by unfold emit;split <;> simp <;> omega
    have hs:SInv (emit out low).1 (emit out low).2 (wide*256):=by
     refine ⟨e2,by omega,?_,by omega⟩
     rw [e1,hel,Nat.pow_succ]
     omega
    obtain ⟨g1,g2,g3,g4⟩:=renorm_at n hs (by omega)
    refine ⟨g1,by rw [g2,hel];omega,?_,?_⟩
    ·rw [g3,e1,Nat.pow_succ,Nat.mul_assoc,Nat.mul_comm 256]
    ·rw [g4,Nat.pow_succ,Nat.mul_assoc,Nat.mul_comm 256]
   ·exact ⟨h,rfl,by simp,by simp⟩
theorem part_within {out:List Nat} {low rng lo hi:Nat} (h:SInv out low rng) (h0:16777216≤rng) (h1:rng < 4294967296) (h2:lo < hi) (h3:hi≤32768) :
   SInv out (low+(part rng lo hi).1) (part rng lo hi).2:=by
 obtain ⟨m1,m2⟩:=part_bounds h0 h1 h2 h3
 obtain ⟨g1,g2,g3,g4⟩:=h
 exact ⟨g1,by omega,by unfold at_ at *;omega,by omega⟩
def Within (E R L E' R' L':Nat):Prop:=∃ d,L'=L+d∧E*256 ^ d≤E'∧E'+R'≤(E+R)*256 ^ d
theorem Within.refl (E R L:Nat):Within E R L E R L:=⟨0,by simp,by simp,by simp⟩
theorem Within.trans {a b c d e f g h i:Nat} (x:Within a b c d e f) (y:Within d e f g h i):Within a b c g h i:=by
 obtain ⟨m,x1,x2,x3⟩:=x
 obtain ⟨n,y1,y2,y3⟩:=y
 refine ⟨m+n,by omega,?_,?_⟩
 · rw [Nat.pow_add,← Nat.mul_assoc]
   exact Nat.le_trans (Nat.mul_le_mul_right _ x2) y2
 · rw [Nat.pow_add,← Nat.mul_assoc]
   exact Nat.le_trans y3 (Nat.mul_le_mul_right _ x3)
abbrev Sr:=List Nat × Nat × Nat
def putS (s:Sr) (p:Nat × Nat):Sr:=put s.1 s.2.1 s.2.2 p.1 p.2
def puts (s:Sr) (ps:List (Nat × Nat)):Sr:=ps.foldl putS s
def SOk (s:Sr):Prop:=SInv s.1 s.2.1 s.2.2∧EInv s.2.1 s.2.2
def WithinS (s t:Sr):Prop:=Within (at_ s.1 s.2.1) s.2.2 s.1.length (at_ t.1 t.2.1) t.2.2 t.1.length
theorem put_at {s:Sr} {lo hi:Nat} (h:SOk s) (h2:lo < hi) (h3:hi≤32768) :
   SOk (putS s (lo,hi))∧(putS s (lo,hi)).1.length=s.1.length+steps 3 (part s.2.2 lo hi).2 ∧
    at_ (putS s (lo,hi)).1 (putS s (lo,hi)).2.1=(at_ s.1 s.2.1+(part s.2.2 lo hi).1)*256 ^ steps 3 (part s.2.2 lo hi).2 ∧
    (putS s (lo,hi)).2.2=(part s.2.2 lo hi).2*256 ^ steps 3 (part s.2.2 lo hi).2:=by
 obtain ⟨i,e⟩:=h
 have hw:=part_within i e.1 e.2.1 h2 h3
 obtain ⟨m1,m2⟩:=part_bounds e.1 e.2.1 h2 h3
 have:=e.2.1
 obtain ⟨g1,g2,g3,g4⟩:=renorm_at 3 hw (by omega)
 refine ⟨⟨g1,(put_inv e h2 h3).1⟩,g2,?_,g4⟩
 rw [show at_ s.1 s.2.1+(part s.2.2 lo hi).1=at_ s.1 (s.2.1+(part s.2.2 lo hi).1) by unfold at_;omega]
 exact g3
theorem puts_within:∀ (ps:List (Nat × Nat)) {s:Sr},SOk s→(∀ p ∈ ps,p.1 < p.2∧p.2≤32768)→SOk (puts s ps)∧WithinS s (puts s ps)
 | [],s,h,_=>⟨h,Within.refl _ _ _⟩
 | p :: ps,s,h,hp=>by
   obtain ⟨h1,h2⟩:=hp p (by simp)
   obtain ⟨g1,g2,g3,g4⟩:=put_at h h1 h2
   obtain ⟨m1,m2⟩:=part_bounds h.2.1 h.2.2.1 h1 h2
   obtain ⟨k1,k2⟩:=puts_within ps g1 fun q hq=>hp q (by simp [hq])
   refine ⟨k1,Within.trans ⟨steps 3 (part s.2.2 p.1 p.2).2,g2,?_,?_⟩ k2⟩
   ·show _≤at_ (putS s (p.1,p.2)).1 (putS s (p.1,p.2)).2.1
    rw [g3]
    exact Nat.mul_le_mul_right _ (by omega)
   ·show at_ (putS s (p.1,p.2)).1 (putS s (p.1,p.2)).2.1+(putS s (p.1,p.2)).2.2≤_
    rw [g3,g4,← Nat.add_mul]
    exact Nat.mul_le_mul_right _ (by omega)
def pre (B:List Nat):Nat→Nat
 | 0=>0
 | k+1=>pre B k*256+B.getD k 0
theorem pre_succ (B:List Nat) (k:Nat):pre B (k+1)=pre B k*256+B.getD k 0:=rfl
attribute [irreducible] pre
theorem pre_zero (B:List Nat):pre B 0=0:=by unfold pre;rfl
theorem pre_alike {a b:List Nat} (h:Alike a b):∀ k,pre a k=pre b k
 | 0=>by rw [pre_zero,pre_zero]
 | k+1=>by rw [pre_succ,pre_succ,pre_alike h k,h k]
theorem pre_take (l:List Nat):∀ k,k≤l.length→pre l k=bev (l.take k)
 | 0,_=>by rw [pre_zero];rfl
 | k+1,h=>by
   rw [pre_succ,pre_take l k (by omega),List.take_add_one,List.getElem?_eq_getElem (by omega),Option.toList_some,bev_snoc]
   simp [List.getD_eq_getElem?_getD,List.getElem?_eq_getElem (show k < l.length by omega)]
theorem pre_div (l:List Nat) (hb:∀ x ∈ l,x < 256) {k d:Nat} (h:l.length=k+d):pre l k=bev l / 256 ^ d:=by
 rw [pre_take l k (by omega)]
 have e:bev l=bev (l.take k)*256 ^ d+bev (l.drop k):=by
   conv=>lhs;rw [← List.take_append_drop k l]
   rw [bev_append];simp [show l.length - k=d by omega]
 have hlt:=bev_lt (l.drop k) fun x hx=>hb x (List.mem_of_mem_drop hx)
 rw [List.length_drop,show l.length - k=d by omega] at hlt
 have hp:0 < 256 ^ d:=Nat.pow_pos (by decide)
 rw [e,Nat.add_comm,Nat.mul_comm (bev (List.take k l)),Nat.add_mul_div_left _ _ hp,Nat.div_eq_of_lt hlt,Nat.zero_add]
theorem headD_drop (B:List Nat) (k:Nat):(B.drop k).headD 0=B.getD k 0:=by
 rw [List.getD_eq_getElem?_getD,← List.head?_drop]
 cases B.drop k <;> rfl
theorem dsh_pre (B:List Nat):∀ (n k:Nat),dsh n (B.drop k) (pre B k)=(B.drop (k+n),pre B (k+n))
 | 0,k=>rfl
 | n+1,k=>by
   rw [dsh,List.tail_drop,headD_drop,← pre_succ,dsh_pre B n (k+1),show k+1+n=k+(n+1) by omega]
theorem drenorm_pre (B:List Nat):∀ (n k e w:Nat),e≤pre B k→drenorm n (B.drop k) (pre B k - e) w=(B.drop (k+steps n w),pre B (k+steps n w) - e*256 ^ steps n w,w*256 ^ steps n w)
 | 0,k,e,w,h=>by simp [drenorm,steps]
 | n+1,k,e,w,h=>by
   have hb:=pre_succ B k
   have hm:=Nat.mul_le_mul_right 256 h
   have e1:(pre B k - e)*256+B.getD k 0=pre B (k+1) - e*256:=by rw [Nat.sub_mul];omega
   have e2:=drenorm_pre B n (k+1) (e*256) (w*256) (by omega)
   simp only [drenorm,steps]
   split
   ·rw [List.tail_drop,headD_drop,e1,e2]
    generalize steps n (w*256)=j
    rw [Nat.pow_succ,Nat.mul_comm (256 ^ j),← Nat.mul_assoc,← Nat.mul_assoc,show k+1+j=k+(j+1) by omega]
   ·simp
def Lies (B:List Nat) (E R L:Nat):Prop:=E≤pre B (L+4)∧pre B (L+4) < E+R
theorem value_in {q r V A lo hi:Nat} (hq:q=r / 32768) (h0:512≤q) (h3:hi≤32768) (h2:lo < hi) (l1:A+q*lo≤V) (l2:hi ≠ 32768→V < A+q*lo+q*(hi - lo)):lo≤value (V - A) r∧value (V - A) r < hi:=by
 unfold value
 rw [← hq]
 have h5:lo≤(V - A) / q:=(Nat.le_div_iff_mul_le (by omega)).mpr (by rw [Nat.mul_comm];omega)
 refine ⟨by omega,?_⟩
 by_cases hc:hi=32768
 · omega
 · have h6:=l2 hc
   have h7:q*lo+q*(hi - lo)=q*hi:=by rw [← Nat.mul_add];congr 1;omega
   have h8:(V - A) / q < hi:=(Nat.div_lt_iff_lt_mul (by omega)).mpr (by rw [Nat.mul_comm];omega)
   omega
theorem dec_step {B:List Nat} {s:Sr} {lo hi:Nat} (h:SOk s) (h2:lo < hi) (h3:hi≤32768) (hl:Lies B (at_ s.1 s.2.1+(part s.2.2 lo hi).1) (part s.2.2 lo hi).2 s.1.length) :
   (lo≤value (pre B (s.1.length+4) - at_ s.1 s.2.1) s.2.2∧value (pre B (s.1.length+4) - at_ s.1 s.2.1) s.2.2 < hi) ∧
    take (B.drop (s.1.length+4)) (pre B (s.1.length+4) - at_ s.1 s.2.1) s.2.2 lo hi=(B.drop ((putS s (lo,hi)).1.length+4),pre B ((putS s (lo,hi)).1.length+4) - at_ (putS s (lo,hi)).1 (putS s (lo,hi)).2.1,(putS s (lo,hi)).2.2):=by
 obtain ⟨g1,g2,g3,g4⟩:=put_at h h2 h3
 obtain ⟨l1,l2⟩:=hl
 obtain ⟨e1,e2,e3⟩:=h.2
 have hq:512≤s.2.2 / 32768:=by omega
 have ep:(part s.2.2 lo hi).1=s.2.2 / 32768*lo:=rfl
 have l1':at_ s.1 s.2.1+s.2.2 / 32768*lo≤pre B (s.1.length+4):=by rw [← ep];exact l1
 have l2':hi ≠ 32768→pre B (s.1.length+4) < at_ s.1 s.2.1+s.2.2 / 32768*lo+s.2.2 / 32768*(hi - lo):=fun hc=>by
   have e:(part s.2.2 lo hi).2=s.2.2 / 32768*(hi - lo):=by simp only [part,if_neg hc]
   rw [e,ep] at l2
   exact l2
 generalize putS s (lo,hi)=s' at g1 g2 g3 g4 ⊢
 have ht:∀ (a:List Nat) (c r:Nat),take a c r lo hi=drenorm 3 a (c - (part r lo hi).1) (part r lo hi).2:=fun _ _ _=>rfl
 have e5:=drenorm_pre B 3 (s.1.length+4) (at_ s.1 s.2.1+(part s.2.2 lo hi).1) (part s.2.2 lo hi).2 l1
 have hv:=value_in (q:=s.2.2 / 32768) (r:=s.2.2) rfl hq h3 h2 l1' l2'
 refine ⟨hv,?_⟩
 rw [ht,Nat.sub_sub,e5,g2,g3,g4,Nat.add_right_comm]
theorem emits_at:∀ (n:Nat) {out:List Nat} {low:Nat},SInv out low 1→SInv (emits n out low).1 (emits n out low).2 1∧at_ (emits n out low).1 (emits n out low).2=at_ out low*256 ^ n
 | 0,out,low,h=>⟨h,by simp [emits]⟩
 | n+1,out,low,h=>by
   obtain ⟨h1,h2,h3,h4⟩:=h
   obtain ⟨e1,e2⟩:=emit_at (low:=low) h1 (by omega) (by omega)
   have hel:=emit_length out low
   have hlt:=emit_lt out low
   have hs:SInv (emit out low).1 (emit out low).2 1:=⟨e2,by omega,by rw [e1,hel,Nat.pow_succ];omega,by omega⟩
   obtain ⟨g1,g2⟩:=emits_at n hs
   exact ⟨g1,by rw [emits,g2,e1,Nat.pow_succ,Nat.mul_assoc,Nat.mul_comm 256]⟩
theorem emits_lt (n:Nat) (out:List Nat) (low:Nat):(emits (n+1) out low).2 < 4294967296:=by
 induction n generalizing out low with
 | zero=>exact emit_lt out low
 | succ n ih=>exact ih _ _
theorem trim_alike (l:List Nat):∀ k,k≤l.length→Alike (l.take k) (l.take (trimN l k)):=by
 have:∀ k,trimN l k=shorter l k:=by
   intro k
   induction k with
   | zero=>rfl
   | succ k ih=>simp only [trimN,shorter,ih]
 intro k hk
 rw [this];exact shorter_alike l k hk
theorem bytes_lie {s:Sr} (hs:SOk s) {E R L:Nat} (hw:Within E R L (at_ s.1 s.2.1) s.2.2 s.1.length):Lies (bytes s.1 s.2.1) E R L:=by
 obtain ⟨⟨h1,h2,h3,h4⟩,h5⟩:=hs
 obtain ⟨d,w1,w2,w3⟩:=hw
 obtain ⟨g1,g2⟩:=emits_at 4 (out:=s.1) (low:=s.2.1) ⟨h1,by omega,by omega,by omega⟩
 have g3:=emits_lt 3 s.1 s.2.1
 have g4:=emits_length 4 s.1 s.2.1
 have hal:=trim_alike (emits 4 s.1 s.2.1).1 (s.1.length+4) (by omega)
 rw [List.take_of_length_le (by omega)] at hal
 have hpre:pre (bytes s.1 s.2.1) (L+4)=pre (emits 4 s.1 s.2.1).1 (L+4):=by
   rw [bytes];exact (pre_alike hal _).symm
 have hbev:bev (emits 4 s.1 s.2.1).1=at_ s.1 s.2.1:=by
   have p4:(256:Nat) ^ 4=4294967296:=by decide
   rw [p4] at g2
   generalize emits 4 s.1 s.2.1=r at g2 g3 ⊢
   generalize at_ s.1 s.2.1=z at g2 ⊢
   unfold at_ at g2
   omega
 have hp:0 < 256 ^ d:=Nat.pow_pos (by decide)
 unfold Lies
 rw [hpre,pre_div _ g1.byte (k:=L+4) (d:=d) (by omega),hbev]
 exact ⟨(Nat.le_div_iff_mul_le hp).mpr w2,(Nat.div_lt_iff_lt_mul hp).mpr (Nat.lt_of_lt_of_le (Nat.lt_add_of_pos_right h4) w3)⟩
abbrev wS (s:Sr):Side:=.w s.1 s.2.1 s.2.2
abbrev s0:Sr:=([],0,4294967295)
theorem s0_ok:SOk s0:=⟨⟨by simp,by simp,by simp [at_,bev],by simp⟩,by simp,by simp,by simp⟩
def mate (B:List Nat) (s:Sr):Side:=.r (B.drop (s.1.length+4)) (pre B (s.1.length+4) - at_ s.1 s.2.1) s.2.2
theorem WithinS.trans {a b c:Sr} (x:WithinS a b) (y:WithinS b c):WithinS a c:=Within.trans x y
theorem putS_within {s:Sr} {lo hi:Nat} (h:SOk s) (h2:lo < hi) (h3:hi≤32768):SOk (putS s (lo,hi))∧WithinS s (putS s (lo,hi)) :=
 puts_within [(lo,hi)] h (by simp;omega)
theorem Side.code_r (rest:List Nat) (code rng lo hi:Nat):(Side.r rest code rng).code lo hi=.r (take rest code rng lo hi).1 (take rest code rng lo hi).2.1 (take rest code rng lo hi).2.2:=rfl
theorem Side.code_w (s:Sr) (lo hi:Nat):(wS s).code lo hi=wS (putS s (lo,hi)):=rfl
theorem Side.bit_r (rest:List Nat) (code rng x:Nat):(Side.r rest code rng).bit x=value code rng / 16384:=rfl
theorem Side.bit_w (s:Sr) (x:Nat):(wS s).bit x=x:=rfl
theorem Side.val_r (t:Tb) (x:Int) (rest:List Nat) (code rng:Nat):(Side.r rest code rng).val t x=findP t (value code rng):=rfl
theorem puts_cons (s:Sr) (p:Nat × Nat) (l:List (Nat × Nat)):puts s (p :: l)=puts (putS s p) l:=rfl
theorem puts_nil (s:Sr):puts s []=s:=rfl
theorem side_eq {x:List Nat × Nat × Nat} {a:List Nat} {b c:Nat} (h:x=(a,b,c)):Side.r x.1 x.2.1 x.2.2=.r a b c:=by subst h;rfl
theorem mate_eq {B:List Nat} {s:Sr} {x:List Nat × Nat × Nat} (h:x=(B.drop (s.1.length+4),pre B (s.1.length+4) - at_ s.1 s.2.1,s.2.2)):Side.r x.1 x.2.1 x.2.2=mate B s:=by
 rw [side_eq h,mate]
attribute [local irreducible] putS puts at_ take value dread part bytes steps
theorem mate_code {T s:Sr} {lo hi:Nat} (hT:SOk T) (hs:SOk s) (h2:lo < hi) (h3:hi≤32768) (w:WithinS (putS s (lo,hi)) T) :
   ∃ b c r,mate (bytes T.1 T.2.1) s=.r b c r∧lo≤value c r∧value c r < hi∧(mate (bytes T.1 T.2.1) s).code lo hi=mate (bytes T.1 T.2.1) (putS s (lo,hi)):=by
 obtain ⟨g1,g2,g3,g4⟩:=put_at hs h2 h3
 have hmid:Within (at_ s.1 s.2.1+(part s.2.2 lo hi).1) (part s.2.2 lo hi).2 s.1.length (at_ T.1 T.2.1) T.2.2 T.1.length:=by
   refine Within.trans ⟨steps 3 (part s.2.2 lo hi).2,g2,Nat.le_of_eq g3.symm,?_⟩ w
   rw [g3,g4,← Nat.add_mul]
   exact Nat.le_refl _
 have hl:=bytes_lie hT hmid
 clear w hmid g1 g2 g3 g4
 obtain ⟨B,hB⟩:∃ B,B=bytes T.1 T.2.1:=⟨_,rfl⟩
 rw [← hB] at hl ⊢
 obtain ⟨⟨q1,q2⟩,q3⟩:=dec_step hs h2 h3 hl
 obtain ⟨u,hu⟩:∃ u,u=putS s (lo,hi):=⟨_,rfl⟩
 rw [← hu] at q3 ⊢
 have hm:mate B s=.r (B.drop (s.1.length+4)) (pre B (s.1.length+4) - at_ s.1 s.2.1) s.2.2:=by rw [mate]
 rw [hm]
 obtain ⟨V,hV⟩:∃ V,V=pre B (s.1.length+4) - at_ s.1 s.2.1:=⟨_,rfl⟩
 rw [← hV] at q1 q2 q3 ⊢
 obtain ⟨x,hx⟩:∃ x,x=take (B.drop (s.1.length+4)) V s.2.2 lo hi:=⟨_,rfl⟩
 rw [← hx] at q3
 refine ⟨_,_,_,rfl,q1,q2,?_⟩
 rw [Side.code_r,← hx]
 exact mate_eq q3
def bitsP:Nat→Nat→List (Nat × Nat)
 | 0,_=>[]
 | j+1,v=>(v / 2 ^ j % 2*16384,v / 2 ^ j % 2*16384+16384) :: bitsP j v
theorem bitsP_ok:∀ (j v:Nat),∀ p ∈ bitsP j v,p.1 < p.2∧p.2≤32768
 | 0,v,p,h=>by simp [bitsP] at h
 | j+1,v,p,h=>by
   simp only [bitsP,List.mem_cons] at h
   rcases h with rfl | h
   ·simp only;omega
   ·exact bitsP_ok j v p h
theorem bit_num (j v out:Nat):(2*out+v / 2 ^ j % 2)*2 ^ j+v % 2 ^ j=out*2 ^ (j+1)+v % 2 ^ (j+1):=by
 have h1:v % 2 ^ (j+1)=v % 2 ^ j+2 ^ j*(v / 2 ^ j % 2):=Nat.mod_mul
 rw [h1,Nat.pow_succ,Nat.add_mul,Nat.mul_comm 2 out,Nat.mul_assoc,Nat.mul_comm 2 (2 ^ j),Nat.mul_comm (v / 2 ^ j % 2)]
 omega
attribute [local irreducible] mate
theorem bits_zero (v out:Nat) (sd:Side):bits 0 v out sd=(out,sd):=rfl
theorem bits_succ (j v out:Nat) (sd:Side):bits (j+1) v out sd=bits j v (2*out+sd.bit (v / 2 ^ j % 2)) (sd.code (sd.bit (v / 2 ^ j % 2)*16384) (sd.bit (v / 2 ^ j % 2)*16384+16384)):=rfl
theorem bitsP_succ (j v:Nat):bitsP (j+1) v=(v / 2 ^ j % 2*16384,v / 2 ^ j % 2*16384+16384) :: bitsP j v:=rfl
theorem bits_w (j:Nat):∀ (v out:Nat) (s:Sr),bits j v out (wS s)=(out*2 ^ j+v % 2 ^ j,wS (puts s (bitsP j v))):=by
 induction j with
 | zero =>
   intro v out s
   rw [bits_zero,show bitsP 0 v=[] from rfl,puts_nil];simp [Nat.mod_one]
 | succ j ih =>
   intro v out s
   rw [bits_succ,Side.bit_w,Side.code_w,ih,bit_num,bitsP_succ,puts_cons]
theorem bits_mate {T:Sr} (hT:SOk T) (j:Nat):∀ (v v' out:Nat) (s:Sr),SOk s→WithinS (puts s (bitsP j v)) T →
   bits j v' out (mate (bytes T.1 T.2.1) s)=(out*2 ^ j+v % 2 ^ j,mate (bytes T.1 T.2.1) (puts s (bitsP j v))):=by
 induction j with
 | zero =>
   intro v v' out s hs w
   rw [bits_zero,show bitsP 0 v=[] from rfl,puts_nil];simp [Nat.mod_one]
 | succ j ih =>
   intro v v' out s hs w
   obtain ⟨b,hb⟩:∃ b,b=v / 2 ^ j % 2:=⟨_,rfl⟩
   have hb2:b < 2:=by omega
   have hn:=bit_num j v out
   rw [bitsP_succ,puts_cons] at w
   rw [bitsP_succ,puts_cons]
   rw [← hb] at w hn ⊢
   obtain ⟨k1,k2⟩:=putS_within hs (lo:=b*16384) (hi:=b*16384+16384) (by omega) (by omega)
   have w1:=(puts_within (bitsP j v) k1 (bitsP_ok j v)).2
   obtain ⟨x,c,r,e1,e2,e3,e4⟩:=mate_code hT hs (lo:=b*16384) (hi:=b*16384+16384) (by omega) (by omega) (w1.trans w)
   have hbit:∀ x,(mate (bytes T.1 T.2.1) s).bit x=b:=fun x=>by
    rw [e1,Side.bit_r];omega
   rw [bits_succ,hbit,e4,ih v v' _ _ k1 w,hn]
theorem find_mate {t:Tb} (ok:TabOk t) {v at_:Nat} (hv:v < t.c.length) (h1:pt t v≤at_) (h2:at_ < pt t (v+1)):findP t at_=v :=
 findP_eq hv h2 fun j hj=>Nat.le_trans (pt_mono ok (show j+1≤v by omega) (by omega)) h1
theorem val_mate {T s:Sr} {t:Tb} (ok:TabOk t) {v:Nat} (hT:SOk T) (hs:SOk s) (hv:v < t.c.length) (w:WithinS (putS s (pt t v,pt t (v+1))) T) (x:Int) :
   (mate (bytes T.1 T.2.1) s).val t x=v∧(mate (bytes T.1 T.2.1) s).code (pt t v) (pt t (v+1))=mate (bytes T.1 T.2.1) (putS s (pt t v,pt t (v+1))):=by
 obtain ⟨y,c,r,e1,e2,e3,e4⟩:=mate_code hT hs (pt_lt ok hv) (pt_le ok (Nat.succ_le_of_lt hv)) w
 refine ⟨?_,e4⟩
 rw [e1,Side.val_r]
 exact find_mate ok hv e2 e3
inductive Op where
 | num (n v:Nat)
 | sym (k c v:Nat)
def Op.ok:Op→Prop
 | .num n v=>n < 31∧v < 2 ^ n
 | .sym k c v=>k < 32∧c < cx k∧v < vl k
def St.step (st:St):Op→St
 | .num n v=>st.num n v
 | .sym k c v=>st.sym k c v
def St.run (st:St) (l:List Op):St:=l.foldl St.step st
def mateS (B:List Nat) (s:Sr) (st:St):St:=⟨mate B s,st.S,st.ad,st.n⟩
theorem step_w {st:St} {s:Sr} (hs:st.sd=wS s) (ok:SOk s) (so:SetOk st.S) {o:Op} (ho:o.ok) :
   ∃ s',(st.step o).sd=wS s'∧SOk s'∧WithinS s s'∧SetOk (st.step o).S∧(st.step o).ad=st.ad∧(st.ad=false→(st.step o).S=st.S) ∧
    ∀ T,SOk T→WithinS s' T→match o with
     | .num n v=>((mateS (bytes T.1 T.2.1) s st).num n 0=mateS (bytes T.1 T.2.1) s' (st.step o))∧(mateS (bytes T.1 T.2.1) s st).numV n 0=v∧st.numV n v=v
     | .sym k c v=>((mateS (bytes T.1 T.2.1) s st).sym k c (-1)=mateS (bytes T.1 T.2.1) s' (st.step o))∧(mateS (bytes T.1 T.2.1) s st).symV k c (-1)=v∧st.symV k c v=v:=by
 cases o with
 | num n v =>
   obtain ⟨h1,h2⟩:=ho
   have hv:v % 2 ^ n=v:=Nat.mod_eq_of_lt h2
   have hw:=bits_w n v 0 s
   rw [hv,Nat.zero_mul,Nat.zero_add] at hw
   have k:=puts_within (bitsP n v) ok (bitsP_ok n v)
   refine ⟨puts s (bitsP n v),?_,k.1,k.2,so,rfl,fun _=>rfl,fun T hT w=>?_⟩
   ·show (bits n v 0 st.sd).2=_
    rw [hs,hw]
   ·have hm:=bits_mate hT n v 0 0 s ok w
    rw [hv,Nat.zero_mul,Nat.zero_add] at hm
    refine ⟨?_,?_,?_⟩
    ·show St.mk (bits n 0 0 (mate _ s)).2 st.S st.ad (st.n+n)=_
     rw [hm];rfl
    ·show (bits n 0 0 (mate _ s)).1=v
     rw [hm]
    ·show (bits n v 0 st.sd).1=v
     rw [hs,hw]
 | sym k c v =>
   obtain ⟨h1,h2,h3⟩:=ho
   obtain ⟨r,hr,ht,tok,tl⟩:=so.get h1 h2
   obtain ⟨t,htd⟩:∃ t,t=tabOf st.S k c:=⟨_,rfl⟩
   rw [← htd] at ht tok tl
   have hvl:v < t.c.length:=by omega
   obtain ⟨k1,k2⟩:=putS_within ok (pt_lt tok hvl) (pt_le tok (Nat.succ_le_of_lt hvl))
   have hval:st.sd.val t (v:Int)=v:=by rw [hs];simp [Side.val]
   have hst:st.step (.sym k c v)=⟨wS (putS s (pt t v,pt t (v+1))),if st.ad then st.S.set k ((st.S.getD k []).set c (adaptP t v)) else st.S,st.ad,st.n+1⟩:=by
    show st.sym k c v=_
    rw [St.sym,← htd,hval,hs,Side.code_w]
   refine ⟨putS s (pt t v,pt t (v+1)),by rw [hst],k1,k2,?_,by rw [hst],fun h=>by rw [hst];simp [h],fun T hT w=>?_⟩
   ·rw [hst]
    show SetOk (if st.ad then _ else _)
    split
    ·exact so.set h1 (adaptP_ok tok v) (by rw [adaptP_len,tl])
    ·exact so
   ·obtain ⟨m1,m2⟩:=val_mate tok hT ok hvl w (-1)
    refine ⟨?_,?_,?_⟩
    ·rw [hst]
     show St.sym ⟨mate _ s,st.S,st.ad,st.n⟩ k c (-1)=_
     rw [St.sym]
     simp only
     rw [← htd,m1,m2];rfl
    ·show (mate _ s).val (tabOf st.S k c) (-1)=v
     rw [← htd,m1]
    ·show st.sd.val (tabOf st.S k c) v=v
     rw [← htd,hval]
theorem run_within:∀ (l:List Op) {st:St} {s:Sr},st.sd=wS s→SOk s→SetOk st.S→(∀ o ∈ l,o.ok) →
   ∃ T,(st.run l).sd=wS T∧SOk T∧WithinS s T
 | [],st,s,hs,ok,so,ho=>⟨s,hs,ok,Within.refl _ _ _⟩
 | o :: l,st,s,hs,ok,so,ho=>by
   obtain ⟨s',h1,h2,h3,h4,_,_,_⟩:=step_w hs ok so (ho o (by simp))
   obtain ⟨T,g1,g2,g3⟩:=run_within l h1 h2 h4 fun o' h=>ho o' (by simp [h])
   exact ⟨T,g1,g2,h3.trans g3⟩
theorem newR_mate {T:Sr} (hT:SOk T) (w:WithinS s0 T) (S:List (List Tb)) (ad:Bool) :
   newR (bytes T.1 T.2.1) S ad=mateS (bytes T.1 T.2.1) s0 (newW S ad):=by
 have h0:=dsh_pre (bytes T.1 T.2.1) 4 0
 rw [pre_zero] at h0
 simp only [List.drop_zero,Nat.zero_add] at h0
 have hw:Within 0 4294967295 0 (at_ T.1 T.2.1) T.2.2 T.1.length:=by simpa [WithinS,at_,bev] using w
 have hl:=(bytes_lie hT hw).2
 simp only [Nat.zero_add] at hl
 have hd:dread (bytes T.1 T.2.1)=((bytes T.1 T.2.1).drop 4,pre (bytes T.1 T.2.1) 4):=by
   simp only [dread,h0]
   rw [Nat.min_eq_left (by omega)]
 rw [newR,hd]
 simp [mateS,mate,newW,at_,bev]
end Go.Proofs.YtbajipmhnoakeaaGreat
