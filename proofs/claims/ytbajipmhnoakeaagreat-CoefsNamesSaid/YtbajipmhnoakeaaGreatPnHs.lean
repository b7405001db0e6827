import Derived.Test.YtbajipmhnoakeaaGreatPnHr
set_option linter.unusedVariables false
set_option linter.unusedSimpArgs false
set_option maxRecDepth 20000
namespace Go.Proofs.YtbajipmhnoakeaaGreat
open Go Go.Zf Go.RowKit Go.WideShapes
open Go.Zf (wi64)
theorem msZ (h:H):ms h 3 8 [.int .i64 0] (.int .i64 16) (.int .i64 16)=some (.sl h.n 0 16 (.ex 16),h.new (.cells (intsV z16) 3 false)):=ms_zero h 16 (by decide)
theorem names_a (h:H):∃ v2 h2 c h3 L1 g4 g5 L2 g7,KW 7 [] h=some (.ret (.agg [v2]),h2)∧KW 6 [.agg [v2],.bool true] h2=some (.ret (.tup [.ptr c 0,.int .i64 0]),h3) ∧
  KW 11 [.ptr c 0,.int .i64 4,.int .i64 0,.int .i64 0,.sl h3.n 0 16 (.ex 16)] (h3.new (.cells (intsV z16) 3 false))=some (.ret (.tup [.sl L1 0 16 (.ex 16),.int .i64 0]),g4) ∧
  KW 14 [.ptr c 0] g4=some (.ret (.int .i64 1),g4)∧(g4.new (.cells (intsV z16) 3 false)).wr1 g4.n 0 (.int .i64 3)=some g5 ∧
  KW 11 [.ptr c 0,.int .i64 4,.int .i64 0,.int .i64 0,.sl g4.n 0 16 (.ex 16)] g5=some (.ret (.tup [.sl L2 0 16 (.ex 16),.int .i64 0]),g7) ∧
  (∀ g8,Ext g7 g8→KW 14 [.ptr c 0] g8=some (.ret (.int .i64 6),g8)∧IntsX (fun _=>False) g8 (.sl L1 0 16 (.ex 16)) z16∧IntsX (fun _=>False) g8 (.sl L2 0 16 (.ex 16)) three) ∧
  g7.get g4.n=some (.cells (intsV three) 3 false)∧Ext h g7:=by
 obtain ⟨w,h2,a2,v2,rfl,W2,x2⟩:=(default27_ok h).elim
 obtain ⟨w,h3,a3,c,rfl,C3,x3⟩:=(writer12_ok W2.setR defS_ok true).elim
 have m2:=x2.n
 have m3:=x3.n
 obtain ⟨g1,hg1⟩:∃ y,y=h3.new (.cells (intsV z16) 3 false):=⟨_,rfl⟩
 have x1:Ext h3 g1:=by rw [hg1];exact (Ext.refl _).new _
 have r1:g1.get h3.n=some (.cells (intsV z16) 3 false):=by rw [hg1,get_new_same]
 have n1:g1.n=h3.n+1:=by rw [hg1,H.n_new]
 have C1:CoderAt (fun b=>h2.n≤b∧b < h3.n) g1 c 0 (newW defS true):=(C3.mono fun b hb hd=>⟨hd,hb⟩).ext x1
 have hN:sideP 4*sideP 4=16:=rfl
 have hb0:∀ x ∈ z16,(-1048576:Int)≤x∧x≤1048576:=by decide
 have hb3:∀ x ∈ three,(-1048576:Int)≤x∧x≤1048576:=by decide
 obtain ⟨w,g4,a4,E4⟩:=(code10_any (src:=z16) C1 (by omega) (size:=4) (.inl rfl) (plane:=0) (sign:=0) (by omega) (by omega) (v:=.sl h3.n 0 16 (.ex 16)) rfl (fun _=>IntsX.of (l:=z16) r1 (by omega)) (fun h=>by cases h) rfl hb0 (R:=c0) rfl).elim
 rw [hN] at E4
 rcases E4 with ⟨L1,lv1,q1,rfl,q3,K1⟩ | ⟨q1,_⟩
 ·rw [c0_1] at q1;cases q1
  obtain ⟨E1,C4,nE1,sE1⟩:=K1.C
  have cn1:=count32_ok C4
  rw [c0_n] at cn1
  have m4:=K1.x.n
  have xg4:Ext h g4:=K1.x.ext ((x2.trans x3).trans x1) fun b hb hd=>by omega
  obtain ⟨g5,hg5⟩:∃ y,y=(g4.new (.cells (intsV z16) 3 false)).put g4.n (.cells ((intsV z16).set 0 (.int .i64 3)) 3 false):=⟨_,rfl⟩
  have w5:(g4.new (.cells (intsV z16) 3 false)).wr1 g4.n 0 (.int .i64 3)=some g5:=by rw [wr1_of get_new_same (by decide),hg5]
  have x5:Ext g4 g5:=by rw [hg5];exact ((Ext.refl _).new _).put (Nat.le_refl _) _
  have n5:g5.n=g4.n+1:=by rw [hg5,H.n_put,H.n_new]
  have r5:g5.get g4.n=some (.cells (intsV three) 3 false):=by rw [hg5,get_put_same (by rw [H.n_new];omega)];rfl
  have C5:CoderAt (fun b=>E1 b∧b < g4.n) g5 c _ c0.2:=(C4.mono fun b hb hd=>⟨hd,hb⟩).ext x5
  obtain ⟨w,g7,a7,E7⟩:=(code10_any (src:=three) C5 (by omega) (size:=4) (.inl rfl) (plane:=0) (sign:=0) (by omega) (by omega) (v:=.sl g4.n 0 16 (.ex 16)) rfl (fun _=>IntsX.of (l:=three) r5 (by omega)) (fun h=>by rw [c0_w] at h;cases h) rfl hb3 (R:=c1) (by rw [c0_w];rfl)).elim
  rw [hN] at E7
  rcases E7 with ⟨L2,lv2,q4,rfl,q6,K2⟩ | ⟨q4,_⟩
  ·rw [c1_1] at q4;cases q4
   obtain ⟨E2,C7,nE2,sE2⟩:=K2.C
   have m7:=K2.x.n
   have rT:g7.get g4.n=some (.cells (intsV three) 3 false):=by rw [K2.x.get _ (by omega) (by omega),r5]
   have lL1:=H.get_lt K1.l.get
   have rL1:g7.get L1=some (.cells (intsV z16) 3 false):=by rw [K2.x.get _ (by omega) (fun h=>nE1 h.1),x5.get _ lL1,K1.l.get]
   refine ⟨v2,h2,c,h3,L1,g4,g5,L2,g7,a2,a3,by rw [← hg1];exact a4,cn1,w5,a7,fun g8 x8=>⟨?_,?_,?_⟩,rT,?_⟩
   ·have:=count32_ok (C7.ext x8)
    rw [c1_n] at this;exact this
   ·exact IntsX.of (l:=z16) (by rw [x8.get _ (H.get_lt rL1),rL1]) (fun h=>h)
   ·exact IntsX.of (l:=three) (by rw [x8.get _ (H.get_lt K2.l.get),K2.l.get]) (fun h=>h)
   ·refine K2.x.ext (xg4.trans x5) fun b hb hd=>?_
    have:=K1.nL
    rcases sE1 b hd.1 with e | e
    ·omega
    ·have:=xg4.n;omega
  ·rw [c1_1] at q4;cases q4
 ·rw [c0_1] at q1;cases q1
end Go.Proofs.YtbajipmhnoakeaaGreat
