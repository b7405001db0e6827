import Derived.Test.YtbajipmhnoakeaaGreatPnKp
import Derived.Test.YtbajipmhnoakeaaGreatPnZOver
import Derived.Test.YtbajipmhnoakeaaGreatPnZLimW
import Derived.Test.YtbajipmhnoakeaaGreatProg
import Derived.RowKit
import Derived.Recover
set_option linter.unusedVariables false
set_option linter.unusedSimpArgs false
set_option maxRecDepth 20000
namespace Go.Proofs.YtbajipmhnoakeaaGreat
open Go Go.Zf
open Go.RowKit
def k43:List Nat:=[0,2,3,4]
def k69:List Nat:=[0,1,3,10]
noncomputable def body (f:FuncId):Code:=((Tryz.prog.funcs[f]?).bind (·.body)).getD .skip
noncomputable def left:Code→Code
 | .seq a _=>a
 | .block _ c=>c
 | c=>c
noncomputable def right:Code→Code
 | .seq _ b=>b
 | .cond _ _ b=>b
 | .block _ c=>c
 | c=>c
noncomputable def mid:Code→Code
 | .cond _ a _=>a
 | c=>c
noncomputable def opsOf:Code→Array Oper
 | .region _ ops _=>ops
 | _=>#[]
noncomputable def rest29:Code:=right (right (body 43))
noncomputable def tail39:Code:=mid (right (right (right (left (right (body 69))))))
noncomputable def ovRun (K:Oracle) (L:Looper) (_:FuncId) (args:List V) (h:H):Option (Rv × H) :=
 match den Tryz.prog K L k43 (left (body 43)) (entE k43 [args.getD 0 .und]) h with
 | some ⟨.nm,e,h2⟩=>match den Tryz.prog K L k43 rest29 ⟨[e.s k43 0,e.s k43 2,e.s k43 3,.any],0,e.s k43 0⟩ h2 with
  | some ⟨.rt,e',h3⟩=>bd (resVs Tryz.prog (e'.s k43) h3 [.cell 2 34,.cell 3 24]) fun vs=>if args.length=1 then some (.ret (fin1 vs),h3) else none
  | some ⟨.pn (.iface 112 (.agg [x])),e',h3⟩=>match den Tryz.prog K L k69 tail39 ⟨[e.s k43 2,e.s k43 3,.any,.agg [x]],0,e.s k43 2⟩ h3 with
   | some ⟨.nm,_,h4⟩=>bd (resVs Tryz.prog (e'.s k43) h4 [.cell 2 34,.cell 3 24]) fun vs=>if args.length=1 then some (.ret (fin1 vs),h4) else none
   | _=>none
  | _=>none
 | _=>none
noncomputable def ovC:Ov:=⟨fun f=>f == 43,ovRun⟩
instance:OvMono ovC where
 mono:=by
  intro K K' L L' hK hL f a h r e
  unfold ovC at e ⊢
  simp only [] at e ⊢
  unfold ovRun at e ⊢
  split at e
  ·rename_i e1 h2 h1
   rw [den_mono hK hL _ _ _ _ _ h1]
   simp only []
   split at e
   ·rename_i h3;rw [den_mono hK hL _ _ _ _ _ h3];exact e
   ·rename_i h3
    rw [den_mono hK hL _ _ _ _ _ h3]
    simp only []
    split at e
    ·rename_i h4;rw [den_mono hK hL _ _ _ _ _ h4];exact e
    ·cases e
   ·cases e
  ·cases e
noncomputable def KW:Oracle:=callW Tryz.prog kp ovC
theorem run_cont (a:List V) (h:H):∀ r,ovRun (callW Tryz.prog kp ovC) loopZ 43 a h=some r→∃ n,ovRun (runW Tryz.prog kp ovC n) (loopN n) 43 a h=some r:=by
 intro r e
 have up:∀ {c:Code} {keep} {m n:Nat} {e:E} {h:H} {st:St},m≤n→den Tryz.prog (runW Tryz.prog kp ovC m) (loopN m) keep c e h=some st→den Tryz.prog (runW Tryz.prog kp ovC n) (loopN n) keep c e h=some st :=
  fun hl hs=>den_mono (runW_le kp ovC hl) (loopN_le hl) _ _ _ _ _ hs
 unfold ovRun at e
 split at e
 ·rename_i e1 h2 h1
  obtain ⟨n1,g1⟩:=den_contW kp ovC _ _ _ _ _ h1
  split at e
  ·rename_i h3
   obtain ⟨n2,g2⟩:=den_contW kp ovC _ _ _ _ _ h3
   refine ⟨max n1 n2,?_⟩
   unfold ovRun
   have q1:=up (Nat.le_max_left n1 n2) g1
   have q2:=up (Nat.le_max_right n1 n2) g2
   rw [q1];simp only [];rw [q2];exact e
  ·rename_i h3
   obtain ⟨n2,g2⟩:=den_contW kp ovC _ _ _ _ _ h3
   split at e
   ·rename_i h4
    obtain ⟨n3,g3⟩:=den_contW kp ovC _ _ _ _ _ h4
    refine ⟨max (max n1 n2) n3,?_⟩
    unfold ovRun
    have q1:=up (n:=max (max n1 n2) n3) (by omega) g1
    have q2:=up (n:=max (max n1 n2) n3) (by omega) g2
    have q3:=up (n:=max (max n1 n2) n3) (by omega) g3
    rw [q1];simp only [];rw [q2];simp only [];rw [q3];exact e
   ·cases e
  ·cases e
 ·cases e
theorem has43:ovC.has 43=true:=by simp [ovC]
theorem ovC_run:ovC.run=ovRun:=by simp [ovC]
theorem w43 (p0:V) (h:H):KW 43 [p0] h=ovRun KW loopZ 43 [p0] h:=by
 unfold KW
 rw [callW_ov has43 (by rw [ovC_run];exact run_cont [p0] h),ovC_run]
end Go.Proofs.YtbajipmhnoakeaaGreat
