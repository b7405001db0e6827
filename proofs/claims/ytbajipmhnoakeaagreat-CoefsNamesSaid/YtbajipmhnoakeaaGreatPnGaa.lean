import Derived.Test.YtbajipmhnoakeaaGreatPnGa
import Derived.KernelRfl
set_option linter.unusedVariables false
set_option linter.unusedSimpArgs false
set_option maxRecDepth 20000
namespace Go.Proofs.YtbajipmhnoakeaaGreat
open Go Go.Zf
open Go.RowKit
noncomputable def fn29:Func:=(Tryz.prog.funcs[43]?).getD default
noncomputable def fn39:Func:=(Tryz.prog.funcs[69]?).getD default
theorem at29:Tryz.prog.funcs[43]?=some fn29:=by kernel_rfl
theorem at39:Tryz.prog.funcs[69]?=some fn39:=by kernel_rfl
noncomputable def ops1:Array Oper:=opsOf (left (right (body 43)))
noncomputable def opsA:Array Oper:=opsOf (left (body 69))
noncomputable def opsC:Array Oper:=opsOf (mid (right (left (right (body 69)))))
noncomputable def opsD:Array Oper:=opsOf (left (right (right (left (right (body 69))))))
noncomputable def nay39:Code:=right (right (right (right (left (right (body 69))))))
theorem body29:fn29.body=some (.seq (left (body 43)) (.seq (.region 1 ops1 false) rest29)):=by kernel_rfl
theorem shape39:fn39.body=some (.seq (.region 0 opsA false) (.block 0 (.seq (.region 3 (opsOf (left (left (right (body 69))))) false) (.cond (.tmp 7) (.region 4 opsC false) (.seq (.region 5 opsD false) (.cond (.tmp 9) tail39 nay39)))))):=by kernel_rfl
theorem res29:fn29.results=#[.cell 2 34,.cell 3 24]:=by kernel_rfl
theorem res39:fn39.results=#[]:=by kernel_rfl
theorem tmps29:fn29.ntmps=18:=by kernel_rfl
theorem tmps39:fn39.ntmps=13:=by kernel_rfl
theorem name29:(fn29.name == "runtime.NumGoroutine")=false:=by kernel_rfl
theorem dst29:dstOk 18 (left (body 43))=true:=by kernel_rfl
theorem dstR:dstOk 18 rest29=true:=by kernel_rfl
theorem dstT:dstOk 13 tail39=true:=by kernel_rfl
noncomputable def oper (l:Array Oper) (j:Nat):Oper:=(l[j]?).getD default
noncomputable def ops3:Array Oper:=opsOf (left (left (right (body 69))))
theorem n1:List.range ops1.size=[0,1]:=by kernel_rfl
theorem nA:List.range opsA.size=[0]:=by kernel_rfl
theorem n3:List.range ops3.size=[0]:=by kernel_rfl
theorem nC:List.range opsC.size=[0]:=by kernel_rfl
theorem nD:List.range opsD.size=[0,1,2]:=by kernel_rfl
theorem a10:ops1[0]?=some (oper ops1 0):=by kernel_rfl
theorem a11:ops1[1]?=some (oper ops1 1):=by kernel_rfl
theorem aA:opsA[0]?=some (oper opsA 0):=by kernel_rfl
theorem a3:ops3[0]?=some (oper ops3 0):=by kernel_rfl
theorem aC:opsC[0]?=some (oper opsC 0):=by kernel_rfl
theorem aD0:opsD[0]?=some (oper opsD 0):=by kernel_rfl
theorem aD1:opsD[1]?=some (oper opsD 1):=by kernel_rfl
theorem aD2:opsD[2]?=some (oper opsD 2):=by kernel_rfl
theorem g10:(oper ops1 0).guard=none:=by kernel_rfl
theorem g11:(oper ops1 1).guard=none:=by kernel_rfl
theorem gA:(oper opsA 0).guard=none:=by kernel_rfl
theorem g3:(oper ops3 0).guard=none:=by kernel_rfl
theorem gC:(oper opsC 0).guard=none:=by kernel_rfl
theorem gD0:(oper opsD 0).guard=none:=by kernel_rfl
theorem gD1:(oper opsD 1).guard=none:=by kernel_rfl
theorem gD2:(oper opsD 2).guard=none:=by kernel_rfl
theorem d10:(oper ops1 0).dst=some 5:=by kernel_rfl
theorem d11:(oper ops1 1).dst=none:=by kernel_rfl
theorem dA:(oper opsA 0).dst=some 5:=by kernel_rfl
theorem d3:(oper ops3 0).dst=some 7:=by kernel_rfl
theorem dC:(oper opsC 0).dst=some 2:=by kernel_rfl
theorem dD0:(oper opsD 0).dst=some 8:=by kernel_rfl
theorem dD1:(oper opsD 1).dst=some 9:=by kernel_rfl
theorem dD2:(oper opsD 2).dst=some 10:=by kernel_rfl
theorem x10 (a:Act) (w:World):(execOp a.eval (oper ops1 0)).run Tryz.prog w=.ok (.value (.func (.func 69) #[] #[a.eval (.tmp 2),a.eval (.tmp 3)])) w:=by kernel_rfl
theorem x11 (a:Act) (w:World) {x y:Value} (h:a.eval (.tmp 5)=.func (.func 69) #[] #[x,y]):(execOp a.eval (oper ops1 1)).run Tryz.prog w=.ok (.defer { target:=.fn (.func 69) #[x,y],args:=#[] }) w:=by
 have:(execOp a.eval (oper ops1 1)).run Tryz.prog w=(do pure (Next.defer (← Deferred.ofValue (a.eval (.tmp 5)) #[])):Sem Next).run Tryz.prog w:=by kernel_rfl
 rw [this,h];rfl
theorem xA (a:Act) (w:World):(execOp a.eval (oper opsA 0)).run Tryz.prog w=.ok .recover w:=by kernel_rfl
theorem x3n (a:Act) (w:World) (h:a.eval (.tmp 5)=.nilIface):(execOp a.eval (oper ops3 0)).run Tryz.prog w=.ok (.value (.bool true)) w:=by
 have:(execOp a.eval (oper ops3 0)).run Tryz.prog w=(do pure (Next.value (← (do eqGuard .eql 20 (.tmp 5) (.const .nilIface) (a.eval (.tmp 5)) .nilIface;binOp .eql 20 (a.eval (.tmp 5)) .nilIface))):Sem Next).run Tryz.prog w:=by kernel_rfl
 have q:(do pure (Next.value (← (do eqGuard .eql 20 (.tmp 5) (.const .nilIface) ((.nilIface)) .nilIface;binOp .eql 20 ((.nilIface)) .nilIface))):Sem Next).run Tryz.prog w=.ok (.value (.bool true)) w:=by kernel_rfl
 rw [this,h];exact q
theorem x3s (a:Act) (w:World) {u:Value} (h:a.eval (.tmp 5)=.iface 112 u):(execOp a.eval (oper ops3 0)).run Tryz.prog w=.ok (.value (.bool false)) w:=by
 have:(execOp a.eval (oper ops3 0)).run Tryz.prog w=(do pure (Next.value (← (do eqGuard .eql 20 (.tmp 5) (.const .nilIface) (a.eval (.tmp 5)) .nilIface;binOp .eql 20 (a.eval (.tmp 5)) .nilIface))):Sem Next).run Tryz.prog w:=by kernel_rfl
 have q:(do pure (Next.value (← (do eqGuard .eql 20 (.tmp 5) (.const .nilIface) ((.iface 112 u)) .nilIface;binOp .eql 20 ((.iface 112 u)) .nilIface))):Sem Next).run Tryz.prog w=.ok (.value (.bool false)) w:=by kernel_rfl
 rw [this,h];exact q
theorem xC (a:Act) (w:World):(execOp a.eval (oper opsC 0)).run Tryz.prog w=.ok (.value (a.eval (.tmp 5))) w:=by kernel_rfl
theorem xD0 (a:Act) (w:World) {u:Value} (h:a.eval (.tmp 5)=.iface 112 u):(execOp a.eval (oper opsD 0)).run Tryz.prog w=.ok (.value (.tuple #[u,.bool true])) w:=by
 have:(execOp a.eval (oper opsD 0)).run Tryz.prog w=(do pure (Next.value (← Instr.typeAssert (a.eval (.tmp 5)) 20 112 true)):Sem Next).run Tryz.prog w:=by kernel_rfl
 have q:(do pure (Next.value (← Instr.typeAssert ((.iface 112 u)) 20 112 true)):Sem Next).run Tryz.prog w=.ok (.value (.tuple #[u,.bool true])) w:=by kernel_rfl
 rw [this,h];exact q
theorem xD1 (a:Act) (w:World) {u:Value} (h:a.eval (.tmp 8)=.tuple #[u,.bool true]):(execOp a.eval (oper opsD 1)).run Tryz.prog w=.ok (.value (.bool true)) w:=by
 have:(execOp a.eval (oper opsD 1)).run Tryz.prog w=(do pure (Next.value (← Instr.extract (a.eval (.tmp 8)) 1)):Sem Next).run Tryz.prog w:=by kernel_rfl
 have q:(do pure (Next.value (← Instr.extract ((.tuple #[u,.bool true])) 1)):Sem Next).run Tryz.prog w=.ok (.value (.bool true)) w:=by kernel_rfl
 rw [this,h];exact q
theorem xD2 (a:Act) (w:World) {u:Value} (h:a.eval (.tmp 8)=.tuple #[u,.bool true]):(execOp a.eval (oper opsD 2)).run Tryz.prog w=.ok (.value u) w:=by
 have:(execOp a.eval (oper opsD 2)).run Tryz.prog w=(do pure (Next.value (← Instr.extract (a.eval (.tmp 8)) 0)):Sem Next).run Tryz.prog w:=by kernel_rfl
 have q:(do pure (Next.value (← Instr.extract ((.tuple #[u,.bool true])) 0)):Sem Next).run Tryz.prog w=.ok (.value u) w:=by kernel_rfl
 rw [this,h];exact q
theorem wanted_none {o:Oper} (g:o.guard=none) (y:Nat→Option Bool):Region.wanted o y=true:=by unfold Region.wanted;rw [g]
theorem put_self {a:Act} {d:Nat} {v:Value} (h:d < a.tmps.size):(a.put (some d) v).eval (.tmp d)=v:=by
 simp [Act.put,Act.eval,h]
theorem step1 {a:Act} {w:World} {Q:Exit→Act→World→Prop} (hs:a.tmps.size=18) (hd:a.defers=[])
  (hQ:∀ a',a'.tmps=(a.put (some 5) (.func (.func 69) #[] #[a.eval (.tmp 2),a.eval (.tmp 3)])).tmps→a'.defers=[{ target:=.fn (.func 69) #[a.eval (.tmp 2),a.eval (.tmp 3)],args:=#[] }]→Q .normal a' w) :
  (Code.region 1 ops1 false).wp Tryz.prog Q a w:=by
 refine wp_region ?_
 rw [n1]
 simp only [wpOps,a10]
 rw [if_pos (wanted_none g10 _)]
 refine .inl ?_
 unfold Oper.wp
 rw [x10,Oper.upon_value,d10]
 rw [a11]
 simp only []
 rw [if_pos (wanted_none g11 _)]
 refine .inl ?_
 rw [x11 _ _ (put_self (by rw [hs];decide)),Oper.upon_defer,d11]
 refine hQ _ rfl ?_
 have:(a.put (some 5) (.func (.func 69) #[] #[a.eval (.tmp 2),a.eval (.tmp 3)])).defers=[]:=hd
 simp only [Act.put] at this ⊢
 rw [this]
theorem inv39 (x y:Value) (w:World):(invoke (.fn (.func 69) #[x,y]) #[]).run Tryz.prog w=.ok (.enter 69 #[x,y]) w:=by kernel_rfl
theorem still39 (x y:Value) (w:World):CallsD Tryz.prog 69 #[x,y] .returning w fun e u' w'=>e=.returned (.tuple #[])∧u'=.returning∧w'=w:=by
 refine callsD_of_wpS at39 shape39 fun c0 cs hc=>?_
 refine wpS_seq ?_
 refine wpS_region ?_
 rw [nA]
 simp only [wpOpsS,aA]
 rw [if_pos (wanted_none gA _),xA]
 have hrec:recoverD (c0 :: cs)=none:=by simp [recoverD,hc]
 rw [hrec]
 simp only [dA,Exit.thenS]
 refine wpS_of_wp ?_
 refine wp_block (wp_seq ?_)
 refine wp_region ?_
 show wpOps _ ops3 _ (List.range ops3.size) _ _
 rw [n3]
 simp only [wpOps,a3]
 rw [if_pos (wanted_none g3 _)]
 refine .inl ?_
 unfold Oper.wp
 rw [x3n _ _ (put_self (by simp [tmps39]))]
 rw [Oper.upon_value,d3]
 refine wp_cond (t:=true) (put_self (by simp [Act.put,tmps39])) ?_
 simp only [if_true]
 refine wp_region ?_
 rw [nC]
 simp only [wpOps,aC]
 rw [if_pos (wanted_none gC _)]
 refine .inl ?_
 unfold Oper.wp
 rw [xC,Oper.upon_value,dC]
 refine ⟨rfl,.returning,?_,.tuple #[],?_,rfl,rfl,rfl⟩
 ·rw [← hc]
 ·simp [results,res39]
theorem stop39 {K:Oracle} (hK:KOK Tryz.prog K) (m:Nat) {i:Inj} {h h':H} {w:World} {x y u:Value} {vx vy c:V} {e':E} (hr:HRel i h w) (hx:VRel i vx x) (hy:VRel i vy y) (hu:VRel i (.agg [c]) u)
  (e:den Tryz.prog K (loopN m) k69 tail39 ⟨[vx,vy,.any,.agg [c]],0,vx⟩ h=some ⟨.nm,e',h'⟩) (hcl:i.clear h.n h'.n) :
  CallsD Tryz.prog 69 #[x,y] (.panicking [{ v:=.iface 112 u,recovered:=false }]) w fun e u' w'=>e=.returned (.tuple #[])∧u'=.panicking [{ v:=.iface 112 u,recovered:=true }]∧∃ i',HRel i' h' w'∧Fr i h w i' h' w':=by
 refine callsD_of_wpS at39 shape39 fun c0 cs hc=>?_
 refine wpS_seq ?_
 refine wpS_region ?_
 rw [nA]
 simp only [wpOpsS,aA]
 rw [if_pos (wanted_none gA _),xA]
 have hrec:recoverD (c0 :: cs)=some (.iface 112 u,{ c0 with mode:=.panicking [{ v:=.iface 112 u,recovered:=true }] } :: cs):=by simp [recoverD,hc]
 rw [hrec]
 simp only [dA,Exit.thenS]
 refine wpS_of_wp ?_
 refine wp_block (wp_seq ?_)
 refine wp_region ?_
 show wpOps _ ops3 _ (List.range ops3.size) _ _
 rw [n3]
 simp only [wpOps,a3]
 rw [if_pos (wanted_none g3 _)]
 refine .inl ?_
 unfold Oper.wp
 rw [x3s _ _ (put_self (by simp [tmps39]))]
 rw [Oper.upon_value,d3]
 refine wp_cond (t:=false) (put_self (by simp [Act.put,tmps39])) ?_
 simp only [Bool.false_eq_true,if_false]
 refine wp_seq ?_
 refine wp_region ?_
 rw [nD]
 simp only [wpOps,aD0]
 rw [if_pos (wanted_none gD0 _)]
 refine .inl ?_
 unfold Oper.wp
 rw [xD0 (u:=u) _ _ (by simp [Act.put,Act.eval,tmps39])]
 rw [Oper.upon_value,dD0,aD1]
 simp only []
 rw [if_pos (wanted_none gD1 _)]
 refine .inl ?_
 rw [xD1 (u:=u) _ _ (put_self (by simp [Act.put,tmps39]))]
 rw [Oper.upon_value,dD1,aD2]
 simp only []
 rw [if_pos (wanted_none gD2 _)]
 refine .inl ?_
 rw [xD2 (u:=u) _ _ (by simp [Act.put,Act.eval,tmps39])]
 rw [Oper.upon_value,dD2]
 refine wp_cond (t:=true) (by simp [Act.put,Act.eval,tmps39]) ?_
 simp only [if_true]
 refine wp_mono (den_sound (draw_ok mixed) hK m k69 13 [] tail39 dstT _ h _ i _ w e hr ?_ hcl) ?_
 ·refine ⟨?_,by simp [Act.put,tmps39],rfl⟩
  intro t
  by_cases h0:t=0
  ·subst h0;simpa [E.s,Act.put,tmps39] using hx
  by_cases h1:t=1
  ·subst h1;simpa [E.s,lkE,k69,Act.put,tmps39] using hy
  by_cases h2:t=10
  ·subst h2;simpa [E.s,lkE,k69,Act.put,tmps39] using hu
  ·have:E.s k69 ⟨[vx,vy,.any,.agg [c]],0,vx⟩ t=.any:=by simp [E.s,lkE,k69,h0,h1,h2]
   rw [this];exact .any _
 ·intro ex a' w' hp
  obtain ⟨rfl,i',q1,q2,q3⟩:=hp.nm
  refine ⟨q3.d,.panicking [{ v:=.iface 112 u,recovered:=true }],rfl,.tuple #[],?_,rfl,rfl,i',q1,q2⟩
  simp [results,res39]
theorem results_ok {fn:Func} {i:Inj} {h:H} {w:World} (hr:HRel i h w) {s:Nat→V} {tmps:Array Value} (hs:SRel i s tmps) {vs:List V} (hvs:resVs Tryz.prog s h fn.results.toList=some vs) :
  ∃ u,(results fn tmps).run Tryz.prog w=.ok u w∧VRel i (fin1 vs) u:=by
 obtain ⟨us',k1,k2⟩:=resVs_sound (P:=Tryz.prog) hr hs _ hvs
 refine ⟨if h:us'.toArray.size=1 then us'.toArray[0] else .tuple us'.toArray,?_,?_⟩
 ·rw [results_eq,Sem.run_bind,Array.mapM_eq_mapM_toList,Sem.run_map,k2]
  rfl
 ·cases k1 with
  | nil=>exact .tup .nil
  | cons q1 q2 =>
   cases q2 with
   | nil=>simpa [fin1] using q1
   | cons q2 q3 =>
    have:=VRel.tup (.cons q1 (.cons q2 q3))
    simpa [fin1] using this
theorem ovC_ok:OvOK Tryz.prog ovC:=by
 intro K hK m f a h r h' hf e
 have hf:f=43:=by simpa [ovC] using hf
 subst hf
 rw [ovC_run] at e
 unfold ovRun at e
 have ent:Enters Tryz.prog 43:=⟨fn29,at29,by rw [body29];rfl,name29⟩
 have hD:=draw_ok mixed
 -- what the code's parts give
 have key:∃ e1 h2 st v0 vs,a=[v0]∧den Tryz.prog K (loopN m) k43 (left (body 43)) (entE k43 [v0]) h=some ⟨.nm,e1,h2⟩ ∧
   den Tryz.prog K (loopN m) k43 rest29 ⟨[e1.s k43 0,e1.s k43 2,e1.s k43 3,.any],0,e1.s k43 0⟩ h2=some st∧r=.ret (fin1 vs)∧resVs Tryz.prog (st.e.s k43) h' [.cell 2 34,.cell 3 24]=some vs ∧
   ((st.x=.rt∧h'=st.h)∨∃ x e4,st.x=.pn (.iface 112 (.agg [x]))∧den Tryz.prog K (loopN m) k69 tail39 ⟨[e1.s k43 2,e1.s k43 3,.any,.agg [x]],0,e1.s k43 2⟩ st.h=some ⟨.nm,e4,h'⟩):=by
  split at e
  ·rename_i e1 h2 h1
   split at e
   ·rename_i e3 h3 h3'
    obtain ⟨vs,hvs,e⟩:=bd_some e
    split at e
    ·rename_i hl
     cases e
     obtain ⟨v0,rfl⟩:∃ v0,a=[v0]:=List.length_eq_one_iff.1 hl
     exact ⟨e1,h2,_,v0,vs,rfl,h1,h3',rfl,hvs,.inl ⟨rfl,rfl⟩⟩
    ·cases e
   ·rename_i x e3 h3 h3'
    split at e
    ·rename_i e4 h4 h4'
     obtain ⟨vs,hvs,e⟩:=bd_some e
     split at e
     ·rename_i hl
      cases e
      obtain ⟨v0,rfl⟩:∃ v0,a=[v0]:=List.length_eq_one_iff.1 hl
      exact ⟨e1,h2,_,v0,vs,rfl,h1,h3',rfl,hvs,.inr ⟨x,e4,rfl,h4'⟩⟩
     ·cases e
    ·cases e
   ·cases e
  ·cases e
 obtain ⟨e1,h2,st,v0,vs,rfl,r1,r2,rfl,hvs,hcase⟩:=key
 have hn1:=den_n hK (loopN_mono m) k43 _ _ _ _ r1
 have hn2:=den_n hK (loopN_mono m) k43 _ _ _ _ r2
 have hn3:st.h.n≤h'.n:=by
  rcases hcase with ⟨_,rfl⟩ | ⟨x,e4,_,r3⟩
  ·exact Nat.le_refl _
  ·exact den_n hK (loopN_mono m) k69 _ _ _ _ r3
 simp only at hn1 hn2
 refine ⟨?_,ent,by omega⟩
 intro i w us hr hv hcl
 refine calls_of_wp_defers at29 body29 ?_
 obtain ⟨u0,rfl,hu0⟩:∃ u0,us=[u0]∧VRel i v0 u0:=by
  cases hv with
  | cons q1 q2=>cases q2;exact ⟨_,rfl,q1⟩
 have hact:ActOK i ((entE k43 [v0]).s k43) 18 [] { tmps:=[u0].toArray ++ Array.replicate (fn29.ntmps - [u0].toArray.size) undef,defers:=[] }:=by
  refine ⟨?_,by simp [tmps29],rfl⟩
  refine SRel.keep (s:=argE [v0]) ?_ _ _
  intro t
  unfold argE
  by_cases h0:t=0
  ·subst h0;simpa [tmps29] using hu0
  ·have hz:([u0].toArray ++ Array.replicate (fn29.ntmps - [u0].toArray.size) undef).getD t undef=undef:=by
    rw [Array.getD_eq_getD_getElem?,Array.getElem?_append_right (by simp;omega),Array.getElem?_replicate]
    split <;> rfl
   rw [hz]
   simp [h0]
   exact VRel.und
 refine wp_seq (wp_mono (den_sound hD hK m k43 18 [] (left (body 43)) dst29 _ h _ i _ w r1 hr hact (Inj.clear_mid hcl (by simp only;omega))) ?_)
 intro ex a1 w1 hp
 obtain ⟨rfl,i1,p1,p2,p3⟩:=hp.nm
 have hcl1:=p2.clear hcl
 refine wp_seq (step1 p3.n p3.d fun a2 ht hd2=>?_)
 have hact2:ActOK i1 (E.s k43 ⟨[e1.s k43 0,e1.s k43 2,e1.s k43 3,.any],0,e1.s k43 0⟩) 18 [{ target:=.fn (.func 69) #[a1.eval (.tmp 2),a1.eval (.tmp 3)],args:=#[] }] a2:=by
  have hget:∀ t,t ≠ 5→a2.tmps.getD t undef=a1.tmps.getD t undef:=by
   intro t h5
   rw [ht]
   simp [Act.put,Array.getD_eq_getD_getElem?,Array.getElem?_setIfInBounds,Ne.symm h5]
  refine ⟨?_,by rw [ht];simp [Act.put,p3.n],hd2⟩
  intro t
  by_cases h0:t=0
  ·subst h0;rw [hget _ (by decide)];simpa [E.s] using p3.s 0
  by_cases h1:t=2
  ·subst h1;rw [hget _ (by decide)];simpa [E.s,lkE,k43] using p3.s 2
  by_cases h2:t=3
  ·subst h2;rw [hget _ (by decide)];simpa [E.s,lkE,k43] using p3.s 3
  ·have:E.s k43 ⟨[e1.s k43 0,e1.s k43 2,e1.s k43 3,.any],0,e1.s k43 0⟩ t=.any:=by simp [E.s,lkE,k43,h0,h1,h2]
   rw [this];exact .any _
 refine wp_mono (den_sound hD hK m k43 18 _ rest29 dstR _ h2 _ i1 _ w1 r2 p1 hact2 (Inj.clear_mid hcl1 hn3)) ?_
 intro ex a3 w3 hp
 obtain ⟨i3,q1,q2,q3,q4⟩:=hp
 have hcl3:=q2.clear hcl1
 have ht2:∀ t,VRel i3 (e1.s k43 t) (a1.eval (.tmp t)):=fun t=>VRel.ev (p3.s.mono (q2.le (Inj.clear_mid hcl1 hn3))) (.tmp t)
 rcases hcase with ⟨hx,rfl⟩ | ⟨x,e4,hx,r3⟩
 ·rw [hx] at q4
  have q4:ex=.ret:=q4
  subst q4
  obtain ⟨u,k1,k2⟩:=results_ok (fn:=fn29) q1 q3.s (by rw [res29];exact hvs)
  show Leaves _ _ _ _ a3.defers _ _
  rw [q3.d]
  refine leaves_cons (by simp) (inv39 _ _ _) ((still39 _ _ _).mono ?_)
  rintro _ _ _ ⟨rfl,rfl,rfl⟩
  exact ⟨u,k1,i3,q1,p2.trans q2,u,rfl,k2⟩
 ·rw [hx] at q4
  obtain ⟨u,rfl,q4⟩:=q4
  obtain ⟨u',rfl,hu'⟩:∃ u',u=.iface 112 u'∧VRel i3 (.agg [x]) u':=by cases q4;exact ⟨_,rfl,by assumption⟩
  show Leaves _ _ _ _ a3.defers _ _
  rw [q3.d]
  refine leaves_cons (by simp) (inv39 _ _ _) ((stop39 hK m q1 (ht2 2) (ht2 3) hu' r3 hcl3).mono ?_)
  rintro _ _ _ ⟨rfl,rfl,i4,g1,g2⟩
  obtain ⟨u,k1,k2⟩:=results_ok (fn:=fn29) g1 (q3.s.mono (g2.le hcl3)) (by rw [res29];exact hvs)
  exact ⟨u,k1,i4,g1,(p2.trans q2).trans g2,u,rfl,k2⟩
end Go.Proofs.YtbajipmhnoakeaaGreat
