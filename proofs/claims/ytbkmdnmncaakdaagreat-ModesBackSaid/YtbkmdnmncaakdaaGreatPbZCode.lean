import Derived.Test.YtbkmdnmncaakdaaGreatPbZOpsH
import Derived.Control
import Derived.Calls
import Derived.Scope
import Derived.LoopN
set_option linter.unusedVariables false
set_option linter.unusedSimpArgs false
namespace Go.Zf
variable {P:Program}
def RvRel (i:Inj):Rv→Ending→Prop
 | .ret v,e=>∃ u,e=.returned u∧VRel i v u
 | .pan v,e=>∃ u,e=.panicked [{ v:=u,recovered:=false }]∧VRel i v u
def CallOK (P:Program) (f:FuncId) (args:List V) (h:H) (r:Rv) (h':H):Prop :=
 ∀ (i:Inj) (w:World) (us:List Value),HRel i h w→VsRel i args us→i.clear h.n h'.n →
  Calls P f us.toArray w fun e w'=>∃ i',HRel i' h' w'∧Fr i h w i' h' w'∧RvRel i' r e
def Enters (P:Program) (f:FuncId):Prop:=∃ fn,P.funcs[f]?=some fn∧fn.body.isNone=false∧(fn.name == "runtime.NumGoroutine")=false
structure KOK (P:Program) (K:Oracle):Prop where
 ok:∀ f args h r h',K f args h=some (r,h')→CallOK P f args h r h'
 enters:∀ f args h r h',K f args h=some (r,h')→Enters P f
 n:∀ f args h r h',K f args h=some (r,h')→h.n≤h'.n
def stepR (P:Program) (K:Oracle) (ops:Array Oper) (o:Oper) (s:Nat→V) (h:H):Option (Rv × H) :=
 match kind o.op with
 | .light=>bd (lightG P (guardV ops s o) s h o.op) fun v=>some (.ret v,h)
 | .fresh=>bf (freshG P (guardV ops s o) s h o.op) fun v h=>some (.ret v,h)
 | .heavy=>bf (heavyG P (guardV ops s o) s h o.op) fun v h=>some (.ret v,h)
 | .call=>callG K (guardV ops s o) s h o.op
 | .none=>none
theorem op1_eq (P:Program) (K:Oracle) (ops:Array Oper) (o:Oper) (s:Nat→V) (h:H) {β:Type} (pn:V→H→Option β) (k:(Nat→V)→H→Option β) :
  op1 P K ops o s h pn k=bk (stepR P K ops o s h) pn fun v h=>k (sput s o.dst v) h:=by
 unfold op1 stepR
 cases kind o.op <;> simp only []
 ·cases lightG P (guardV ops s o) s h o.op <;> rfl
 ·cases freshG P (guardV ops s o) s h o.op <;> rfl
 ·cases heavyG P (guardV ops s o) s h o.op <;> rfl
 ·rfl
theorem wrN_n {h h':H} {b o:Nat} {vs:List V} (e:h.wrN b o vs=some h'):h'.n=h.n:=by
 unfold H.wrN at e
 split at e
 ·split at e
  ·cases e;rfl
  ·cases e
 ·cases e
theorem fresh_n {s:Nat→V} {h h':H} {o:Op} {v:V} (e:fresh P s h o=some (v,h')):h'.n=h.n+1:=by
 cases o <;> simp only [fresh,reduceCtorEq] at e
 case alloc=>replace e:=bind_some' e;obtain ⟨_,_,e⟩:=e;cases e;rfl
 case box=>replace e:=bind_some' e;obtain ⟨_,_,e⟩:=e;cases e;rfl
 case buildSlice =>
  replace e:=bind_some' e;obtain ⟨_,_,e⟩:=e
  replace e:=bind_some' e;obtain ⟨_,_,e⟩:=e
  split at e
  ·cases e
  ·replace e:=bind_some' e;obtain ⟨_,_,e⟩:=e
   replace e:=bind_some' e;obtain ⟨_,_,e⟩:=e
   cases e;rfl
 case makeSlice =>
  replace e:=bind_some' e;obtain ⟨_,_,e⟩:=e
  replace e:=bind_some' e;obtain ⟨_,_,e⟩:=e
  replace e:=bind_some' e;obtain ⟨_,_,e⟩:=e
  split at e
  ·split at e
   ·replace e:=bind_some' e;obtain ⟨_,_,e⟩:=e
    cases e;rfl
   ·cases e
  ·cases e
theorem apN_n {e size bytes n:Nat} {h h':H} {x v:V} {new:List V} (e:apN e size bytes h x n new=some (v,h')):h.n≤h'.n:=by
 unfold apN at e
 split at e
 ·split at e
  ·cases e;exact Nat.le_refl _
  ·split at e
   ·cases e;simp [H.n_new]
   ·cases e
 ·split at e
  ·replace e:=bind_some' e;obtain ⟨_,e1,e⟩:=e
   cases e;exact Nat.le_of_eq (wrN_n e1).symm
  ·split at e
   ·replace e:=bind_some' e;obtain ⟨_,_,e⟩:=e
    cases e;simp [H.n_new]
   ·cases e
 ·split at e
  ·cases e
  ·split at e
   ·cases e;exact Nat.le_refl _
   ·split at e
    ·split at e
     ·split at e
      ·cases e;simp [H.n_new,H.n_put]
      ·cases e
     ·cases e
    ·cases e
 ·cases e
theorem lkV_n {h h':H} {t:TypeId} {m k v:V} {ok:Bool} (e:lkV P h t m k ok=some (v,h')):h'=h:=by
 unfold lkV at e
 replace e:=bind_some' e;obtain ⟨_,_,e⟩:=e
 replace e:=bind_some' e;obtain ⟨_,_,e⟩:=e
 unfold lkM at e
 split at e
 ·split at e
  ·split at e
   ·replace e:=bind_some' e;obtain ⟨r,_,e⟩:=e
    cases r <;> cases e <;> rfl
   ·cases e
  ·cases e
 ·cases e
theorem upV_n {h h':H} {t:TypeId} {m k x v:V} (e:upV P h t m k x=some (v,h')):h.n≤h'.n:=by
 unfold upV at e
 replace e:=bind_some' e;obtain ⟨_,_,e⟩:=e
 unfold upM at e
 split at e
 ·split at e
  ·split at e
   ·replace e:=bind_some' e;obtain ⟨r,_,e⟩:=e
    cases r <;> cases e <;> simp [H.n_put]
   ·cases e
  ·cases e
 ·cases e
theorem heavy_n {s:Nat→V} {h h':H} {o:Op} {v:V} (e:heavy P s h o=some (v,h')):h.n≤h'.n:=by
 cases o <;> simp only [heavy,reduceCtorEq] at e
 case makeMap t r =>
  cases r with
  | some r=>simp at e
  | none =>
   simp only [mkM,Option.some.injEq,Prod.mk.injEq] at e
   obtain ⟨_,rfl⟩:=e
   simp [H.n_new]
 case lookup t m k ok=>rw [lkV_n e];exact Nat.le_refl _
 case mapUpdate t m k x=>exact upV_n e
 case insert t m k x=>exact upV_n e
 case store t a x =>
  unfold stV at e
  replace e:=bind_some' e;obtain ⟨_,_,e⟩:=e
  unfold stZ at e
  split at e
  ·split at e
   ·split at e
    ·replace e:=bind_some' e;obtain ⟨_,e1,e⟩:=e
     cases e;exact Nat.le_of_eq (wrN_n e1).symm
    ·cases e
   ·cases e
   ·cases e
   ·split at e
    ·replace e:=bind_some' e;obtain ⟨_,e1,e⟩:=e
     rw [wr1_eq] at e1
     cases e;exact Nat.le_of_eq (wrN_n e1).symm
    ·cases e
  ·cases e
 case call c =>
  split at e
  ·split at e
   ·split at e
    ·unfold apMV at e
     replace e:=bind_some' e;obtain ⟨_,_,e⟩:=e
     replace e:=bind_some' e;obtain ⟨_,_,e⟩:=e
     replace e:=bind_some' e;obtain ⟨_,_,e⟩:=e
     split at e
     ·cases e
     ·replace e:=bind_some' e;obtain ⟨_,_,e⟩:=e
      unfold apM at e
      split at e
      ·split at e
       ·exact apN_n e
       ·cases e
      ·cases e
    ·cases e
    ·unfold apV at e
     replace e:=bind_some' e;obtain ⟨_,_,e⟩:=e
     replace e:=bind_some' e;obtain ⟨_,_,e⟩:=e
     replace e:=bind_some' e;obtain ⟨_,_,e⟩:=e
     split at e
     ·cases e
     ·unfold apZ at e
      replace e:=bind_some' e;obtain ⟨_,_,e⟩:=e
      replace e:=bind_some' e;obtain ⟨_,_,e⟩:=e
      exact apN_n e
   ·cases e
  ·split at e
   ·unfold copyV at e
    replace e:=bind_some' e;obtain ⟨_,_,e⟩:=e
    replace e:=bind_some' e;obtain ⟨_,_,e⟩:=e
    unfold cpZ at e
    replace e:=bind_some' e;obtain ⟨_,_,e⟩:=e
    split at e
    ·cases e;exact Nat.le_refl _
    ·replace e:=bind_some' e;obtain ⟨_,_,e⟩:=e
     replace e:=bind_some' e;obtain ⟨_,e1,e⟩:=e
     cases e;exact Nat.le_of_eq (wrN_n e1).symm
    ·cases e
   ·cases e
  ·cases e
theorem gl_some {c:V} {want:Bool} {x:Option V} {v:V} (e:gl c want x=some v):(wants c want=some true∧x=some v)∨(wants c want=some false∧v=.und):=by
 unfold gl at e
 split at e
 ·rename_i h;exact .inl ⟨h,e⟩
 ·rename_i h;cases e;exact .inr ⟨h,rfl⟩
 ·cases e
theorem gf_some {c:V} {want:Bool} {h:H} {x:Option (V × H)} {r:V × H} (e:gf c want h x=some r):(wants c want=some true∧x=some r)∨(wants c want=some false∧r=(.und,h)):=by
 unfold gf at e
 split at e
 ·rename_i h;exact .inl ⟨h,e⟩
 ·rename_i h;cases e;exact .inr ⟨h,rfl⟩
 ·cases e
theorem gk_some {c:V} {want:Bool} {h:H} {x:Option (Rv × H)} {r:Rv × H} (e:gk c want h x=some r):(wants c want=some true∧x=some r)∨(wants c want=some false∧r=(.ret .und,h)):=by
 unfold gk at e
 split at e
 ·rename_i h;exact .inl ⟨h,e⟩
 ·rename_i h;cases e;exact .inr ⟨h,rfl⟩
 ·cases e
def bareR (P:Program) (K:Oracle) (o:Oper) (s:Nat→V) (h:H):Option (Rv × H) :=
 match kind o.op with
 | .light=>bd (light P s h o.op) fun v=>some (.ret v,h)
 | .fresh=>bf (fresh P s h o.op) fun v h=>some (.ret v,h)
 | .heavy=>bf (heavy P s h o.op) fun v h=>some (.ret v,h)
 | .call=>callO K s h o.op
 | .none=>none
theorem step_guard {K:Oracle} {ops:Array Oper} {o:Oper} {s:Nat→V} {h:H} {r:Rv × H} (e:stepR P K ops o s h=some r) :
  (guardV ops s o=none∧bareR P K o s h=some r) ∨
  ∃ c want,guardV ops s o=some (c,want)∧(wants c want=some true∧bareR P K o s h=some r∨wants c want=some false∧r=(.ret .und,h)):=by
 unfold stepR at e
 unfold bareR
 cases hg:guardV ops s o with
 | none =>
  rw [hg] at e
  simp only [lightG,freshG,heavyG,callG] at e
  exact .inl ⟨rfl,e⟩
 | some p =>
  obtain ⟨c,want⟩:=p
  rw [hg] at e
  simp only [lightG,freshG,heavyG,callG] at e
  right
  cases hk:kind o.op <;> rw [hk] at e <;> simp only [] at e
  ·cases hl:gl c want (light P s h o.op) with
   | none=>rw [hl] at e;cases e
   | some v =>
    rw [hl] at e
    simp only [bd,Option.some.injEq] at e
    have hb:=gl_some hl
    refine ⟨c,want,rfl,?_⟩
    rcases hb with ⟨h1,h2⟩ | ⟨h1,h2⟩
    ·exact .inl ⟨h1,by rw [h2];simp [bd,e]⟩
    ·subst h2;exact .inr ⟨h1,e.symm⟩
  ·cases hl:gf c want h (fresh P s h o.op) with
   | none=>rw [hl] at e;cases e
   | some v =>
    obtain ⟨v,h'⟩:=v
    rw [hl] at e
    simp only [bf,Option.some.injEq] at e
    have hb:=gf_some hl
    refine ⟨c,want,rfl,?_⟩
    rcases hb with ⟨h1,h2⟩ | ⟨h1,h2⟩
    ·exact .inl ⟨h1,by rw [h2];simp [bf,e]⟩
    ·cases h2;exact .inr ⟨h1,e.symm⟩
  ·cases hl:gf c want h (heavy P s h o.op) with
   | none=>rw [hl] at e;cases e
   | some v =>
    obtain ⟨v,h'⟩:=v
    rw [hl] at e
    simp only [bf,Option.some.injEq] at e
    have hb:=gf_some hl
    refine ⟨c,want,rfl,?_⟩
    rcases hb with ⟨h1,h2⟩ | ⟨h1,h2⟩
    ·exact .inl ⟨h1,by rw [h2];simp [bf,e]⟩
    ·cases h2;exact .inr ⟨h1,e.symm⟩
  ·exact ⟨c,want,rfl,gk_some e⟩
  ·cases e
theorem bare_n {K:Oracle} (hK:KOK P K) {o:Oper} {s:Nat→V} {h h':H} {r:Rv} (e:bareR P K o s h=some (r,h')):h.n≤h'.n:=by
 unfold bareR at e
 split at e
 ·cases hl:light P s h o.op with
  | none=>rw [hl] at e;cases e
  | some v=>rw [hl] at e;cases e;exact Nat.le_refl _
 ·cases hl:fresh P s h o.op with
  | none=>rw [hl] at e;cases e
  | some v=>obtain ⟨v,h1⟩:=v;rw [hl] at e;cases e;have:=fresh_n hl;omega
 ·cases hl:heavy P s h o.op with
  | none=>rw [hl] at e;cases e
  | some v=>obtain ⟨v,h1⟩:=v;rw [hl] at e;cases e;exact heavy_n hl
 ·unfold callO at e
  split at e
  ·unfold callV at e
   split at e
   ·split at e
    ·exact hK.n _ _ _ _ _ e
    ·cases e
   ·cases e
  ·unfold panV at e
   split at e
   ·cases e;exact Nat.le_refl _
   ·cases e
  ·cases e
 ·cases e
theorem step_n {K:Oracle} (hK:KOK P K) {ops:Array Oper} {o:Oper} {s:Nat→V} {h h':H} {r:Rv} (e:stepR P K ops o s h=some (r,h')):h.n≤h'.n:=by
 rcases step_guard e with ⟨_,e⟩ | ⟨b,want,_,⟨_,e⟩ | ⟨_,e⟩⟩
 ·exact bare_n hK e
 ·exact bare_n hK e
 ·cases e;exact Nat.le_refl _
theorem guard_wanted {i:Inj} {ops:Array Oper} {o:Oper} {s:Nat→V} {a:Act} (hs:SRel i s a.tmps) :
  (guardV ops s o=none→Region.wanted o (yielded ops a.tmps)=true) ∧
  (∀ c want r,guardV ops s o=some (c,want)→wants c want=some r→Region.wanted o (yielded ops a.tmps)=r):=by
 unfold guardV Region.wanted
 cases hg:o.guard with
 | none=>simp
 | some p =>
  obtain ⟨j,want⟩:=p
  simp only []
  cases hd:(ops[j]?).bind (·.dst) with
  | none =>
   refine ⟨fun h=>by simp at h,?_⟩
   intro c want' r h hw
   simp only [Option.some.injEq,Prod.mk.injEq] at h
   obtain ⟨rfl,rfl⟩:=h
   simp [wants] at hw
  | some d =>
   refine ⟨fun h=>by simp at h,?_⟩
   intro c want' r h hw
   simp only [Option.some.injEq,Prod.mk.injEq] at h
   obtain ⟨h1,rfl⟩:=h
   have hd':=hs d
   rw [h1] at hd'
   unfold wants at hw
   split at hw
   ·rename_i b
    cases hw
    have ht:a.tmps.getD d undef=.bool b:=by
     generalize a.tmps.getD d undef=u at hd'
     cases hd';rfl
    have ht':a.tmps[d]?=some (.bool b):=by
     by_cases hlt:d < a.tmps.size
     ·simp [Array.getD,hlt] at ht;simp [hlt,ht]
     ·simp [Array.getD,hlt,undef] at ht
    unfold yielded
    rw [hd,Option.bind_some,ht']
    cases b <;> cases want <;> rfl
   ·cases hw
    have ht:a.tmps.getD d undef=.tuple #[]:=by
     generalize a.tmps.getD d undef=u at hd'
     cases hd' with
     | tup h=>cases h;rfl
    have hy:yielded ops a.tmps j=none:=by
     unfold yielded
     rw [hd,Option.bind_some]
     by_cases hlt:d < a.tmps.size
     ·simp [Array.getD,hlt] at ht;simp [hlt,ht]
     ·simp [hlt]
    rw [hy]
    rfl
   ·cases hw
theorem bare_sound {K:Oracle} (hK:KOK P K) {i:Inj} {h:H} {w:World} (hr:HRel i h w) {o:Oper} {s:Nat→V} {a:Act} (hs:SRel i s a.tmps) {r:Rv} {h':H} (e:bareR P K o s h=some (r,h'))
  (hc:i.clear h.n h'.n) (next:Act→World→Prop) (Q:Exit→Act→World→Prop)
  (hret:∀ v u i' w',r=.ret v→HRel i' h' w'→Fr i h w i' h' w'→VRel i' v u→next (a.put o.dst u) w')
  (hpan:∀ v u i' w',r=.pan v→HRel i' h' w'→Fr i h w i' h' w'→VRel i' v u→Q (.panic [{ v:=u,recovered:=false }]) a w') :
  o.wp P a w next Q:=by
 have hev:∀ x,VRel i (ev s x) (a.eval x):=VRel.ev hs
 unfold bareR at e
 unfold Oper.wp
 split at e
 ·cases hl:light P s h o.op with
  | none=>rw [hl] at e;cases e
  | some v =>
   rw [hl] at e
   cases e
   obtain ⟨u,h1,h2⟩:=light_sound (P:=P) hr hev o hl
   rw [h1]
   exact hret v u i w rfl hr (Fr.refl _ _ _) h2
 ·cases hl:fresh P s h o.op with
  | none=>rw [hl] at e;cases e
  | some v =>
   obtain ⟨v,h1⟩:=v
   rw [hl] at e
   cases e
   have hn:=fresh_n hl
   obtain ⟨u,w',x,g1,g2,g3,g4⟩:=fresh_sound (P:=P) hr (hc _ (Nat.le_refl _) (by omega)) hev o hl
   rw [g1]
   exact hret v u _ w' rfl g3 g4 g2
 ·cases hl:heavy P s h o.op with
  | none=>rw [hl] at e;cases e
  | some v =>
   obtain ⟨v,h1⟩:=v
   rw [hl] at e
   cases e
   obtain ⟨r,w',i',g1,g2,g3,g4⟩:=heavy_sound (P:=P) hr hev o hl hc
   rw [g1]
   rcases g2 with ⟨rfl,rfl⟩ | ⟨u,rfl,g2⟩
   ·exact hret _ undef i' w' rfl g3 g4 VRel.und
   ·exact hret _ u i' w' rfl g3 g4 g2
 ·unfold callO at e
  split at e
  ·rename_i c ho
   unfold callV at e
   split at e
   ·rename_i f hf
    split at e
    ·rename_i g first captured hg
     obtain ⟨fn,hfn,hbody,hname⟩:=hK.enters _ _ _ _ _ e
     have hfv:=hev f
     rw [hg] at hfv
     generalize hfu:a.eval f=fu at hfv
     cases hfv with
     | @fn _ _ _ us vs hx hy =>
      have hrun:(execOp a.eval o).run P w=.ok (.enter g (us ++ (c.args.toList.map a.eval ++ vs)).toArray) w:=by
       simp only [execOp,ho,Sem.run_bind,resolve,hf,hfu,Deferred.ofValue,Sem.run_pure,Result.andThen,invoke,callFunc,run_program,hfn,hname,hbody]
       simp
      rw [hrun]
      have hvs:=hx.append ((VsRel.ops hev c.args.toList).append hy)
      refine (hK.ok _ _ _ _ _ e i w _ hr hvs hc).mono ?_
      rintro en w' ⟨i',g1,g2,g3⟩
      cases r with
      | ret v =>
       obtain ⟨u,rfl,g4⟩:=g3
       exact hret v u i' w' rfl g1 g2 g4
      | pan v =>
       obtain ⟨u,rfl,g4⟩:=g3
       exact hpan v u i' w' rfl g1 g2 g4
    ·cases e
   ·cases e
  ·rename_i x ho
   unfold panV at e
   split at e
   ·rename_i t v hx
    cases e
    have hxv:=hev x
    rw [hx] at hxv
    generalize hfu:a.eval x=fu at hxv
    cases hxv with
    | @iface _ _ u0 hv =>
     have hrun:(execOp a.eval o).run P w=.halt (.panic (.iface t u0)) w:=by
      simp only [execOp,ho,Sem.run_bind,hfu]
      rfl
     rw [hrun]
     exact hpan _ _ i w rfl hr (Fr.refl _ _ _) (.iface hv)
   ·cases e
  ·cases e
 ·cases e
structure ActOK (i:Inj) (s:Nat→V) (n:Nat) (ds:List Deferred) (a:Act):Prop where
 s:SRel i s a.tmps
 n:a.tmps.size=n
 d:a.defers=ds
theorem ActOK.put {i j:Inj} {s:Nat→V} {n:Nat} {ds:List Deferred} {a:Act} (h:ActOK i s n ds a) (hij:i.le j) {d:Option Nat} {v:V} {u:Value} (hv:VRel j v u) (hd:∀ t,d=some t→t < n):ActOK j (sput s d v) n ds (a.put d u) where
 s:=(h.s.mono hij).put hv fun t ht=>by have:=hd t ht;rw [h.n];exact this
 n:=by cases d <;> simp [Act.put,h.n]
 d:=by cases d <;> simp [Act.put,h.d]
theorem opsT_sound {ds:List Deferred} {K:Oracle} (hK:KOK P K) (all:Array Oper) (n:Nat) (hd:∀ o ∈ all.toList,∀ t,o.dst=some t→t < n) (pn:V→H→Out) (fin:(Nat→V)→H→Out) (st:St) (hpn:∀ v h,pn v h=some st→st.h=h) (hfin:∀ s h,fin s h=some st→st.h=h)
  (Q:Exit→Act→World→Prop) (i0:Inj) (h0:H) (w0:World) (s0:Nat→V) (hc0:i0.clear h0.n st.h.n)
  (hq:∀ s h i a w,fin s h=some st→HRel i h w→Fr i0 h0 w0 i h w→ActOK i s n ds a→Q .normal a w)
  (hp:∀ s h i a w v u,pn v h=some st→(∀ t,(∀ o ∈ all.toList,o.dst ≠ some t)→s t=s0 t)→HRel i h w→Fr i0 h0 w0 i h w→ActOK i s n ds a→VRel i v u→Q (.panic [{ v:=u,recovered:=false }]) a w) :
  ∀ (l:List Oper) (k:Nat),(∀ j,l[j]?=all[k+j]?)→∀ (s:Nat→V) (h:H) (i:Inj) (a:Act) (w:World),(∀ t,(∀ o ∈ all.toList,o.dst ≠ some t)→s t=s0 t)→opsT P K all pn fin l s h=some st→HRel i h w→Fr i0 h0 w0 i h w→ActOK i s n ds a →
   wpOps P all Q (List.range' k l.length) a w:=by
 have nmono:∀ (l:List Oper) (s:Nat→V) (h:H),opsT P K all pn fin l s h=some st→h.n≤st.h.n:=by
  intro l
  induction l with
  | nil=>intro s h e;rw [hfin _ _ e];exact Nat.le_refl _
  | cons o l ih =>
   intro s h e
   simp only [opsT,op1_eq] at e
   cases hs:stepR P K all o s h with
   | none=>rw [hs] at e;cases e
   | some r =>
    obtain ⟨r,h1⟩:=r
    have:=step_n hK hs
    rw [hs] at e
    cases r with
    | ret v=>exact Nat.le_trans this (ih _ _ e)
    | pan v=>have h2:=hpn _ _ e;rw [h2];exact this
 intro l
 induction l with
 | nil=>intro k hk s h i a w _ e hr hf ha;exact hq s h i a w e hr hf ha
 | cons o l ih =>
  intro k hk s h i a w hst e hr hf ha
  have ho:all[k]?=some o:=by have:=hk 0;simpa using this.symm
  have hmem:o ∈ all.toList:=by have:=Array.mem_of_getElem? ho;simpa using this
  have hst':∀ v t,(∀ o ∈ all.toList,o.dst ≠ some t)→sput s o.dst v t=s0 t:=by
   intro v t ht
   have:=ht o hmem
   rw [← hst t ht]
   cases hdd:o.dst with
   | none=>rfl
   | some d=>simp only [sput];rw [if_neg];intro e';subst e';exact this hdd
  simp only [List.length_cons,List.range'_succ,wpOps,ho]
  simp only [opsT,op1_eq] at e
  cases hs:stepR P K all o s h with
  | none=>rw [hs] at e;cases e
  | some r =>
   obtain ⟨r,h1⟩:=r
   rw [hs] at e
   have hk':∀ j,l[j]?=all[k+1+j]?:=fun j=>by have:=hk (j+1);simpa [Nat.add_assoc,Nat.add_comm 1 j] using this
   have hgw:=guard_wanted (ops:=all) (o:=o) ha.s
   -- the operation runs
   have runs:bareR P K o s h=some (r,h1)→o.wp P a w (wpOps P all Q (List.range' (k+1) l.length)) Q:=by
    intro hb
    have hle:h1.n≤st.h.n:=by
     cases r with
     | ret v=>exact nmono _ _ _ e
     | pan v=>rw [hpn _ _ e];exact Nat.le_refl _
    have hcl:i.clear h.n h1.n:=Inj.clear_mid (hf.clear hc0) hle
    refine bare_sound hK hr ha.s hb hcl _ Q ?_ ?_
    ·intro v u i' w' hrv g1 g2 g3
     subst hrv
     exact ih (k+1) hk' _ _ i' _ w' (hst' v) e g1 (hf.trans g2) (ha.put (g2.le hcl) g3 (hd o hmem))
    ·intro v u i' w' hrv g1 g2 g3
     subst hrv
     exact hp s h1 i' a w' v u e hst g1 (hf.trans g2) ⟨ha.s.mono (g2.le hcl),ha.n,ha.d⟩ g3
   rcases step_guard hs with ⟨hg,hb⟩ | ⟨b,want,hg,⟨hw,hb⟩ | ⟨hw,hb⟩⟩
   ·rw [if_pos (hgw.1 hg)]
    exact .inl (runs hb)
   ·rw [if_pos (hgw.2 _ _ _ hg hw)]
    exact .inl (runs hb)
   ·rw [if_neg (by rw [hgw.2 _ _ _ hg hw];simp)]
    cases hb
    exact ih (k+1) hk' _ _ i _ w (hst' .und) e hr hf (ha.put (fun _ _ h=>h) VRel.und (hd o hmem))
theorem fgL_s (ds keep:List Nat) (l:List V) (t:Nat):lkE keep (fgL ds keep l) t=.any∨(ds.contains t=false∧lkE keep (fgL ds keep l) t=lkE keep l t):=by
 induction keep generalizing l with
 | nil=>exact .inl rfl
 | cons k keep ih =>
  cases l with
  | nil=>exact .inl rfl
  | cons v l =>
   simp only [fgL,lkE]
   by_cases h:t=k
   ·subst h
    simp only [if_true]
    cases hc:ds.contains t <;> simp
   ·simp only [h,if_false]
    exact ih l
theorem fgE_s (keep ds:List Nat) (e:E) (t:Nat):(fgE keep ds e).s keep t=.any∨(ds.contains t=false∧(fgE keep ds e).s keep t=e.s keep t):=by
 unfold E.s fgE
 by_cases h:t=e.lt
 ·simp only [h,if_true]
  cases hc:ds.contains e.lt <;> simp
 ·simp only [h,if_false]
  exact fgL_s ds keep e.l t
theorem lkE_map (keep:List Nat) (s:Nat→V) (t:Nat):lkE keep (keep.map s) t=s t∨lkE keep (keep.map s) t=.any:=by
 induction keep with
 | nil=>exact .inr rfl
 | cons k keep ih =>
  simp only [List.map_cons,lkE]
  split
  ·rename_i h;subst h;exact .inl rfl
  ·exact ih
theorem keepE_s (keep:List Nat) (last:Nat) (s:Nat→V) (t:Nat):(keepE keep last s).s keep t=s t∨(keepE keep last s).s keep t=.any:=by
 unfold E.s keepE
 split
 ·rename_i h;subst h;exact .inl rfl
 ·exact lkE_map keep s t
theorem SRel.keep {i:Inj} {s:Nat→V} {tmps:Array Value} (h:SRel i s tmps) (keep:List Nat) (last:Nat):SRel i ((keepE keep last s).s keep) tmps:=by
 intro t
 rcases keepE_s keep last s t with e | e
 ·rw [e];exact h t
 ·rw [e];exact .any _
def ExRel (i:Inj):Ex→Exit→Prop
 | .nm,e=>e=.normal
 | .ex id,e=>e=.exit id
 | .rt,e=>e=.ret
 | .pn v,e=>∃ u,e=.panic [{ v:=u,recovered:=false }]∧VRel i v u
def Post (i:Inj) (h:H) (w:World) (keep:List Nat) (n:Nat) (ds:List Deferred) (st:St):Exit→Act→World→Prop :=
 fun ex a' w'=>∃ i',HRel i' st.h w'∧Fr i h w i' st.h w'∧ActOK i' (st.e.s keep) n ds a'∧ExRel i' st.x ex
def DrawOK (P:Program):Prop:=∀ (K:Oracle),KOK P K→∀ (keep:List Nat) (id:Nat) (ops:Array Oper) (n:Nat) (ds:List Deferred) (_:∀ o ∈ ops.toList,∀ t,o.dst=some t→t < n) (e:E) (h:H) (st:St) (i:Inj) (a:Act) (w:World),
 rgn P K keep ops true e h=some st→HRel i h w→ActOK i (e.s keep) n ds a→i.clear h.n st.h.n→h.n≤st.h.n∧(Code.region id ops true).wp P (Post i h w keep n ds st) a w
theorem draw_n {K:Oracle} (hK:KOK P K) (all:Array Oper) {fin:(Nat→V)→H→List H→Out} {st:St} (hfin:∀ s h hs,fin s h hs=some st→st.h=h) :
  ∀ (l:List Nat) (s:Nat→V) (h:H) (hs:List H),opsD P K all fin l s h hs=some st→h.n≤st.h.n:=by
 intro l
 induction l with
 | nil=>intro s h hs e;rw [hfin _ _ _ e];exact Nat.le_refl _
 | cons k l ih =>
  intro s h hs e
  simp only [opsD] at e
  split at e
  ·cases e
  ·rename_i o ho
   rw [op1_eq] at e
   cases hst:stepR P K all o s h with
   | none=>rw [hst] at e;cases e
   | some r =>
    obtain ⟨r,h1⟩:=r
    have:=step_n hK hst
    rw [hst] at e
    cases r with
    | ret v=>exact Nat.le_trans this (ih _ _ _ e)
    | pan v=>cases e
theorem cks_some {all:Array Oper} {s:Nat→V} {hs:List H}:∀ {l:List (Nat × List Nat)} {k:Out} {st:St},cks P all s hs l k=some st→k=some st:=by
 intro l
 induction l with
 | nil=>intro k st e;exact e
 | cons p l ih =>
  obtain ⟨j,ks⟩:=p
  intro k st e
  simp only [cks] at e
  split at e
  ·cases e
  ·split at e
   ·cases e
   ·rename_i _ o _ _ d _
    have key:∀ (ks:List Nat) (m:Out),ks.foldr (fun n k=>match hs[n]? with
      | some h=>ck (lightG P (guardV all s o) s h o.op) (s d) k
      | none=>none) m=some st→m=some st:=by
     intro ks
     induction ks with
     | nil=>intro m e;exact e
     | cons q ks ihk =>
      intro m e
      simp only [List.foldr_cons] at e
      split at e
      ·unfold ck at e
       split at e
       ·split at e
        ·exact ihk _ e
        ·cases e
       ·cases e
      ·cases e
    exact ih (key ks _ e)
structure PTr (P:Program) (all:Array Oper) (sk:Nat→Bool) (j:Nat) (h:H) (l:List Nat) (S:Nat→Nat→V) (val:Nat→V):Prop where
 step:∀ p,p < l.length→∃ i o,l[p]?=some i∧all[i]?=some o∧S (p+1)=sput (S p) o.dst (val p)∧(i ≠ j→sk i=false→lightG P (guardV all (S p) o) (S p) h o.op=some (val p))
theorem prun_tr {K:Oracle} {all:Array Oper} {sk:Nat→Bool} {j:Nat} {out:V→H→Out} {h:H} {k:Out} {st:St}:∀ (l:List Nat) (s:Nat→V) (r:Option (V × H)),prun P K all sk j out h l s r k=some st →
  k=some st∨∃ S val v h',S 0=s∧PTr P all sk j h l S val∧out v h'=some st∧(r=some (v,h')∨∃ p o,l[p]?=some j∧all[j]?=some o∧stepR P K all o (S p) h=some (.pan v,h'))
 | [],s,r,e=>by
  simp only [prun] at e
  split at e
  ·rename_i v h'
   exact .inr ⟨fun _=>s,fun _=>.und,v,h',rfl,⟨fun p hp=>by simp at hp⟩,e,.inl rfl⟩
  ·cases e
 | i :: l,s,r,e=>by
  have cons:∀ (o:Oper) (v0:V),all[i]?=some o→(i ≠ j→sk i=false→lightG P (guardV all s o) s h o.op=some v0)→∀ (S:Nat→Nat→V) (val:Nat→V),S 0=sput s o.dst v0→PTr P all sk j h l S val →
    PTr P all sk j h (i :: l) (fun p=>match p with | 0=>s | p+1=>S p) (fun p=>match p with | 0=>v0 | p+1=>val p):=by
   intro o v0 ho hl S val h0 t
   refine ⟨fun p hp=>?_⟩
   cases p with
   | zero=>exact ⟨i,o,rfl,ho,h0,hl⟩
   | succ p =>
    obtain ⟨i',o',a1,a2,a3,a4⟩:=t.step p (by simpa using hp)
    exact ⟨i',o',by simpa using a1,a2,a3,a4⟩
  simp only [prun] at e
  split at e
  ·cases e
  ·rename_i o ho
   split at e
   ·rename_i hij
    subst hij
    split at e
    ·cases e
    ·rw [op1_eq] at e
     cases hst:stepR P K all o s h with
     | none=>rw [hst] at e;cases e
     | some x =>
      obtain ⟨x,h1⟩:=x
      rw [hst] at e
      cases x with
      | ret v=>exact .inl e
      | pan v =>
       rcases prun_tr l _ _ e with e | ⟨S,val,v',h',a1,a2,a3,a4⟩
       ·exact .inl e
       ·refine .inr ⟨_,_,v',h',rfl,cons o .any ho (fun hn=>absurd rfl hn) S val a1 a2,a3,.inr ?_⟩
        rcases a4 with a4 | ⟨p,o',b1,b2,b3⟩
        ·cases a4
         exact ⟨0,o,rfl,ho,hst⟩
        ·exact ⟨p+1,o',by simpa using b1,b2,b3⟩
   ·rename_i hij
    split at e
    ·rename_i hsk
     rcases prun_tr l _ _ e with e | ⟨S,val,v',h',a1,a2,a3,a4⟩
     ·exact .inl e
     ·refine .inr ⟨_,_,v',h',rfl,cons o .any ho (fun _ hn=>by rw [hsk] at hn;cases hn) S val a1 a2,a3,?_⟩
      rcases a4 with a4 | ⟨p,o',b1,b2,b3⟩
      ·exact .inl a4
      ·exact .inr ⟨p+1,o',by simpa using b1,b2,b3⟩
    ·cases hl:lightG P (guardV all s o) s h o.op with
     | none=>rw [hl] at e;cases e
     | some v0 =>
      rw [hl] at e
      rcases prun_tr l _ _ e with e | ⟨S,val,v',h',a1,a2,a3,a4⟩
      ·exact .inl e
      ·refine .inr ⟨_,_,v',h',rfl,cons o v0 ho (fun _ _=>hl) S val a1 a2,a3,?_⟩
       rcases a4 with a4 | ⟨p,o',b1,b2,b3⟩
       ·exact .inl a4
       ·exact .inr ⟨p+1,o',by simpa using b1,b2,b3⟩
theorem panW_cases {K:Oracle} {keep:List Nat} {ops:Array Oper} {p:Plan} {e:E} {h:H} {k:Out} {st:St} (hs:panW P K keep ops p e h k=some st) :
  k=some st∨∃ (j:Nat) (S:Nat→Nat→V) (val:Nat→V) (o:Oper) (v:V) (h':H),panAt ops (Region.before ops) p.ord=some j∧(S 0=e.s keep∧PTr P ops (fun i=>bitAt (Region.before ops) i j) j h p.ord S val)∧ops[j]?=some o ∧
   (∃ q,p.ord[q]?=some j∧True∧stepR P K ops o (S q) h=some (.pan v,h'))∧st=⟨.pn v,fgE keep (dsts ops.toList) e,h'⟩:=by
 unfold panW at hs
 split at hs
 ·exact .inl hs
 ·rename_i j hj
  rcases prun_tr _ _ _ hs with hs | ⟨S,val,v,h',a1,a2,a3,a4⟩
  ·exact .inl hs
  ·rcases a4 with a4 | ⟨q,o,b1,b2,b3⟩
   ·cases a4
   ·cases a3
    exact .inr ⟨j,S,val,o,v,h',hj,⟨a1,a2⟩,b2,⟨q,b1,trivial,b3⟩,rfl⟩
theorem rgn_n {K:Oracle} (hK:KOK P K) {keep:List Nat} {ops:Array Oper} {draw:Bool} {e:E} {h:H} {st:St} (hs:rgn P K keep ops draw e h=some st):h.n≤st.h.n:=by
 unfold rgn at hs
 split at hs
 ·split at hs
  ·cases hs
  ·rename_i p _
   rcases panW_cases hs with hs | ⟨j,S,val,o,v,h',f,hj,ho,hp,rfl⟩
   ·refine draw_n hK ops ?_ _ _ _ _ hs
    intro s h hs' e'
    have:=cks_some e'
    cases this;rfl
   ·obtain ⟨_,_,_,g⟩:=hp
    exact step_n hK g
 ·have:∀ (l:List Oper) (s:Nat→V) (h:H),opsT P K ops (fun v h=>some ⟨.pn v,fgE keep (dsts ops.toList) e,h⟩) (fun s h=>some ⟨.nm,keepE keep (lastD ops.toList) s,h⟩) l s h=some st→h.n≤st.h.n:=by
   intro l
   induction l with
   | nil=>intro s h e;cases e;exact Nat.le_refl _
   | cons o l ih =>
    intro s h e
    simp only [opsT,op1_eq] at e
    cases hst:stepR P K ops o s h with
    | none=>rw [hst] at e;cases e
    | some r =>
     obtain ⟨r,h1⟩:=r
     have:=step_n hK hst
     rw [hst] at e
     cases r with
     | ret v=>exact Nat.le_trans this (ih _ _ e)
     | pan v=>cases e;exact this
  exact this _ _ _ hs
theorem sq_some {x:Out} {k:E→H→Out} {st:St} (e:sq x k=some st) :
  (∃ e1 h1,x=some ⟨.nm,e1,h1⟩∧k e1 h1=some st)∨(x=some st∧∀ y z,st ≠ ⟨.nm,y,z⟩):=by
 unfold sq at e
 split at e
 ·rename_i e1 h1;exact .inl ⟨e1,h1,rfl,e⟩
 ·rename_i r hr
  cases e
  exact .inr ⟨rfl,fun y z hh=>hr y z hh⟩
 ·cases e
def LoopMono (L:Looper):Prop:=∀ (f:E→H→Out),(∀ e h st,f e h=some st→h.n≤st.h.n)→∀ e h st,L f e h=some st→h.n≤st.h.n
theorem loopN_mono (m:Nat):LoopMono (loopN m):=by
 intro f hf
 induction m with
 | zero=>intro e h st hs;cases hs
 | succ m ih =>
  intro e h st hs
  simp only [loopN] at hs
  rcases sq_some hs with ⟨e1,h1,hx,hs⟩ | ⟨hx,_⟩
  ·exact Nat.le_trans (hf _ _ _ hx) (ih _ _ _ hs)
  ·exact hf _ _ _ hx
theorem den_n {K:Oracle} (hK:KOK P K) {L:Looper} (hL:LoopMono L) (keep:List Nat) (c:Code):∀ (e:E) (h:H) (st:St),den P K L keep c e h=some st→h.n≤st.h.n:=by
 induction c with
 | skip=>intro e h st hs;cases hs;exact Nat.le_refl _
 | region id ops draw=>intro e h st hs;exact rgn_n hK hs
 | seq a b iha ihb =>
  intro e h st hs
  simp only [den] at hs
  rcases sq_some hs with ⟨e1,h1,hx,hs⟩ | ⟨hx,_⟩
  ·exact Nat.le_trans (iha _ _ _ hx) (ihb _ _ _ hs)
  ·exact iha _ _ _ hx
 | cond c a b iha ihb =>
  intro e h st hs
  simp only [den,br] at hs
  split at hs
  ·exact iha _ _ _ hs
  ·exact ihb _ _ _ hs
  ·cases hs
 | block id c ih =>
  intro e h st hs
  simp only [den,blk] at hs
  split at hs
  ·rename_i hx
   split at hs
   ·cases hs;have:=ih _ _ _ hx;exact this
   ·cases hs;have:=ih _ _ _ hx;exact this
  ·exact ih _ _ _ hs
 | loop c ih =>
  intro e h st hs
  exact hL _ (fun e h st hs=>ih e h st hs) e h st hs
 | exit id=>intro e h st hs;cases hs;exact Nat.le_refl _
 | scope c ih=>intro e h st hs;exact ih e h st hs
 | label l=>intro e h st hs;cases hs;exact Nat.le_refl _
 | ret=>intro e h st hs;cases hs;exact Nat.le_refl _
 | rangeFunc _ _ _ _ _ _=>intro e h st hs;cases hs
 | goto _=>intro e h st hs;cases hs
 | refuse _=>intro e h st hs;cases hs
theorem Post.nm {ds:List Deferred} {i:Inj} {h:H} {w:World} {keep:List Nat} {n:Nat} {e:E} {h':H} {ex:Exit} {a':Act} {w':World} (hp:Post i h w keep n ds ⟨.nm,e,h'⟩ ex a' w') :
  ex=.normal∧∃ i',HRel i' h' w'∧Fr i h w i' h' w'∧ActOK i' (e.s keep) n ds a':=by
 obtain ⟨i',h1,h2,h3,h4⟩:=hp
 exact ⟨h4,i',h1,h2,h3⟩
theorem Post.trans {ds:List Deferred} {i j:Inj} {h h1:H} {w w1:World} {keep:List Nat} {n:Nat} {st:St} {ex:Exit} {a':Act} {w':World} (hf:Fr i h w j h1 w1) (hp:Post j h1 w1 keep n ds st ex a' w'):Post i h w keep n ds st ex a' w':=by
 obtain ⟨i',g1,g2,g3,g4⟩:=hp
 exact ⟨i',g1,hf.trans g2,g3,g4⟩
theorem den_sound (hD:DrawOK P) {K:Oracle} (hK:KOK P K) (m:Nat) (keep:List Nat) (n:Nat) (ds:List Deferred) (c:Code) (hd:dstOk n c=true) :
  ∀ (e:E) (h:H) (st:St) (i:Inj) (a:Act) (w:World),den P K (loopN m) keep c e h=some st→HRel i h w→ActOK i (e.s keep) n ds a→i.clear h.n st.h.n→c.wp P (Post i h w keep n ds st) a w:=by
 induction c with
 | skip=>intro e h st i a w hs hr ha hc;cases hs;exact wp_skip ⟨i,hr,Fr.refl _ _ _,ha,rfl⟩
 | region id ops draw =>
  intro e h st i a w hs hr ha hc
  have hdst:∀ o ∈ ops.toList,∀ t,o.dst=some t→t < n:=by
   simp only [dstOk,List.all_eq_true] at hd
   intro o ho t ht
   have:=hd o ho
   rw [ht] at this
   simpa using this
  cases draw with
  | true=>exact (hD K hK keep id ops n ds hdst e h st i a w hs hr ha hc).2
  | false =>
   simp only [den,rgn,Bool.false_eq_true,if_false] at hs
   refine wp_region ?_
   rw [List.range_eq_range',← Array.length_toList]
   refine opsT_sound hK ops n hdst _ _ st (fun v h e=>by cases e;rfl) (fun s h e=>by cases e;rfl) _ i h w (e.s keep) hc ?_ ?_ ops.toList 0 (fun j=>by simp) (e.s keep) h i a w (fun _ _=>rfl) hs hr (Fr.refl _ _ _) ha
   ·intro s h' i' a' w' e' g1 g2 g3
    cases e'
    exact ⟨i',g1,g2,⟨g3.s.keep keep _,g3.n,g3.d⟩,rfl⟩
   ·intro s h' i' a' w' v u e' hst g1 g2 g3 g4
    cases e'
    refine ⟨i',g1,g2,⟨?_,g3.n,g3.d⟩,u,rfl,g4⟩
    intro t
    rcases fgE_s keep (dsts ops.toList) e t with h1 | ⟨h1,h2⟩
    ·rw [h1];exact .any _
    ·rw [h2,← hst t ?_]
     ·exact g3.s t
     ·intro o ho hd
      have:t ∈ dsts ops.toList:=List.mem_filterMap.2 ⟨o,ho,hd⟩
      simp [this] at h1
 | seq x y ihx ihy =>
  intro e h st i a w hs hr ha hc
  simp only [dstOk,Bool.and_eq_true] at hd
  simp only [den] at hs
  refine wp_seq ?_
  rcases sq_some hs with ⟨e1,h1,hx,hs⟩ | ⟨hx,hne⟩
  ·have hn1:=den_n hK (loopN_mono m) keep x _ _ _ hx
   have hn2:=den_n hK (loopN_mono m) keep y _ _ _ hs
   refine wp_mono (ihx hd.1 e h _ i a w hx hr ha (Inj.clear_mid hc hn2)) ?_
   intro ex a' w' hp
   obtain ⟨rfl,i',g1,g2,g3⟩:=hp.nm
   exact wp_mono (ihy hd.2 e1 h1 st i' a' w' hs g1 g3 (g2.clear hc)) fun ex a' w' hp=>hp.trans g2
  ·refine wp_mono (ihx hd.1 e h _ i a w hx hr ha hc) ?_
   intro ex a' w' hp
   have:ex ≠ .normal:=by
    obtain ⟨i',g1,g2,g3,g4⟩:=hp
    intro he
    subst he
    obtain ⟨sx,se,sh⟩:=st
    cases sx <;> simp [ExRel] at g4
    exact hne se sh rfl
   cases ex <;> first | exact absurd rfl this | exact hp
 | cond c x y ihx ihy =>
  intro e h st i a w hs hr ha hc
  simp only [dstOk,Bool.and_eq_true] at hd
  simp only [den,br] at hs
  have hcv:=VRel.ev ha.s c
  split at hs
  ·rename_i hb
   rw [hb] at hcv
   generalize hu:a.eval c=u at hcv
   cases hcv
   exact wp_cond hu (ihx hd.1 e h st i a w hs hr ha hc)
  ·rename_i hb
   rw [hb] at hcv
   generalize hu:a.eval c=u at hcv
   cases hcv
   exact wp_cond hu (ihy hd.2 e h st i a w hs hr ha hc)
  ·cases hs
 | block id c ih =>
  intro e h st i a w hs hr ha hc
  simp only [den,blk] at hs
  refine wp_block ?_
  split at hs
  ·rename_i j e1 h1 hx
   have hst:st.h=h1:=by split at hs <;> cases hs <;> rfl
   refine wp_mono (ih hd e h _ i a w hx hr ha (by rw [hst] at hc;exact hc)) ?_
   intro ex a' w' hp
   obtain ⟨i',g1,g2,g3,g4⟩:=hp
   have g4:ex=.exit j:=g4
   subst g4
   simp only [Exit.inBlock]
   split at hs
   ·rename_i hj;cases hs;rw [if_pos hj];exact ⟨i',g1,g2,g3,rfl⟩
   ·rename_i hj;cases hs;rw [if_neg hj];exact ⟨i',g1,g2,g3,rfl⟩
  ·rename_i hne
   refine wp_mono (ih hd e h _ i a w hs hr ha hc) ?_
   intro ex a' w' hp
   have:∀ j,ex ≠ .exit j:=by
    obtain ⟨i',g1,g2,g3,g4⟩:=hp
    intro j he
    subst he
    obtain ⟨sx,se,sh⟩:=st
    cases sx <;> simp [ExRel] at g4
    subst g4
    exact hne _ se sh hs
   cases ex <;> first | exact absurd rfl (this _) | exact hp
 | loop c ih =>
  intro e h st i a w hs hr ha hc
  simp only [den] at hs
  have key:∀ (k:Nat) (e:E) (h:H) (i:Inj) (a:Act) (w:World),loopN k (fun e h=>den P K (loopN m) keep c e h) e h=some st→HRel i h w→ActOK i (e.s keep) n ds a→i.clear h.n st.h.n →
    Code.rounds P c (Post i h w keep n ds st) k a w:=by
   intro k
   induction k with
   | zero=>intro e h i a w hs;cases hs
   | succ k ihk =>
    intro e h i a w hs hr ha hc
    rw [rounds_succ]
    simp only [loopN] at hs
    have mono:∀ {j:Inj} {h1:H} {w1:World},Fr i h w j h1 w1→∀ k a w2,Code.rounds P c (Post j h1 w1 keep n ds st) k a w2→Code.rounds P c (Post i h w keep n ds st) k a w2:=by
     intro j h1 w1 hf k
     induction k with
     | zero=>intro a w hh;exact hh
     | succ k ihm =>
      intro a w hh
      rw [rounds_succ] at hh ⊢
      refine wp_mono hh ?_
      intro ex a' w' hq
      cases ex <;> first | exact ihm _ _ hq | exact Post.trans hf hq
    rcases sq_some hs with ⟨e1,h1,hx,hs⟩ | ⟨hx,hne⟩
    ·have hn2:=loopN_mono k _ (fun e h st hs=>den_n hK (loopN_mono m) keep c e h st hs) _ _ _ hs
     refine wp_mono (ih hd e h _ i a w hx hr ha (Inj.clear_mid hc hn2)) ?_
     intro ex a' w' hp
     obtain ⟨rfl,i',g1,g2,g3⟩:=hp.nm
     exact mono g2 _ _ _ (ihk e1 h1 i' a' w' hs g1 g3 (g2.clear hc))
    ·refine wp_mono (ih hd e h _ i a w hx hr ha hc) ?_
     intro ex a' w' hp
     have:ex ≠ .normal:=by
      obtain ⟨i',g1,g2,g3,g4⟩:=hp
      intro he
      subst he
      obtain ⟨sx,se,sh⟩:=st
      cases sx <;> simp [ExRel] at g4
      exact hne se sh rfl
     cases ex <;> first | exact absurd rfl this | exact hp
  exact wp_loop_rounds m (key m e h i a w hs hr ha hc)
 | exit id=>intro e h st i a w hs hr ha hc;cases hs;exact wp_exit ⟨i,hr,Fr.refl _ _ _,ha,rfl⟩
 | scope c ih =>
  intro e h st i a w hs hr ha hc
  refine wp_scope_straight (wp_mono (ih hd e h st i a w hs hr ha hc) ?_)
  intro ex a' w' hp
  cases ex <;> first | exact hp | skip
  obtain ⟨i',g1,g2,g3,g4⟩:=hp
  obtain ⟨sx,se,sh⟩:=st
  cases sx <;> simp [ExRel] at g4
 | label l=>intro e h st i a w hs hr ha hc;cases hs;exact wp_label ⟨i,hr,Fr.refl _ _ _,ha,rfl⟩
 | ret=>intro e h st i a w hs hr ha hc;cases hs;exact wp_ret ⟨i,hr,Fr.refl _ _ _,ha,rfl⟩
 | rangeFunc _ _ _ _ _ _=>intro e h st i a w hs;cases hs
 | goto _=>intro e h st i a w hs;cases hs
 | refuse _=>intro e h st i a w hs;cases hs
theorem bd_some {α β:Type} {x:Option α} {k:α→Option β} {r:β} (e:bd x k=some r):∃ v,x=some v∧k v=some r:=by
 cases x with
 | none=>cases e
 | some v=>exact ⟨v,rfl,e⟩
def resSem (tmps:Array Value):ResultVar→Sem Value
 | .tmp t=>pure (tmps.getD t undef)
 | .cell a t=>do loadVar t (← asAddr (tmps.getD a undef))
theorem results_eq (fn:Func) (tmps:Array Value):results fn tmps=(do let vs ← fn.results.mapM (resSem tmps);pure (if h:vs.size=1 then vs[0] else .tuple vs)):=by
 unfold results
 congr 1
theorem resVs_sound {i:Inj} {h:H} {w:World} (hr:HRel i h w) {s:Nat→V} {tmps:Array Value} (hs:SRel i s tmps):∀ (rs:List ResultVar) {vs:List V},resVs P s h rs=some vs →
  ∃ us,VsRel i vs us∧(rs.mapM (resSem tmps)).run P w=.ok us w:=by
 intro rs
 induction rs with
 | nil=>intro vs e;cases e;exact ⟨[],.nil,rfl⟩
 | cons r rs ih =>
  intro vs e
  simp only [resVs] at e
  obtain ⟨v,hv,e⟩:=bd_some e
  obtain ⟨vs',hvs,e⟩:=bd_some e
  cases e
  obtain ⟨us,g1,g2⟩:=ih hvs
  cases r with
  | tmp t =>
   cases hv
   exact ⟨_,.cons (hs t) g1,by simp only [List.mapM_cons,resSem,Sem.run_bind,Sem.run_pure,g2,Result.andThen]⟩
  | cell b t =>
   simp only [resV] at hv
   have hb:=hs b
   obtain ⟨u',h1,h2⟩:=ld_sound (P:=P) hr hb hv
   refine ⟨_,.cons h2 g1,?_⟩
   generalize hub:tmps.getD b undef=ub at hb h1
   have:∃ p,ub=.pointer (some p):=by
    unfold ldV at hv
    split at hv
    ·rename_i hp;rw [hp] at hb;cases hb;exact ⟨_,rfl⟩
    ·cases hv
   obtain ⟨p,rfl⟩:=this
   have h1':(loadVar t p).run P w=.ok u' w:=by simpa [Instr.loadAt,Instr.sureAddr,Result.andThen] using h1
   simp only [List.mapM_cons,resSem,Sem.run_bind,hub,asAddr,Sem.run_pure,Result.andThen,h1',g2]
theorem call_sound (hD:DrawOK P) (kp:FuncId→List Nat) {K:Oracle} (hK:KOK P K) (m:Nat) {f:FuncId} {args:List V} {h h':H} {r:Rv} (e:runF P kp K (loopN m) f args h=some (r,h')) :
  CallOK P f args h r h'∧Enters P f∧h.n≤h'.n:=by
 unfold runF at e
 split at e
 ·rename_i fn hfn
  split at e
  ·rename_i c hc
   split at e
   ·rename_i hgo
    have hname:(fn.name == "runtime.NumGoroutine")=false∧dstOk fn.ntmps c=true:=by
     simp only [isGo,hc,Bool.and_eq_true,bne,Bool.not_eq_true'] at hgo
     exact hgo
    have hfin:∃ st,den P K (loopN m) (kp f) c (entE (kp f) args) h=some st∧fin P (kp f) fn.results.toList (some st)=some (r,h'):=by
     cases hden:den P K (loopN m) (kp f) c (entE (kp f) args) h with
     | none=>rw [hden] at e;cases e
     | some st=>rw [hden] at e;exact ⟨st,rfl,e⟩
    obtain ⟨st,hden,hf⟩:=hfin
    have hh:st.h=h':=by
     unfold fin at hf
     split at hf
     ·rename_i e1;cases e1;obtain ⟨_,_,hf⟩:=bd_some hf;cases hf;rfl
     ·rename_i e1;cases e1;obtain ⟨_,_,hf⟩:=bd_some hf;cases hf;rfl
     ·rename_i e1;cases e1;cases hf;rfl
     ·cases hf
    have hn:=den_n hK (loopN_mono m) (kp f) c _ _ _ hden
    refine ⟨?_,⟨fn,hfn,by rw [hc];rfl,hname.1⟩,by rw [← hh];exact hn⟩
    intro i w us hr hv hcl
    refine calls_of_wp hfn hc ?_
    have hlen:=hv.length
    have hact:ActOK i ((entE (kp f) args).s (kp f)) (us.toArray ++ Array.replicate (fn.ntmps - us.toArray.size) undef).size [] { tmps:=us.toArray ++ Array.replicate (fn.ntmps - us.toArray.size) undef,defers:=[] }:=by
     refine ⟨?_,rfl,rfl⟩
     refine SRel.keep (s:=argE args) ?_ _ _
     intro t
     unfold argE
     split
     ·rename_i hlt
      have hget:=hv.get (k:=t) (v:=args[t]) (List.getElem?_eq_getElem hlt)
      obtain ⟨u,hu,hvu⟩:=hget
      have hut:t < us.length:=by omega
      have:(us.toArray ++ Array.replicate (fn.ntmps - us.toArray.size) undef).getD t undef=u:=by
       have h2:us[t]=u:=by rw [List.getElem?_eq_getElem hut] at hu;exact Option.some.inj hu
       have hlt2:t < us.length+(fn.ntmps - us.length):=by omega
       simp [Array.getD,hlt2,Array.getElem_append,hut,h2]
      rw [this]
      simpa [List.getD,List.getElem?_eq_getElem hlt] using hvu
     ·rename_i hlt
      have:(us.toArray ++ Array.replicate (fn.ntmps - us.toArray.size) undef).getD t undef=undef:=by
       rw [Array.getD_eq_getD_getElem?,Array.getElem?_append_right (by simp;omega),Array.getElem?_replicate]
       split <;> rfl
      rw [this]
      exact VRel.und
    have hdst:dstOk (us.toArray ++ Array.replicate (fn.ntmps - us.toArray.size) undef).size c=true:=by
     have mono:∀ (x y:Nat) (_:x≤y) (c:Code),dstOk x c=true→dstOk y c=true:=by
      intro x y hxy c
      induction c with
      | region id ops draw =>
       simp only [dstOk,List.all_eq_true]
       intro hh o ho
       have:=hh o ho
       cases hdd:o.dst with
       | none=>rfl
       | some d =>
        rw [hdd] at this
        have h1:d < x:=by simpa using this
        simpa using Nat.lt_of_lt_of_le h1 hxy
      | seq a b ha hb=>simp only [dstOk,Bool.and_eq_true];exact fun hh=>⟨ha hh.1,hb hh.2⟩
      | cond c a b ha hb=>simp only [dstOk,Bool.and_eq_true];exact fun hh=>⟨ha hh.1,hb hh.2⟩
      | block id c ih=>exact ih
      | loop c ih=>exact ih
      | scope c ih=>exact ih
      | _=>exact fun _=>rfl
     exact mono _ _ (by simp;omega) c hname.2
    refine wp_mono (den_sound hD hK m (kp f) _ _ c hdst _ h st i _ w hden hr hact (by rw [hh];exact hcl)) ?_
    intro ex a' w' hp
    obtain ⟨i',g1,g2,g3,g4⟩:=hp
    have hres:∀ vs,resVs P (st.e.s (kp f)) st.h fn.results.toList=some vs→∃ u,(results fn a'.tmps).run P w'=.ok u w'∧VRel i' (fin1 vs) u:=by
     intro vs hvs
     obtain ⟨us',k1,k2⟩:=resVs_sound (P:=P) g1 g3.s _ hvs
     refine ⟨if h:us'.toArray.size=1 then us'.toArray[0] else .tuple us'.toArray,?_,?_⟩
     ·rw [results_eq,Sem.run_bind,Array.mapM_eq_mapM_toList,Sem.run_map,k2]
      rfl
     ·cases k1 with
      | nil=>exact .tup .nil
      | cons q1 q2 =>
       cases q2 with
       | nil=>simpa [fin1] using q1
       | cons q2 q3 =>
        have:=VRel.tup (.cons q1 (.cons q2 q3))
        simpa [fin1] using this
    unfold fin at hf
    split at hf
    ·rename_i e1
     cases e1
     obtain ⟨vs,hvs,hf⟩:=bd_some hf
     cases hf
     have g4:ex=.normal:=g4
     subst g4
     obtain ⟨u,k1,k2⟩:=hres vs hvs
     exact ⟨g3.d,u,k1,i',g1,g2,u,rfl,k2⟩
    ·rename_i e1
     cases e1
     obtain ⟨vs,hvs,hf⟩:=bd_some hf
     cases hf
     have g4:ex=.ret:=g4
     subst g4
     obtain ⟨u,k1,k2⟩:=hres vs hvs
     exact ⟨g3.d,u,k1,i',g1,g2,u,rfl,k2⟩
    ·rename_i e1
     cases e1
     cases hf
     obtain ⟨u,rfl,g4⟩:=g4
     exact ⟨g3.d,i',g1,g2,u,rfl,g4⟩
    ·cases hf
   ·cases e
  ·cases e
 ·cases e
theorem runZ_ok (hD:DrawOK P) (kp:FuncId→List Nat):∀ n,KOK P (runZ P kp n)
 | 0=>⟨fun _ _ _ _ _ e=>(by cases e),fun _ _ _ _ _ e=>(by cases e),fun _ _ _ _ _ e=>(by cases e)⟩
 | n+1=>by
  have ih:=runZ_ok hD kp n
  exact ⟨fun f args h r h' e=>(call_sound hD kp ih (n+1) e).1,fun f args h r h' e=>(call_sound hD kp ih (n+1) e).2.1,fun f args h r h' e=>(call_sound hD kp ih (n+1) e).2.2⟩
end Go.Zf
