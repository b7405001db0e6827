import Derived.Test.YtbkmdnmncaakdaaGreatPbZRow
set_option linter.unusedVariables false
set_option linter.unusedSimpArgs false
namespace Go.Zf
variable {P:Program}
def OLe (K K':Oracle):Prop:=∀ f a h r,K f a h=some r→K' f a h=some r
def LLe (L L':Looper):Prop:=∀ (f f':E→H→Out),(∀ e h st,f e h=some st→f' e h=some st)→∀ e h st,L f e h=some st→L' f' e h=some st
theorem OLe.refl (K:Oracle):OLe K K:=fun _ _ _ _ h=>h
theorem callG_mono {K K':Oracle} (hK:OLe K K') {g:Option (V × Bool)} {s:Nat→V} {h:H} {c:Op} {r:Rv × H} (e:callG K g s h c=some r):callG K' g s h c=some r:=by
 have bare0:∀ (c:Call) r,callV K s h c=some r→callV K' s h c=some r:=by
  intro c r e
  unfold callV at e ⊢
  split at e
  ·split at e
   ·exact hK _ _ _ _ e
   ·cases e
  ·cases e
 have bare:∀ r,callO K s h c=some r→callO K' s h c=some r:=by
  intro r e
  cases c <;> first | exact bare0 _ r e | exact e
 unfold callG at e ⊢
 cases g with
 | none=>exact bare _ e
 | some p =>
  obtain ⟨x,want⟩:=p
  simp only [gk] at e ⊢
  split at e
  ·exact bare _ e
  ·exact e
  ·cases e
theorem stepR_mono {K K':Oracle} (hK:OLe K K') {ops:Array Oper} {o:Oper} {s:Nat→V} {h:H} {r:Rv × H} (e:stepR P K ops o s h=some r):stepR P K' ops o s h=some r:=by
 unfold stepR at e ⊢
 cases hk:kind o.op <;> rw [hk] at e <;> simp only [] at e ⊢ <;> try exact e
 exact callG_mono hK e
theorem opsT_mono {K K':Oracle} (hK:OLe K K') {all:Array Oper} {pn:V→H→Out} {fin:(Nat→V)→H→Out}:∀ (l:List Oper) (s:Nat→V) (h:H) (st:St),opsT P K all pn fin l s h=some st→opsT P K' all pn fin l s h=some st
 | [],s,h,st,e=>e
 | o :: l,s,h,st,e=>by
  simp only [opsT,op1_eq] at e ⊢
  cases hs:stepR P K all o s h with
  | none=>rw [hs] at e;cases e
  | some r =>
   rw [stepR_mono hK hs]
   obtain ⟨r,h1⟩:=r
   rw [hs] at e
   cases r with
   | ret v=>exact opsT_mono hK l _ _ _ e
   | pan v=>exact e
theorem opsD_mono {K K':Oracle} (hK:OLe K K') {all:Array Oper} {fin:(Nat→V)→H→List H→Out}:∀ (l:List Nat) (s:Nat→V) (h:H) (hs:List H) (st:St),opsD P K all fin l s h hs=some st→opsD P K' all fin l s h hs=some st
 | [],s,h,hs,st,e=>e
 | j :: l,s,h,hs,st,e=>by
  simp only [opsD] at e ⊢
  split at e
  ·cases e
  ·rename_i o ho
   rw [op1_eq] at e
   cases hst:stepR P K all o s h with
   | none=>rw [hst] at e;cases e
   | some r =>
    obtain ⟨r,h1⟩:=r
    rw [hst] at e
    rw [op1_eq,stepR_mono hK hst]
    cases r with
    | ret v=>exact opsD_mono hK l _ _ _ _ e
    | pan v=>cases e
theorem prun_mono {K K':Oracle} (hK:OLe K K') {all:Array Oper} {sk:Nat→Bool} {j:Nat} {out:V→H→Out} {h:H} {k k':Out} (hk:∀ st,k=some st→k'=some st) {st:St}:∀ (l:List Nat) (s:Nat→V) (r:Option (V × H)),prun P K all sk j out h l s r k=some st→prun P K' all sk j out h l s r k'=some st
 | [],s,r,e=>e
 | i :: l,s,r,e=>by
  simp only [prun] at e ⊢
  split at e
  ·cases e
  ·rename_i o ho
   split at e
   ·rename_i hij
    rw [if_pos hij]
    split at e
    ·cases e
    ·simp only [op1_eq] at e ⊢
     cases hst:stepR P K all o s h with
     | none=>rw [hst] at e;cases e
     | some x =>
      obtain ⟨x,h1⟩:=x
      rw [hst] at e
      rw [stepR_mono hK hst]
      cases x with
      | ret v=>exact hk _ e
      | pan v=>exact prun_mono hK hk l _ _ e
   ·rename_i hij
    rw [if_neg hij]
    split at e
    ·rename_i hsk
     rw [if_pos hsk];exact prun_mono hK hk l _ _ e
    ·rename_i hsk
     rw [if_neg hsk]
     cases hl:lightG P (guardV all s o) s h o.op with
     | none=>rw [hl] at e;cases e
     | some v0=>rw [hl] at e;exact prun_mono hK hk l _ _ e
theorem panW_mono {K K':Oracle} (hK:OLe K K') {keep:List Nat} {ops:Array Oper} {p:Plan} {e:E} {h:H} {k k':Out} (hk:∀ st,k=some st→k'=some st) {st:St} (hs:panW P K keep ops p e h k=some st):panW P K' keep ops p e h k'=some st:=by
 unfold panW at hs ⊢
 split at hs
 ·exact hk _ hs
 ·exact prun_mono hK hk _ _ _ hs
theorem prun_lim {KK:Nat→Oracle} {K:Oracle} (up:∀ {m n:Nat},m≤n→OLe (KK m) (KK n)) (hst:∀ {all:Array Oper} {o:Oper} {s:Nat→V} {h:H} {r:Rv × H},stepR P K all o s h=some r→∃ n,stepR P (KK n) all o s h=some r)
  {all:Array Oper} {sk:Nat→Bool} {j:Nat} {out:V→H→Out} {h:H} {k:Out} {kk:Nat→Out} (hk:∀ st,k=some st→∃ n,∀ m,n≤m→kk m=some st) {st:St}:∀ (l:List Nat) (s:Nat→V) (r:Option (V × H)),prun P K all sk j out h l s r k=some st→∃ n,∀ m,n≤m→prun P (KK m) all sk j out h l s r (kk m)=some st
 | [],s,r,e=>⟨0,fun _ _=>e⟩
 | i :: l,s,r,e=>by
  simp only [prun] at e ⊢
  split at e
  ·cases e
  ·rename_i o ho
   split at e
   ·rename_i hij
    simp only [hij,if_true]
    split at e
    ·cases e
    ·simp only [op1_eq] at e ⊢
     cases hs:stepR P K all o s h with
     | none=>rw [hs] at e;cases e
     | some x =>
      obtain ⟨n1,hn1⟩:=hst hs
      obtain ⟨x,h1⟩:=x
      rw [hs] at e
      cases x with
      | ret v =>
       obtain ⟨n2,hn2⟩:=hk _ e
       refine ⟨max n1 n2,fun m hm=>?_⟩
       rw [stepR_mono (up (by omega:n1≤m)) hn1]
       exact hn2 m (by omega)
      | pan v =>
       obtain ⟨n2,hn2⟩:=prun_lim up hst hk l _ _ e
       refine ⟨max n1 n2,fun m hm=>?_⟩
       rw [stepR_mono (up (by omega:n1≤m)) hn1]
       exact hn2 m (by omega)
   ·rename_i hij
    simp only [hij,if_false]
    split at e
    ·rename_i hsk
     obtain ⟨n,hn⟩:=prun_lim up hst hk l _ _ e
     exact ⟨n,fun m hm=>by rw [if_pos hsk];exact hn m hm⟩
    ·rename_i hsk
     cases hl:lightG P (guardV all s o) s h o.op with
     | none=>rw [hl] at e;cases e
     | some v0 =>
      rw [hl] at e
      obtain ⟨n,hn⟩:=prun_lim up hst hk l _ _ e
      exact ⟨n,fun m hm=>by rw [if_neg hsk];exact hn m hm⟩
theorem panW_lim {KK:Nat→Oracle} {K:Oracle} (up:∀ {m n:Nat},m≤n→OLe (KK m) (KK n)) (hst:∀ {all:Array Oper} {o:Oper} {s:Nat→V} {h:H} {r:Rv × H},stepR P K all o s h=some r→∃ n,stepR P (KK n) all o s h=some r)
  {keep:List Nat} {ops:Array Oper} {p:Plan} {e:E} {h:H} {k:Out} {kk:Nat→Out} (hk:∀ st,k=some st→∃ n,∀ m,n≤m→kk m=some st) {st:St} (hs:panW P K keep ops p e h k=some st):∃ n,panW P (KK n) keep ops p e h (kk n)=some st:=by
 unfold panW at hs ⊢
 split at hs
 ·obtain ⟨n,hn⟩:=hk _ hs;exact ⟨n,hn n (Nat.le_refl _)⟩
 ·obtain ⟨n,hn⟩:=prun_lim up hst hk _ _ _ hs;exact ⟨n,hn n (Nat.le_refl _)⟩
theorem rgn_mono {K K':Oracle} (hK:OLe K K') {keep:List Nat} {ops:Array Oper} {draw:Bool} {e:E} {h:H} {st:St} (hs:rgn P K keep ops draw e h=some st):rgn P K' keep ops draw e h=some st:=by
 unfold rgn at hs ⊢
 cases draw with
 | true =>
  simp only [if_true] at hs ⊢
  cases hp:plan ops with
  | none=>rw [hp] at hs;cases hs
  | some p=>rw [hp] at hs;exact panW_mono hK (fun st hs=>opsD_mono hK _ _ _ _ _ hs) hs
 | false =>
  simp only [Bool.false_eq_true,if_false] at hs ⊢
  exact opsT_mono hK _ _ _ _ hs
theorem sq_mono {x x':Out} {k k':E→H→Out} {st:St} (hx:∀ st,x=some st→x'=some st) (hk:∀ e h st,k e h=some st→k' e h=some st) (e:sq x k=some st):sq x' k'=some st:=by
 rcases sq_some e with ⟨e1,h1,h2,h3⟩ | ⟨h2,h3⟩
 ·rw [hx _ h2];exact hk _ _ _ h3
 ·rw [hx _ h2]
  unfold sq
  obtain ⟨x,e2,h4⟩:=st
  cases x <;> first | rfl | exact absurd rfl (h3 e2 h4)
theorem den_mono {K K':Oracle} (hK:OLe K K') {L L':Looper} (hL:LLe L L') (keep:List Nat) (c:Code):∀ (e:E) (h:H) (st:St),den P K L keep c e h=some st→den P K' L' keep c e h=some st:=by
 induction c with
 | region id ops draw=>intro e h st hs;exact rgn_mono hK hs
 | seq a b iha ihb=>intro e h st hs;simp only [den] at hs ⊢;exact sq_mono (fun st=>iha e h st) ihb hs
 | cond c a b iha ihb =>
  intro e h st hs
  simp only [den,br] at hs ⊢
  split at hs
  ·exact iha _ _ _ hs
  ·exact ihb _ _ _ hs
  ·cases hs
 | block id c ih =>
  intro e h st hs
  simp only [den] at hs ⊢
  cases hd:den P K L keep c e h with
  | none=>rw [hd] at hs;cases hs
  | some r=>rw [ih _ _ _ hd];rw [hd] at hs;exact hs
 | loop c ih=>intro e h st hs;exact hL _ _ (fun e h st hs=>ih e h st hs) e h st hs
 | scope c ih=>intro e h st hs;exact ih e h st hs
 | _=>intro e h st hs;exact hs
theorem runF_mono {kp:FuncId→List Nat} {K K':Oracle} (hK:OLe K K') {L L':Looper} (hL:LLe L L') {f:FuncId} {args:List V} {h:H} {r:Rv × H} (e:runF P kp K L f args h=some r):runF P kp K' L' f args h=some r:=by
 unfold runF at e ⊢
 split at e
 ·split at e
  ·rename_i c hc
   split at e
   ·rename_i hg
    rw [if_pos hg]
    cases hd:den P K L (kp f) c (entE (kp f) args) h with
    | none=>rw [hd] at e;cases e
    | some st=>rw [den_mono hK hL _ _ _ _ _ hd];rw [hd] at e;exact e
   ·cases e
  ·cases e
 ·cases e
theorem loopN_succ (n:Nat) (f:E→H→Out) (e:E) (h:H):loopN (n+1) f e h=sq (f e h) (loopN n f):=rfl
theorem loopN_le {m n:Nat} (hmn:m≤n):LLe (loopN m) (loopN n):=by
 intro f f' hf
 induction m generalizing n with
 | zero=>intro e h st hs;cases hs
 | succ m ih =>
  obtain ⟨n,rfl⟩:∃ k,n=k+1:=⟨n - 1,by omega⟩
  intro e h st hs
  simp only [loopN] at hs ⊢
  exact sq_mono (fun st=>hf e h st) (fun e h st=>ih (by omega) e h st) hs
theorem runZ_step (kp:FuncId→List Nat):∀ n,OLe (runZ P kp n) (runZ P kp (n+1))
 | 0=>fun _ _ _ _ h=>by cases h
 | n+1=>fun f a h r e=>runF_mono (runZ_step kp n) (loopN_le (Nat.le_succ _)) e
theorem runZ_le (kp:FuncId→List Nat) {m n:Nat} (h:m≤n):OLe (runZ P kp m) (runZ P kp n):=by
 induction n with
 | zero =>
      have:m=0:=by omega
      subst this;exact OLe.refl _
 | succ n ih =>
  by_cases e:m=n+1
  ·subst e;exact OLe.refl _
  ·exact fun f a h' r hr=>runZ_step kp n f a h' r (ih (by omega) f a h' r hr)
open Classical in
noncomputable def limO {α:Type} (F:Nat→Option α):Option α:=if h:∃ n,(F n).isSome then F (Classical.choose h) else none
theorem limO_some {α:Type} {F:Nat→Option α} {x:α} (h:limO F=some x):∃ n,F n=some x:=by
 unfold limO at h
 split at h
 ·exact ⟨_,h⟩
 ·cases h
theorem limO_of {α:Type} {F:Nat→Option α} (hm:∀ m n x,m≤n→F m=some x→F n=some x) {n:Nat} {x:α} (h:F n=some x):limO F=some x:=by
 have hex:∃ n,(F n).isSome:=⟨n,by rw [h];rfl⟩
 unfold limO
 rw [dif_pos hex]
 have hc:=Classical.choose_spec hex
 obtain ⟨y,hy⟩:=Option.isSome_iff_exists.1 hc
 rcases Nat.le_total n (Classical.choose hex) with hl | hl
 ·exact hm _ _ _ hl h
 ·have:=hm _ _ _ hl hy
  rw [h] at this
  rw [hy,this]
noncomputable def callZ (P:Program) (kp:FuncId→List Nat):Oracle:=fun f a h=>limO fun n=>runZ P kp n f a h
noncomputable def loopZ:Looper:=fun f e h=>limO fun n=>loopN n f e h
theorem callZ_of {kp:FuncId→List Nat} {n:Nat} {f:FuncId} {a:List V} {h:H} {r:Rv × H} (e:runZ P kp n f a h=some r):callZ P kp f a h=some r :=
 limO_of (fun _ _ _ hl=>runZ_le kp hl f a h _) e
theorem loopZ_of {n:Nat} {f:E→H→Out} {e:E} {h:H} {st:St} (hs:loopN n f e h=some st):loopZ f e h=some st :=
 limO_of (fun _ _ st hl=>loopN_le hl f f (fun _ _ _ h=>h) e h st) hs
theorem callZ_ge (kp:FuncId→List Nat) (n:Nat):OLe (runZ P kp n) (callZ P kp):=fun _ _ _ _ e=>callZ_of e
theorem loopZ_ge (n:Nat):LLe (loopN n) loopZ:=fun f f' hf e h st hs=>loopZ_of (n:=n) (loopN_le (Nat.le_refl n) f f' hf e h st hs)
theorem stepR_cont {kp:FuncId→List Nat} {ops:Array Oper} {o:Oper} {s:Nat→V} {h:H} {r:Rv × H} (e:stepR P (callZ P kp) ops o s h=some r):∃ n,stepR P (runZ P kp n) ops o s h=some r:=by
 have bare0:∀ (c:Call) r,callV (callZ P kp) s h c=some r→∃ n,callV (runZ P kp n) s h c=some r:=by
  intro c r e
  unfold callV at e
  split at e
  ·rename_i f hf
   split at e
   ·rename_i g a b hg
    obtain ⟨n,hn⟩:=limO_some e
    exact ⟨n,by unfold callV;rw [hf];simp only [];rw [hg];exact hn⟩
   ·cases e
  ·cases e
 have bare:∀ (p:Op) r,callO (callZ P kp) s h p=some r→∃ n,callO (runZ P kp n) s h p=some r:=by
  intro p r e
  cases p <;> first | exact bare0 _ r e | exact ⟨0,e⟩
 unfold stepR at e ⊢
 cases hk:kind o.op <;> rw [hk] at e <;> simp only [] at e ⊢ <;> try exact ⟨0,e⟩
 unfold callG at e ⊢
 cases hg:guardV ops s o with
 | none=>rw [hg] at e;exact bare _ _ e
 | some p =>
  obtain ⟨x,want⟩:=p
  rw [hg] at e
  simp only [gk] at e ⊢
  split at e
  ·exact bare _ _ e
  ·exact ⟨0,e⟩
  ·cases e
theorem opsT_cont {kp:FuncId→List Nat} {all:Array Oper} {pn:V→H→Out} {fin:(Nat→V)→H→Out}:∀ (l:List Oper) (s:Nat→V) (h:H) (st:St),opsT P (callZ P kp) all pn fin l s h=some st→∃ n,opsT P (runZ P kp n) all pn fin l s h=some st
 | [],s,h,st,e=>⟨0,e⟩
 | o :: l,s,h,st,e=>by
  simp only [opsT,op1_eq] at e ⊢
  cases hs:stepR P (callZ P kp) all o s h with
  | none=>rw [hs] at e;cases e
  | some r =>
   obtain ⟨n1,hn1⟩:=stepR_cont hs
   obtain ⟨r,h1⟩:=r
   rw [hs] at e
   cases r with
   | ret v =>
    obtain ⟨n2,hn2⟩:=opsT_cont l _ _ _ e
    refine ⟨max n1 n2,?_⟩
    rw [stepR_mono (runZ_le kp (Nat.le_max_left n1 n2)) hn1]
    exact opsT_mono (runZ_le kp (Nat.le_max_right n1 n2)) l _ _ _ hn2
   | pan v=>exact ⟨n1,by rw [hn1];exact e⟩
theorem opsD_cont {kp:FuncId→List Nat} {all:Array Oper} {fin:(Nat→V)→H→List H→Out}:∀ (l:List Nat) (s:Nat→V) (h:H) (hs:List H) (st:St),opsD P (callZ P kp) all fin l s h hs=some st→∃ n,opsD P (runZ P kp n) all fin l s h hs=some st
 | [],s,h,hs,st,e=>⟨0,e⟩
 | j :: l,s,h,hs,st,e=>by
  simp only [opsD] at e ⊢
  split at e
  ·cases e
  ·rename_i o ho
   rw [op1_eq] at e
   cases hst:stepR P (callZ P kp) all o s h with
   | none=>rw [hst] at e;cases e
   | some r =>
    obtain ⟨n1,hn1⟩:=stepR_cont hst
    obtain ⟨r,h1⟩:=r
    rw [hst] at e
    cases r with
    | ret v =>
     obtain ⟨n2,hn2⟩:=opsD_cont l _ _ _ _ e
     refine ⟨max n1 n2,?_⟩
     rw [op1_eq,stepR_mono (runZ_le kp (Nat.le_max_left n1 n2)) hn1]
     exact opsD_mono (runZ_le kp (Nat.le_max_right n1 n2)) l _ _ _ _ hn2
    | pan v=>cases e
theorem rgn_cont {kp:FuncId→List Nat} {keep:List Nat} {ops:Array Oper} {draw:Bool} {e:E} {h:H} {st:St} (hs:rgn P (callZ P kp) keep ops draw e h=some st):∃ n,rgn P (runZ P kp n) keep ops draw e h=some st:=by
 unfold rgn at hs
 split at hs
 ·rename_i hd
  split at hs
  ·cases hs
  ·rename_i p hp
   obtain ⟨n,hn⟩:=panW_lim (KK:=runZ P kp) (fun h=>runZ_le kp h) (fun h=>stepR_cont h) (kk:=fun n=>opsD P (runZ P kp n) ops _ p.ord (e.s keep) h [h]) (fun st hs=>by
    obtain ⟨n,hn⟩:=opsD_cont _ _ _ _ _ hs
    exact ⟨n,fun m hm=>opsD_mono (runZ_le kp hm) _ _ _ _ _ hn⟩) hs
   exact ⟨n,by unfold rgn;rw [if_pos hd,hp];exact hn⟩
 ·rename_i hd
  obtain ⟨n,hn⟩:=opsT_cont _ _ _ _ hs
  exact ⟨n,by unfold rgn;rw [if_neg hd];exact hn⟩
theorem den_cont (kp:FuncId→List Nat) (keep:List Nat) (c:Code):∀ (e:E) (h:H) (st:St),den P (callZ P kp) loopZ keep c e h=some st→∃ n,den P (runZ P kp n) (loopN n) keep c e h=some st:=by
 have up:∀ {c:Code} {m n:Nat} {e:E} {h:H} {st:St},m≤n→den P (runZ P kp m) (loopN m) keep c e h=some st→den P (runZ P kp n) (loopN n) keep c e h=some st :=
  fun hl hs=>den_mono (runZ_le kp hl) (loopN_le hl) _ _ _ _ _ hs
 induction c with
 | region id ops draw=>intro e h st hs;exact rgn_cont hs
 | seq a b iha ihb =>
  intro e h st hs
  simp only [den] at hs ⊢
  rcases sq_some hs with ⟨e1,h1,h2,h3⟩ | ⟨h2,h3⟩
  ·obtain ⟨n1,hn1⟩:=iha _ _ _ h2
   obtain ⟨n2,hn2⟩:=ihb _ _ _ h3
   refine ⟨max n1 n2,?_⟩
   rw [up (Nat.le_max_left n1 n2) hn1]
   exact up (Nat.le_max_right n1 n2) hn2
  ·obtain ⟨n1,hn1⟩:=iha _ _ _ h2
   refine ⟨n1,?_⟩
   rw [hn1]
   unfold sq
   obtain ⟨x,e,h⟩:=st
   cases x <;> first | rfl | exact absurd rfl (h3 e h)
 | cond c a b iha ihb =>
  intro e h st hs
  simp only [den,br] at hs ⊢
  split at hs
  ·exact iha _ _ _ hs
  ·exact ihb _ _ _ hs
  ·cases hs
 | block id c ih =>
  intro e h st hs
  simp only [den] at hs ⊢
  cases hd:den P (callZ P kp) loopZ keep c e h with
  | none=>rw [hd] at hs;cases hs
  | some r =>
   obtain ⟨n,hn⟩:=ih _ _ _ hd
   exact ⟨n,by rw [hn];rw [hd] at hs;exact hs⟩
 | loop c ih =>
  intro e h st hs
  simp only [den] at hs ⊢
  obtain ⟨k,hk⟩:=limO_some hs
  have key:∀ (k:Nat) (e:E) (h:H),loopN k (fun e h=>den P (callZ P kp) loopZ keep c e h) e h=some st→∃ n,loopN n (fun e h=>den P (runZ P kp n) (loopN n) keep c e h) e h=some st:=by
   intro k
   induction k with
   | zero=>intro e h hs;cases hs
   | succ k ihk =>
    intro e h hs
    simp only [loopN] at hs
    rcases sq_some hs with ⟨e1,h1,h2,h3⟩ | ⟨h2,h3⟩
    ·obtain ⟨n1,hn1⟩:=ih _ _ _ h2
     obtain ⟨n2,hn2⟩:=ihk _ _ h3
     refine ⟨max n1 n2+1,?_⟩
     rw [loopN_succ,up (by omega:n1≤max n1 n2+1) hn1]
     exact loopN_le (Nat.le_max_right n1 n2) _ _ (fun e h st hs=>up (by omega) hs) _ _ _ hn2
    ·obtain ⟨n1,hn1⟩:=ih _ _ _ h2
     refine ⟨n1+1,?_⟩
     rw [loopN_succ,up (Nat.le_succ n1) hn1]
     unfold sq
     obtain ⟨x,e,h⟩:=st
     cases x <;> first | rfl | exact absurd rfl (h3 e h)
  exact key k e h hk
 | scope c ih=>intro e h st hs;exact ih e h st hs
 | _=>intro e h st hs;exact ⟨0,hs⟩
theorem opt_ext {α:Type} {a b:Option α} (h1:∀ x,a=some x→b=some x) (h2:∀ x,b=some x→a=some x):a=b:=by
 cases a with
 | some x=>exact (h1 x rfl).symm
 | none=>cases b with
  | none=>rfl
  | some y=>exact h2 y rfl
theorem callZ_eq (P:Program) (kp:FuncId→List Nat) (f:FuncId) (a:List V) (h:H):callZ P kp f a h=runF P kp (callZ P kp) loopZ f a h:=by
 refine opt_ext (fun r hr=>?_) (fun r hr=>?_)
 ·obtain ⟨n,hn⟩:=limO_some hr
  cases n with
  | zero=>cases hn
  | succ n=>exact runF_mono (callZ_ge kp n) (loopZ_ge (n+1)) hn
 ·unfold runF at hr
  split at hr
  ·rename_i fn hfn
   split at hr
   ·rename_i c hc
    split at hr
    ·rename_i hg
     cases hd:den P (callZ P kp) loopZ (kp f) c (entE (kp f) a) h with
     | none=>rw [hd] at hr;cases hr
     | some st =>
      obtain ⟨n,hn⟩:=den_cont kp _ _ _ _ _ hd
      rw [hd] at hr
      refine callZ_of (n:=n+1) ?_
      have:runF P kp (runZ P kp n) (loopN n) f a h=some r:=by
       unfold runF
       rw [hfn]
       simp only []
       rw [hc]
       simp only []
       rw [if_pos hg,hn]
       exact hr
      exact runF_mono (OLe.refl _) (loopN_le (Nat.le_succ n)) this
    ·cases hr
   ·cases hr
  ·cases hr
theorem loopZ_eq (f:E→H→Out) (e:E) (h:H):loopZ f e h=sq (f e h) (loopZ f):=by
 refine opt_ext (fun r hr=>?_) (fun r hr=>?_)
 ·obtain ⟨n,hn⟩:=limO_some hr
  cases n with
  | zero=>cases hn
  | succ n =>
   simp only [loopN] at hn
   exact sq_mono (fun st h=>h) (fun e h st hs=>loopZ_of hs) hn
 ·rcases sq_some hr with ⟨e1,h1,h2,h3⟩ | ⟨h2,h3⟩
  ·obtain ⟨n,hn⟩:=limO_some h3
   refine loopZ_of (n:=n+1) ?_
   simp only [loopN,h2]
   exact hn
  ·refine loopZ_of (n:=1) ?_
   simp only [loopN,h2]
   unfold sq
   obtain ⟨x,e,h⟩:=r
   cases x <;> first | rfl | exact absurd rfl (h3 e h)
theorem callZ_ok (hm:P.follows .mixedOrders=true) (kp:FuncId→List Nat) {f:FuncId} {a:List V} {h h':H} {r:Rv} (e:callZ P kp f a h=some (r,h')):CallOK P f a h r h':=by
 obtain ⟨n,hn⟩:=limO_some e
 exact (runZ_ok (draw_ok hm) kp n).ok _ _ _ _ _ hn
end Go.Zf
