import Derived.Test.YtbajipmhnoakeaaGreatPnZFast
import Derived.Test.YtbajipmhnoakeaaGreatPnZOver
set_option linter.unusedVariables false
set_option linter.unusedSimpArgs false
namespace Go.Zf
variable {P:Program}
class OvMono (ov:Ov):Prop where
 mono:∀ {K K':Oracle} {L L':Looper},OLe K K'→LLe L L'→∀ f a h r,ov.run K L f a h=some r→ov.run K' L' f a h=some r
theorem runW_step (kp:FuncId→List Nat) (ov:Ov) [OvMono ov]:∀ n,OLe (runW P kp ov n) (runW P kp ov (n+1))
 | 0=>fun _ _ _ _ h=>by cases h
 | n+1=>fun f a h r e=>by
  unfold runW at e ⊢
  split at e <;> rename_i hh <;> simp only [hh,if_true,if_false,Bool.false_eq_true]
  ·exact OvMono.mono (runW_step kp ov n) (loopN_le (Nat.le_succ _)) _ _ _ _ e
  ·exact runF_mono (runW_step kp ov n) (loopN_le (Nat.le_succ _)) e
theorem runW_le (kp:FuncId→List Nat) (ov:Ov) [OvMono ov] {m n:Nat} (h:m≤n):OLe (runW P kp ov m) (runW P kp ov n):=by
 induction n with
 | zero =>
      have:m=0:=by omega
      subst this;exact OLe.refl _
 | succ n ih =>
  by_cases e:m=n+1
  ·subst e;exact OLe.refl _
  ·exact fun f a h' r hr=>runW_step kp ov n f a h' r (ih (by omega) f a h' r hr)
noncomputable def callW (P:Program) (kp:FuncId→List Nat) (ov:Ov):Oracle:=fun f a h=>limO fun n=>runW P kp ov n f a h
theorem callW_of {kp:FuncId→List Nat} {ov:Ov} [OvMono ov] {n:Nat} {f:FuncId} {a:List V} {h:H} {r:Rv × H} (e:runW P kp ov n f a h=some r):callW P kp ov f a h=some r :=
 limO_of (fun _ _ _ hl=>runW_le kp ov hl f a h _) e
theorem callW_ge (kp:FuncId→List Nat) (ov:Ov) [OvMono ov] (n:Nat):OLe (runW P kp ov n) (callW P kp ov):=fun _ _ _ _ e=>callW_of e
theorem stepR_contW {kp:FuncId→List Nat} {ov:Ov} [OvMono ov] {ops:Array Oper} {o:Oper} {s:Nat→V} {h:H} {r:Rv × H} (e:stepR P (callW P kp ov) ops o s h=some r):∃ n,stepR P (runW P kp ov n) ops o s h=some r:=by
 have bare0:∀ (c:Call) r,callV (callW P kp ov) s h c=some r→∃ n,callV (runW P kp ov n) s h c=some r:=by
  intro c r e
  unfold callV at e
  split at e
  ·rename_i f hf
   split at e
   ·rename_i g a b hg
    obtain ⟨n,hn⟩:=limO_some e
    exact ⟨n,by unfold callV;rw [hf];simp only [];rw [hg];exact hn⟩
   ·cases e
  ·cases e
 have bare:∀ (p:Op) r,callO (callW P kp ov) s h p=some r→∃ n,callO (runW P kp ov n) s h p=some r:=by
  intro p r e
  cases p <;> first | exact bare0 _ r e | exact ⟨0,e⟩
 unfold stepR at e ⊢
 cases hk:kind o.op <;> rw [hk] at e <;> simp only [] at e ⊢ <;> try exact ⟨0,e⟩
 unfold callG at e ⊢
 cases hg:guardV ops s o with
 | none=>rw [hg] at e;exact bare _ _ e
 | some p =>
  obtain ⟨x,want⟩:=p
  rw [hg] at e
  simp only [gk] at e ⊢
  split at e
  ·exact bare _ _ e
  ·exact ⟨0,e⟩
  ·cases e
theorem opsT_contW {kp:FuncId→List Nat} {ov:Ov} [OvMono ov] {all:Array Oper} {pn:V→H→Out} {fin:(Nat→V)→H→Out}:∀ (l:List Oper) (s:Nat→V) (h:H) (st:St),opsT P (callW P kp ov) all pn fin l s h=some st→∃ n,opsT P (runW P kp ov n) all pn fin l s h=some st
 | [],s,h,st,e=>⟨0,e⟩
 | o :: l,s,h,st,e=>by
  simp only [opsT,op1_eq] at e ⊢
  cases hs:stepR P (callW P kp ov) all o s h with
  | none=>rw [hs] at e;cases e
  | some r =>
   obtain ⟨n1,hn1⟩:=stepR_contW hs
   obtain ⟨r,h1⟩:=r
   rw [hs] at e
   cases r with
   | ret v =>
    obtain ⟨n2,hn2⟩:=opsT_contW l _ _ _ e
    refine ⟨max n1 n2,?_⟩
    rw [stepR_mono (runW_le kp ov (Nat.le_max_left n1 n2)) hn1]
    exact opsT_mono (runW_le kp ov (Nat.le_max_right n1 n2)) l _ _ _ hn2
   | pan v=>exact ⟨n1,by rw [hn1];exact e⟩
theorem opsD_contW {kp:FuncId→List Nat} {ov:Ov} [OvMono ov] {all:Array Oper} {fin:(Nat→V)→H→List H→Out}:∀ (l:List Nat) (s:Nat→V) (h:H) (hs:List H) (st:St),opsD P (callW P kp ov) all fin l s h hs=some st→∃ n,opsD P (runW P kp ov n) all fin l s h hs=some st
 | [],s,h,hs,st,e=>⟨0,e⟩
 | j :: l,s,h,hs,st,e=>by
  simp only [opsD] at e ⊢
  split at e
  ·cases e
  ·rename_i o ho
   rw [op1_eq] at e
   cases hst:stepR P (callW P kp ov) all o s h with
   | none=>rw [hst] at e;cases e
   | some r =>
    obtain ⟨n1,hn1⟩:=stepR_contW hst
    obtain ⟨r,h1⟩:=r
    rw [hst] at e
    cases r with
    | ret v =>
     obtain ⟨n2,hn2⟩:=opsD_contW l _ _ _ _ e
     refine ⟨max n1 n2,?_⟩
     rw [op1_eq,stepR_mono (runW_le kp ov (Nat.le_max_left n1 n2)) hn1]
     exact opsD_mono (runW_le kp ov (Nat.le_max_right n1 n2)) l _ _ _ _ hn2
    | pan v=>cases e
theorem rgn_contW {kp:FuncId→List Nat} {ov:Ov} [OvMono ov] {keep:List Nat} {ops:Array Oper} {draw:Bool} {e:E} {h:H} {st:St} (hs:rgn P (callW P kp ov) keep ops draw e h=some st):∃ n,rgn P (runW P kp ov n) keep ops draw e h=some st:=by
 unfold rgn at hs
 split at hs
 ·rename_i hd
  split at hs
  ·cases hs
  ·rename_i p hp
   obtain ⟨n,hn⟩:=panW_lim (KK:=runW P kp ov) (fun h=>runW_le kp ov h) (fun h=>stepR_contW h) (kk:=fun n=>opsD P (runW P kp ov n) ops _ p.ord (e.s keep) h [h]) (fun st hs=>by
    obtain ⟨n,hn⟩:=opsD_contW _ _ _ _ _ hs
    exact ⟨n,fun m hm=>opsD_mono (runW_le kp ov hm) _ _ _ _ _ hn⟩) hs
   exact ⟨n,by unfold rgn;rw [if_pos hd,hp];exact hn⟩
 ·rename_i hd
  obtain ⟨n,hn⟩:=opsT_contW _ _ _ _ hs
  exact ⟨n,by unfold rgn;rw [if_neg hd];exact hn⟩
theorem den_contW (kp:FuncId→List Nat) (ov:Ov) [OvMono ov] (keep:List Nat) (c:Code):∀ (e:E) (h:H) (st:St),den P (callW P kp ov) loopZ keep c e h=some st→∃ n,den P (runW P kp ov n) (loopN n) keep c e h=some st:=by
 have up:∀ {c:Code} {m n:Nat} {e:E} {h:H} {st:St},m≤n→den P (runW P kp ov m) (loopN m) keep c e h=some st→den P (runW P kp ov n) (loopN n) keep c e h=some st :=
  fun hl hs=>den_mono (runW_le kp ov hl) (loopN_le hl) _ _ _ _ _ hs
 induction c with
 | region id ops draw=>intro e h st hs;exact rgn_contW hs
 | seq a b iha ihb =>
  intro e h st hs
  simp only [den] at hs ⊢
  rcases sq_some hs with ⟨e1,h1,h2,h3⟩ | ⟨h2,h3⟩
  ·obtain ⟨n1,hn1⟩:=iha _ _ _ h2
   obtain ⟨n2,hn2⟩:=ihb _ _ _ h3
   refine ⟨max n1 n2,?_⟩
   rw [up (Nat.le_max_left n1 n2) hn1]
   exact up (Nat.le_max_right n1 n2) hn2
  ·obtain ⟨n1,hn1⟩:=iha _ _ _ h2
   refine ⟨n1,?_⟩
   rw [hn1]
   unfold sq
   obtain ⟨x,e,h⟩:=st
   cases x <;> first | rfl | exact absurd rfl (h3 e h)
 | cond c a b iha ihb =>
  intro e h st hs
  simp only [den,br] at hs ⊢
  split at hs
  ·exact iha _ _ _ hs
  ·exact ihb _ _ _ hs
  ·cases hs
 | block id c ih =>
  intro e h st hs
  simp only [den] at hs ⊢
  cases hd:den P (callW P kp ov) loopZ keep c e h with
  | none=>rw [hd] at hs;cases hs
  | some r =>
   obtain ⟨n,hn⟩:=ih _ _ _ hd
   exact ⟨n,by rw [hn];rw [hd] at hs;exact hs⟩
 | loop c ih =>
  intro e h st hs
  simp only [den] at hs ⊢
  obtain ⟨k,hk⟩:=limO_some hs
  have key:∀ (k:Nat) (e:E) (h:H),loopN k (fun e h=>den P (callW P kp ov) loopZ keep c e h) e h=some st→∃ n,loopN n (fun e h=>den P (runW P kp ov n) (loopN n) keep c e h) e h=some st:=by
   intro k
   induction k with
   | zero=>intro e h hs;cases hs
   | succ k ihk =>
    intro e h hs
    simp only [loopN] at hs
    rcases sq_some hs with ⟨e1,h1,h2,h3⟩ | ⟨h2,h3⟩
    ·obtain ⟨n1,hn1⟩:=ih _ _ _ h2
     obtain ⟨n2,hn2⟩:=ihk _ _ h3
     refine ⟨max n1 n2+1,?_⟩
     rw [loopN_succ,up (by omega:n1≤max n1 n2+1) hn1]
     exact loopN_le (Nat.le_max_right n1 n2) _ _ (fun e h st hs=>up (by omega) hs) _ _ _ hn2
    ·obtain ⟨n1,hn1⟩:=ih _ _ _ h2
     refine ⟨n1+1,?_⟩
     rw [loopN_succ,up (Nat.le_succ n1) hn1]
     unfold sq
     obtain ⟨x,e,h⟩:=st
     cases x <;> first | rfl | exact absurd rfl (h3 e h)
  exact key k e h hk
 | scope c ih=>intro e h st hs;exact ih e h st hs
 | _=>intro e h st hs;exact ⟨0,hs⟩
theorem callW_eq (P:Program) (kp:FuncId→List Nat) (ov:Ov) [OvMono ov] (f:FuncId) (a:List V) (h:H) (hov:ov.has f=false):callW P kp ov f a h=runF P kp (callW P kp ov) loopZ f a h:=by
 refine opt_ext (fun r hr=>?_) (fun r hr=>?_)
 ·obtain ⟨n,hn⟩:=limO_some hr
  cases n with
  | zero=>cases hn
  | succ n =>
   simp only [runW,hov,Bool.false_eq_true,if_false] at hn
   exact runF_mono (callW_ge kp ov n) (loopZ_ge (n+1)) hn
 ·unfold runF at hr
  split at hr
  ·rename_i fn hfn
   split at hr
   ·rename_i c hc
    split at hr
    ·rename_i hg
     cases hd:den P (callW P kp ov) loopZ (kp f) c (entE (kp f) a) h with
     | none=>rw [hd] at hr;cases hr
     | some st =>
      obtain ⟨n,hn⟩:=den_contW kp ov _ _ _ _ _ hd
      rw [hd] at hr
      refine callW_of (n:=n+1) ?_
      simp only [runW,hov,Bool.false_eq_true,if_false]
      have:runF P kp (runW P kp ov n) (loopN n) f a h=some r:=by
       unfold runF
       rw [hfn]
       simp only []
       rw [hc]
       simp only []
       rw [if_pos hg,hn]
       exact hr
      exact runF_mono (OLe.refl _) (loopN_le (Nat.le_succ n)) this
    ·cases hr
   ·cases hr
  ·cases hr
theorem callW_ov {kp:FuncId→List Nat} {ov:Ov} [OvMono ov] {f:FuncId} (hov:ov.has f=true) {a:List V} {h:H} (hc:∀ r,ov.run (callW P kp ov) loopZ f a h=some r→∃ n,ov.run (runW P kp ov n) (loopN n) f a h=some r) :
  callW P kp ov f a h=ov.run (callW P kp ov) loopZ f a h:=by
 refine opt_ext (fun r hr=>?_) (fun r hr=>?_)
 ·obtain ⟨n,hn⟩:=limO_some hr
  cases n with
  | zero=>cases hn
  | succ n =>
   simp only [runW,hov,if_true] at hn
   exact OvMono.mono (callW_ge kp ov n) (loopZ_ge (n+1)) _ _ _ _ hn
 ·obtain ⟨n,hn⟩:=hc r hr
  refine callW_of (n:=n+1) ?_
  simp only [runW,hov,if_true]
  exact OvMono.mono (OLe.refl _) (loopN_le (Nat.le_succ n)) _ _ _ _ hn
theorem callW_eqF (P:Program) (kp:FuncId→List Nat) (ov:Ov) [OvMono ov] (f:FuncId) (a:List V) (h:H) (hov:ov.has f=false):callW P kp ov f a h=runFF P kp (callW P kp ov) loopZ f a h:=by
 rw [runFF_eq];exact callW_eq P kp ov f a h hov
theorem callW_ok (hm:P.follows .mixedOrders=true) (kp:FuncId→List Nat) {ov:Ov} [OvMono ov] (ho:OvOK P ov) {f:FuncId} {a:List V} {h h':H} {r:Rv} (e:callW P kp ov f a h=some (r,h')):CallOK P f a h r h':=by
 obtain ⟨n,hn⟩:=limO_some e
 exact (runW_ok (draw_ok hm) kp ho n).ok _ _ _ _ _ hn
instance:OvMono ovNone:=⟨fun _ _ _ _ _ _ e=>by cases e⟩
end Go.Zf
