import Derived.Test.YtbkmdnmncaakdaaGreatPbZText
set_option linter.unusedVariables false
set_option linter.unusedSimpArgs false
namespace Go.Zf
variable {P:Program}
def alO (al:List (Nat × Operand)) (t:Nat):Operand:=match al with
 | []=>.tmp t
 | (d,x) :: r=>if t=d then x else alO r t
def alX (al:List (Nat × Operand)):Operand→Operand
 | .tmp t=>alO al t
 | x=>x
def viaS (al:List (Nat × Operand)) (s:Nat→V) (t:Nat):V:=ev s (alO al t)
def erA (d:Nat):List (Nat × Operand)→List (Nat × Operand)
 | []=>[]
 | (k,x) :: r=>if k=d then erA d r else (k,x) :: erA d r
def hitA (d:Nat):List (Nat × Operand)→Bool
 | []=>false
 | (_,.tmp t) :: r=>decide (t=d) || hitA d r
 | _ :: r=>hitA d r
def copyOf (o:Oper):Option (Nat × Operand) :=
 match o.guard,o.dst,o.op with
 | none,some d,.move x=>some (d,x)
 | none,some d,.assign x=>some (d,x)
 | _,_,_=>none
def nextA (al:List (Nat × Operand)) (d:Option Nat):List (Nat × Operand) :=
 match d with
 | none=>al
 | some d=>if hitA d al then [] else erA d al
def nextS (al:List (Nat × Operand)) (s:Nat→V) (d:Option Nat) (v:V):Nat→V :=
 match d with
 | none=>s
 | some d=>if hitA d al then sput (viaS al s) (some d) v else sput s (some d) v
theorem ev_via (al:List (Nat × Operand)) (s:Nat→V) (x:Operand):ev (viaS al s) x=ev s (alX al x):=by
 cases x <;> rfl
theorem via_copy (al:List (Nat × Operand)) (s:Nat→V) (d:Nat) (x:Operand):sput (viaS al s) (some d) (ev (viaS al s) x)=viaS ((d,alX al x) :: al) s:=by
 funext t
 simp only [sput,viaS,alO]
 by_cases h:t=d
 ·simp only [h,if_true];exact ev_via al s x
 ·simp only [h,if_false]
theorem via_next (al:List (Nat × Operand)) (s:Nat→V) (d:Option Nat) (v:V):sput (viaS al s) d v=viaS (nextA al d) (nextS al s d v):=by
 cases d with
 | none=>rfl
 | some d =>
  simp only [nextA,nextS]
  cases hh:hitA d al with
  | true =>
   simp only [if_true]
   funext t
   simp [viaS,alO,ev]
  | false =>
   simp only [Bool.false_eq_true,if_false]
   funext t
   simp only [sput]
   have key:∀ al:List (Nat × Operand),hitA d al=false→viaS (erA d al) (sput s (some d) v) t=if t=d then v else viaS al s t:=by
    intro al
    induction al with
    | nil =>
     intro _
     simp only [viaS,erA,alO,ev,sput]
    | cons p al ih =>
     obtain ⟨k,x⟩:=p
     intro hh
     have hx:(∀ y,x=.tmp y→y ≠ d)∧hitA d al=false:=by
      cases x with
      | tmp y =>
       simp only [hitA,Bool.or_eq_false_iff,decide_eq_false_iff_not] at hh
       exact ⟨fun z hz=>by cases hz;exact hh.1,hh.2⟩
      | const _=>exact ⟨fun z hz=>(by cases hz),hh⟩
      | global _=>exact ⟨fun z hz=>(by cases hz),hh⟩
      | func _=>exact ⟨fun z hz=>(by cases hz),hh⟩
     have ih:=ih hx.2
     simp only [viaS] at ih ⊢
     simp only [erA]
     by_cases e1:k=d
     ·simp only [e1,if_true]
      rw [ih]
      by_cases e2:t=d
      ·simp [e2]
      ·simp [alO,e2]
     ·simp only [e1,if_false,alO]
      by_cases e2:t=k
      ·have e3:t ≠ d:=fun h=>e1 (e2.symm.trans h)
       simp only [e2,if_true,e1,if_false]
       cases x with
       | tmp y=>simp only [ev,sput];rw [if_neg (hx.1 y rfl)]
       | const _=>rfl
       | global _=>rfl
       | func _=>rfl
      ·simp only [e2,if_false]
       exact ih
   exact (key al hh).symm
def opV (P:Program) (K:Oracle) (ops:Array Oper) (o:Oper) (s:Nat→V) (h:H) {β:Type} (pn:V→H→Option β) (k:V→H→Option β):Option β :=
 match kind o.op with
 | .light=>bd (lightG P (guardV ops s o) s h o.op) fun v=>k v h
 | .fresh=>bf (freshG P (guardV ops s o) s h o.op) k
 | .heavy=>bf (heavyG P (guardV ops s o) s h o.op) k
 | .call=>bk (callG K (guardV ops s o) s h o.op) pn k
 | .none=>none
theorem op1_opV (P:Program) (K:Oracle) (ops:Array Oper) (o:Oper) (s:Nat→V) (h:H) {β:Type} (pn:V→H→Option β) (k:(Nat→V)→H→Option β) :
  op1 P K ops o s h pn k=opV P K ops o s h pn fun v h=>k (sput s o.dst v) h:=by
 unfold op1 opV
 cases kind o.op <;> rfl
def opsTF (P:Program) (K:Oracle) (all:Array Oper) (pn:V→H→Out) (fin:(Nat→V)→H→Out):List Oper→List (Nat × Operand)→(Nat→V)→H→Out
 | [],al,s,h=>fin (viaS al s) h
 | o :: r,al,s,h=>match copyOf o with
  | some (d,x)=>opsTF P K all pn fin r ((d,alX al x) :: al) s h
  | none=>opV P K all o (viaS al s) h pn fun v h=>opsTF P K all pn fin r (nextA al o.dst) (nextS al s o.dst v) h
theorem copyOf_some {o:Oper} {d:Nat} {x:Operand} (h:copyOf o=some (d,x)) (K:Oracle) (ops:Array Oper) (s:Nat→V) (hp:H) {β:Type} (pn:V→H→Option β) (k:(Nat→V)→H→Option β) :
  op1 P K ops o s hp pn k=k (sput s (some d) (ev s x)) hp:=by
 unfold copyOf at h
 split at h
 ·rename_i hg hd ho
  cases h
  unfold op1 guardV
  rw [ho,hg,hd]
  rfl
 ·rename_i hg hd ho
  cases h
  unfold op1 guardV
  rw [ho,hg,hd]
  rfl
 ·cases h
theorem opsTF_eq (K:Oracle) (all:Array Oper) (pn:V→H→Out) (fin:(Nat→V)→H→Out):∀ (l:List Oper) (al:List (Nat × Operand)) (s:Nat→V) (h:H),
  opsTF P K all pn fin l al s h=opsT P K all pn fin l (viaS al s) h
 | [],al,s,h=>rfl
 | o :: r,al,s,h=>by
  simp only [opsTF,opsT]
  cases hc:copyOf o with
  | some p =>
   obtain ⟨d,x⟩:=p
   simp only []
   rw [copyOf_some hc,via_copy]
   exact opsTF_eq K all pn fin r _ s h
  | none =>
   simp only []
   rw [op1_opV]
   congr 1
   funext v h
   rw [opsTF_eq K all pn fin r,via_next]
def opsDF (P:Program) (K:Oracle) (all:Array Oper) (fin:(Nat→V)→H→List H→Out):List Nat→List (Nat × Operand)→(Nat→V)→H→List H→Out
 | [],al,s,h,hs=>fin (viaS al s) h hs
 | i :: r,al,s,h,hs=>match all[i]? with
  | none=>none
  | some o=>match copyOf o with
   | some (d,x)=>opsDF P K all fin r ((d,alX al x) :: al) s h (if isHeavy o.op then h :: hs else hs)
   | none=>opV P K all o (viaS al s) h (fun _ _=>none) fun v h=>opsDF P K all fin r (nextA al o.dst) (nextS al s o.dst v) h (if isHeavy o.op then h :: hs else hs)
theorem opsDF_eq (K:Oracle) (all:Array Oper) (fin:(Nat→V)→H→List H→Out):∀ (l:List Nat) (al:List (Nat × Operand)) (s:Nat→V) (h:H) (hs:List H),
  opsDF P K all fin l al s h hs=opsD P K all fin l (viaS al s) h hs
 | [],al,s,h,hs=>rfl
 | i :: r,al,s,h,hs=>by
  simp only [opsDF,opsD]
  cases ho:all[i]? with
  | none=>rfl
  | some o =>
   simp only []
   cases hc:copyOf o with
   | some p =>
    obtain ⟨d,x⟩:=p
    simp only []
    rw [copyOf_some hc,via_copy]
    exact opsDF_eq K all fin r _ s h _
   | none =>
    simp only []
    rw [op1_opV]
    congr 1
    funext v h
    rw [opsDF_eq K all fin r,via_next]
def rgnF (P:Program) (K:Oracle) (keep:List Nat) (ops:Array Oper) (draw:Bool) (e:E) (h:H):Out :=
 if draw then
  match plan ops with
  | none=>none
  | some p=>panW P K keep ops p e h (opsDF P K ops (fun s h hs=>cks P ops s hs.reverse p.win (some ⟨.nm,keepE keep (lastD ops.toList) s,h⟩)) p.ord [] (e.s keep) h [h])
 else opsTF P K ops (fun v h=>some ⟨.pn v,fgE keep (dsts ops.toList) e,h⟩) (fun s h=>some ⟨.nm,keepE keep (lastD ops.toList) s,h⟩) ops.toList [] (e.s keep) h
theorem via_nil (s:Nat→V):viaS [] s=s:=rfl
theorem rgnF_eq (P:Program) (K:Oracle) (keep:List Nat) (ops:Array Oper) (draw:Bool) (e:E) (h:H):rgnF P K keep ops draw e h=rgn P K keep ops draw e h:=by
 unfold rgnF rgn
 cases draw with
 | true =>
  simp only [if_true]
  cases plan ops with
  | none=>rfl
  | some p=>simp only [];rw [opsDF_eq,via_nil]
 | false =>
  simp only [Bool.false_eq_true,if_false]
  rw [opsTF_eq,via_nil]
def denF (P:Program) (K:Oracle) (L:Looper) (keep:List Nat):Code→E→H→Out
 | .skip,e,h=>some ⟨.nm,e,h⟩
 | .region _ ops draw,e,h=>rgnF P K keep ops draw e h
 | .seq a b,e,h=>sq (denF P K L keep a e h) fun e h=>denF P K L keep b e h
 | .cond c a b,e,h=>br (ev (e.s keep) c) (denF P K L keep a e h) (denF P K L keep b e h)
 | .block id c,e,h=>blk id (denF P K L keep c e h)
 | .loop c,e,h=>L (fun e h=>denF P K L keep c e h) e h
 | .exit id,e,h=>some ⟨.ex id,e,h⟩
 | .scope c,e,h=>denF P K L keep c e h
 | .label _,e,h=>some ⟨.nm,e,h⟩
 | .ret,e,h=>some ⟨.rt,e,h⟩
 | _,_,_=>none
theorem denF_eq (P:Program) (K:Oracle) (L:Looper) (keep:List Nat) (c:Code):∀ (e:E) (h:H),denF P K L keep c e h=den P K L keep c e h:=by
 induction c with
 | region id ops draw=>intro e h;exact rgnF_eq P K keep ops draw e h
 | seq a b iha ihb=>intro e h;simp only [denF,den,iha,ihb]
 | cond c a b iha ihb=>intro e h;simp only [denF,den,iha,ihb]
 | block id c ih=>intro e h;simp only [denF,den,ih]
 | loop c ih=>intro e h;simp only [denF,den,ih]
 | scope c ih=>intro e h;simp only [denF,den,ih]
 | _=>intro e h;rfl
def runFF (P:Program) (kp:FuncId→List Nat) (K:Oracle) (L:Looper) (f:FuncId) (args:List V) (h:H):Option (Rv × H) :=
 match P.funcs[f]? with
 | some fn=>match fn.body with
  | some c=>if isGo fn then fin P (kp f) fn.results.toList (denF P K L (kp f) c (entE (kp f) args) h) else none
  | none=>none
 | none=>none
theorem runFF_eq (P:Program) (kp:FuncId→List Nat) (K:Oracle) (L:Looper) (f:FuncId) (args:List V) (h:H):runFF P kp K L f args h=runF P kp K L f args h:=by
 unfold runFF runF
 cases P.funcs[f]? with
 | none=>rfl
 | some fn =>
  simp only []
  cases fn.body with
  | none=>rfl
  | some c=>simp only [denF_eq]
theorem callZ_eqF (P:Program) (kp:FuncId→List Nat) (f:FuncId) (a:List V) (h:H):callZ P kp f a h=runFF P kp (callZ P kp) loopZ f a h:=by
 rw [runFF_eq];exact callZ_eq P kp f a h
end Go.Zf
