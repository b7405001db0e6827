import Derived.Test.YtbkmdnmncaakdaaGreatPbZCode
import Derived.Orders
set_option linter.unusedVariables false
set_option linter.unusedSimpArgs false
namespace Go.Zf
variable {P:Program}
theorem ev_tmp {s s':Nat→V} {l:List Operand} (hs:∀ t ∈ l.filterMap (fun x:Operand=>match x with | .tmp t=>some t | _=>none),s t=s' t):∀ x ∈ l,ev s x=ev s' x:=by
 intro x hx
 cases x with
 | tmp t=>exact hs t (List.mem_filterMap.2 ⟨_,hx,rfl⟩)
 | const v=>rfl
 | func f=>rfl
 | global g=>rfl
theorem light_congr {s s':Nat→V} {h:H} {o:Op} (hs:∀ x ∈ o.operands.toList,ev s x=ev s' x):light P s h o=light P s' h o:=by
 cases o <;> simp only [Op.operands] at hs <;> simp only [light] <;> (try rfl)
 case move x=>rw [hs x (by simp)]
 case assign x=>rw [hs x (by simp)]
 case pick c a b=>rw [hs c (by simp),hs a (by simp),hs b (by simp)]
 case load t a=>rw [hs a (by simp)]
 case nilCheck x=>rw [hs x (by simp)]
 case binOp op t x y yt=>rw [hs x (by simp),hs y (by simp)]
 case unOp op t x=>rw [hs x (by simp)]
 case convert a b x=>rw [hs x (by simp)]
 case makeInterface t x=>rw [hs x (by simp)]
 case makeFunc f first captured =>
  have h1:first.toList.map (ev s)=first.toList.map (ev s'):=List.map_congr_left fun x hx=>hs x (by simp at hx ⊢;exact .inl hx)
  have h2:captured.toList.map (ev s)=captured.toList.map (ev s'):=List.map_congr_left fun x hx=>hs x (by simp at hx ⊢;exact .inr hx)
  rw [h1,h2]
 case slice t x lo hi mx =>
  have h1:∀ y:Option Operand,(∀ z ∈ y,ev s z=ev s' z)→y.map (ev s)=y.map (ev s'):=by
   intro y hy
   cases y with
   | none=>rfl
   | some z=>simp [hy z rfl]
  rw [hs x (by simp),h1 lo (fun z hz=>hs z (by simp;right;left;simpa using hz)),h1 hi (fun z hz=>hs z (by simp;right;right;left;simpa using hz)),h1 mx (fun z hz=>hs z (by simp;right;right;right;simpa using hz))]
 case fieldAddr t x f=>rw [hs x (by simp)]
 case field t x f=>rw [hs x (by simp)]
 case indexAddr t x i=>rw [hs x (by simp),hs i (by simp)]
 case index t x i=>rw [hs x (by simp),hs i (by simp)]
 case extract x i=>rw [hs x (by simp)]
 case build t parts =>
  have:parts.toList.map (fun p=>(p.1,ev s p.2))=parts.toList.map (fun p=>(p.1,ev s' p.2)):=List.map_congr_left fun p hp=>by rw [hs p.2 (by simp at hp ⊢;exact ⟨p.1,hp⟩)]
  rw [this]
 case call c =>
  have ha:∀ x ∈ c.args.toList,ev s x=ev s' x:=fun x hx=>hs x (by simp [Call.operands] at hx ⊢;exact .inr hx)
  have hm:c.args.toList.map (ev s)=c.args.toList.map (ev s'):=List.map_congr_left ha
  split
  ·split
   ·rename_i x t hx ht
    rw [ha x (by rw [hx];simp)]
   ·rfl
  ·split
   ·rename_i x t hx ht
    rw [ha x (by rw [hx];simp)]
   ·rfl
  ·rw [hm]
  ·rw [hm]
  ·rfl
theorem light_heap {s:Nat→V} {h h':H} {o:Op} (hl:isLoad o=false):light P s h o=light P s h' o:=by
 cases o <;> first | rfl | (simp [isLoad] at hl)
theorem fresh_congr {s s':Nat→V} {h:H} {o:Op} (hs:∀ x ∈ o.operands.toList,ev s x=ev s' x):fresh P s h o=fresh P s' h o:=by
 cases o <;> simp only [Op.operands] at hs <;> simp only [fresh] <;> (try rfl)
 case box e x=>rw [hs x (by simp)]
 case buildSlice t len parts =>
  have:parts.toList.map (fun p=>(p.1,ev s p.2))=parts.toList.map (fun p=>(p.1,ev s' p.2)):=List.map_congr_left fun p hp=>by rw [hs p.2 (by simp at hp ⊢;exact ⟨p.1,hp⟩)]
  rw [this]
 case makeSlice t len cap=>rw [hs len (by simp),hs cap (by simp)]
theorem heavy_congr {s s':Nat→V} {h:H} {o:Op} (hs:∀ x ∈ o.operands.toList,ev s x=ev s' x):heavy P s h o=heavy P s' h o:=by
 cases o <;> simp only [Op.operands] at hs <;> simp only [heavy] <;> (try rfl)
 case makeMap t r=>cases r <;> rfl
 case lookup t m k ok=>rw [hs m (by simp),hs k (by simp)]
 case mapUpdate t m k x=>rw [hs m (by simp),hs k (by simp),hs x (by simp)]
 case insert t m k x=>rw [hs m (by simp),hs k (by simp),hs x (by simp)]
 case store t a x=>rw [hs a (by simp),hs x (by simp)]
 case call c =>
  have ha:∀ x ∈ c.args.toList,ev s x=ev s' x:=fun x hx=>hs x (by simp [Call.operands] at hx ⊢;exact .inr hx)
  split
  ·split
   ·rename_i x y t u hx ht
    rw [ha x (by rw [hx];simp),ha y (by rw [hx];simp)]
   ·rfl
  ·split
   ·rename_i x y t u hx ht
    rw [ha x (by rw [hx];simp),ha y (by rw [hx];simp)]
   ·rfl
  ·rfl
theorem callV_congr {K:Oracle} {s s':Nat→V} {h:H} {c:Call} (hs:∀ x ∈ c.operands.toList,ev s x=ev s' x):callV K s h c=callV K s' h c:=by
 have ha:∀ x ∈ c.args.toList,ev s x=ev s' x:=fun x hx=>hs x (by simp [Call.operands] at hx ⊢;exact .inr hx)
 have hm:c.args.toList.map (ev s)=c.args.toList.map (ev s'):=List.map_congr_left ha
 unfold callV
 split
 ·rename_i f hf
  rw [hs f (by simp [Call.operands,hf]),hm]
 ·rfl
theorem callO_congr {K:Oracle} {s s':Nat→V} {h:H} {o:Op} (hs:∀ x ∈ o.operands.toList,ev s x=ev s' x):callO K s h o=callO K s' h o:=by
 unfold callO
 split
 ·exact callV_congr hs
 ·rename_i x
  rw [hs x (by simp [Op.operands])]
 ·rfl
theorem bare_congr {K:Oracle} {s s':Nat→V} {h:H} {o:Oper} (hs:∀ x ∈ o.op.operands.toList,ev s x=ev s' x):bareR P K o s h=bareR P K o s' h:=by
 unfold bareR
 rw [light_congr hs,fresh_congr hs,heavy_congr hs,callO_congr hs]
theorem looks_ops {ops:Array Oper} {o:Oper} {s s':Nat→V} (hs:∀ t ∈ looks ops o,s t=s' t):∀ x ∈ o.op.operands.toList,ev s x=ev s' x :=
 ev_tmp fun t ht=>hs t (by unfold looks;exact List.mem_append_left _ ht)
theorem guard_congr {ops:Array Oper} {o:Oper} {s s':Nat→V} (hs:∀ t ∈ looks ops o,s t=s' t):guardV ops s o=guardV ops s' o:=by
 unfold guardV
 cases hg:o.guard with
 | none=>rfl
 | some p =>
  obtain ⟨j,want⟩:=p
  simp only []
  cases hd:(ops[j]?).bind (·.dst) with
  | none=>rfl
  | some d =>
   simp only []
   rw [hs d (by unfold looks;rw [hg];simp [hd])]
theorem step_congr {K:Oracle} {ops:Array Oper} {o:Oper} {s s':Nat→V} {h:H} (hs:∀ t ∈ looks ops o,s t=s' t):stepR P K ops o s h=stepR P K ops o s' h:=by
 have h1:=looks_ops hs
 unfold stepR
 rw [guard_congr hs]
 simp only [lightG,freshG,heavyG,callG]
 rw [light_congr h1,fresh_congr h1,heavy_congr h1,callO_congr h1]
structure PF (ops:Array Oper) (b:Array Nat) (ord:List Nat):Prop where
 len:ord.length=ops.size
 pos:∀ (p:Nat),p < ops.size→∃ j,ord[p]?=some j∧j < ops.size∧ord.idxOf j=p
 has:∀ (k:Nat),k < ops.size→ord[ord.idxOf k]?=some k∧ord.idxOf k < ops.size
 knd:∀ (k:Nat) (o:Oper),ops[k]?=some o→isNone o.op=false
 own:∀ (k:Nat) (o:Oper) (d:Nat),ops[k]?=some o→isLoad o.op=true→o.dst=some d→d ∉ looks ops o
 grd:∀ (k:Nat) (o:Oper) (g:Nat) (w:Bool),ops[k]?=some o→o.guard=some (g,w)→bitAt b k g=true∧((ops[g]?).bind (·.dst)).isSome=true
 edge:∀ (k:Nat) (o:Oper) (e:Edge),ops[k]?=some o→e ∈ o.after→Region.binds .any e=true→bitAt b k e.on=true∧e.on < ops.size
 bef:∀ (k j:Nat),k < ops.size→j < ops.size→bitAt b k j=true→ord.idxOf j < ord.idxOf k∧∀ (o:Oper),ops[k]?=some o→∃ e ∈ o.after,Region.binds .any e=true∧(e.on=j∨bitAt b e.on j=true)
 dst:∀ (k j:Nat) (o p:Oper) (d:Nat),k ≠ j→ops[k]?=some o→ops[j]?=some p→o.dst=some d→p.dst ≠ some d∧(d ∈ looks ops p→bitAt b j k=true∨(bitAt b k j=true∧isLoad p.op=false))
 hvy:∀ (k j:Nat) (o p:Oper),k ≠ j→ops[k]?=some o→ops[j]?=some p→isHeavy o.op=true→isHeavy p.op=true→bitAt b k j=true∨bitAt b j k=true
 frs:∀ (k j:Nat) (o p:Oper),k ≠ j→ops[k]?=some o→ops[j]?=some p→isFresh o.op=true→isHeavy p.op=true→bitAt b k j=true∨bitAt b j k=true∨ord.idxOf j < ord.idxOf k
theorem lt_of_get {ops:Array Oper} {k:Nat} {o:Oper} (h:ops[k]?=some o):k < ops.size:=(Array.getElem?_eq_some_iff.1 h).1
theorem planOk_facts {ops:Array Oper} {b:Array Nat} {ord:List Nat} (h:planOk ops b ord=true):PF ops b ord:=by
 simp only [planOk,Bool.and_eq_true,List.all_eq_true,List.mem_range,beq_iff_eq] at h
 obtain ⟨⟨⟨h1,h2⟩,h3⟩,h4⟩:=h
 have two:∀ k j o p,ops[k]?=some o→ops[j]?=some p→_:=fun k j o p hk hj=>by
  have:=h4 k (lt_of_get hk) j (lt_of_get hj)
  unfold planTwo at this
  rw [hk,hj] at this
  exact this
 have one:∀ k o,ops[k]?=some o→_:=fun k o hk=>by
  have:=h3 k (lt_of_get hk)
  unfold planOne at this
  rw [hk] at this
  exact this
 have hpos:∀ p,p < ops.size→∃ j,ord[p]?=some j∧j < ops.size∧ord.idxOf j=p:=by
  intro p hp
  have:=h2 p hp
  unfold planPos at this
  split at this
  ·rename_i j hj
   simp at this
   exact ⟨j,hj,this.1,this.2⟩
  ·cases this
 refine ⟨h1,hpos,?_,?_,?_,?_,?_,?_,?_,?_,?_⟩
 ·intro k hk
  have hk':ops[k]?=some ops[k]:=Array.getElem?_eq_getElem hk
  have:=one k _ hk'
  simp only [Bool.and_eq_true,List.contains_iff_mem] at this
  have hm:=this.1.1.1.1
  have hlt:=List.idxOf_lt_length_of_mem hm
  exact ⟨by rw [List.getElem?_eq_getElem hlt];simp,by omega⟩
 ·intro k o hk
  have:=one k o hk
  simp only [Bool.and_eq_true] at this
  simpa using this.1.1.1.2
 ·intro k o d hk hl hd
  have:=one k o hk
  simp only [Bool.and_eq_true] at this
  have:=this.1.1.2
  rw [hl,hd] at this
  simpa using this
 ·intro k o g w hk hg
  have:=one k o hk
  simp only [Bool.and_eq_true] at this
  have:=this.1.2
  rw [hg] at this
  simpa using this
 ·intro k o e hk he hb
  have:=one k o hk
  simp only [Bool.and_eq_true,List.all_eq_true] at this
  have:=this.2 e (by simpa using he)
  rw [hb] at this
  simpa using this
 ·intro k j hk hj hb
  have hk':ops[k]?=some ops[k]:=Array.getElem?_eq_getElem hk
  have:=two k j _ _ hk' (Array.getElem?_eq_getElem hj)
  simp only [Bool.and_eq_true,hb,Bool.not_true,Bool.false_or,decide_eq_true_eq,List.any_eq_true] at this
  refine ⟨this.1.1,fun o ho=>?_⟩
  rw [hk'] at ho
  cases ho
  obtain ⟨e,he,he1,he2⟩:=this.1.2
  exact ⟨e,by simpa using he,he1,by simpa using he2⟩
 ·intro k j o p d hne hk hj hd
  have:=two k j o p hk hj
  simp only [Bool.and_eq_true] at this
  have:=this.2
  rw [hd] at this
  simp only [Bool.or_eq_true,beq_iff_eq,hne,false_or,Bool.and_eq_true] at this
  have:=this.1.1
  refine ⟨by simpa using this.1,fun hm=>?_⟩
  have:=this.2
  simp [hm] at this
  rcases this with h | ⟨h,h'⟩
  ·exact .inl h
  ·exact .inr ⟨h,h'⟩
 ·intro k j o p hne hk hj ho hp
  have:=two k j o p hk hj
  simp only [Bool.and_eq_true] at this
  have:=this.2
  simp only [Bool.or_eq_true,beq_iff_eq,hne,false_or,Bool.and_eq_true] at this
  simpa [ho,hp] using this.1.2
 ·intro k j o p hne hk hj ho hp
  have:=two k j o p hk hj
  simp only [Bool.and_eq_true] at this
  have:=this.2
  simp only [Bool.or_eq_true,beq_iff_eq,hne,false_or,Bool.and_eq_true] at this
  have:=this.2
  simp [ho,hp] at this
  rcases this with (h | h) | h
  ·exact .inl h
  ·exact .inr (.inl h)
  ·exact .inr (.inr h)
def hvAt (ops:Array Oper) (ord:List Nat) (p:Nat):Bool:=match ord[p]? with | some j=>opAt ops isHeavy j | none=>false
structure Tr (P:Program) (K:Oracle) (ops:Array Oper) (ord:List Nat) (S:Nat→Nat→V) (Hh:Nat→H) (val:Nat→V):Prop where
 step:∀ p,p < ord.length→∃ j o,ord[p]?=some j∧ops[j]?=some o∧stepR P K ops o (S p) (Hh p)=some (.ret (val p),Hh (p+1))∧S (p+1)=sput (S p) o.dst (val p)
theorem trace_of {K:Oracle} {ops:Array Oper} {fin:(Nat→V)→H→List H→Out} {st:St}:∀ (l:List Nat) (s:Nat→V) (h:H) (hs:List H),opsD P K ops fin l s h hs=some st →
  ∃ S Hh val,S 0=s∧Hh 0=h∧Tr P K ops l S Hh val∧fin (S l.length) (Hh l.length) ((((List.range l.length).filter (hvAt ops l)).map fun p=>Hh (p+1)).reverse ++ hs)=some st
 | [],s,h,hs,e=>⟨fun _=>s,fun _=>h,fun _=>.und,rfl,rfl,⟨fun p hp=>by simp at hp⟩,by simpa [opsD] using e⟩
 | j :: l,s,h,hs,e=>by
  simp only [opsD] at e
  split at e
  ·cases e
  ·rename_i o ho
   rw [op1_eq] at e
   cases hst:stepR P K ops o s h with
   | none=>rw [hst] at e;cases e
   | some r =>
    obtain ⟨r,h1⟩:=r
    rw [hst] at e
    cases r with
    | pan v=>cases e
    | ret v =>
     obtain ⟨S,Hh,val,e1,e2,e3,e4⟩:=trace_of l _ _ _ e
     refine ⟨fun p=>match p with | 0=>s | p+1=>S p,fun p=>match p with | 0=>h | p+1=>Hh p,fun p=>match p with | 0=>v | p+1=>val p,rfl,rfl,⟨?_⟩,?_⟩
     ·intro p hp
      cases p with
      | zero=>exact ⟨j,o,rfl,ho,by simp only [e2];exact hst,e1⟩
      | succ p =>
       obtain ⟨j',o',a1,a2,a3,a4⟩:=e3.step p (by simpa using hp)
       exact ⟨j',o',by simpa using a1,a2,a3,a4⟩
     ·have hfil:(List.range (l.length+1)).filter (hvAt ops (j :: l))=(if isHeavy o.op then [0] else []) ++ ((List.range l.length).filter (hvAt ops l)).map Nat.succ:=by
       rw [List.range_succ_eq_map,List.filter_cons,List.filter_map]
       have h0:hvAt ops (j :: l) 0=isHeavy o.op:=by simp [hvAt,opAt,ho]
       have h1:(hvAt ops (j :: l)) ∘ Nat.succ=hvAt ops l:=by funext p;simp [hvAt]
       rw [h0,h1]
       split <;> simp
      simp only [List.length_cons]
      rw [hfil]
      have:((((if isHeavy o.op then [0] else []) ++ ((List.range l.length).filter (hvAt ops l)).map Nat.succ).map fun p=>(match p+1 with | 0=>h | p+1=>Hh p)).reverse ++ hs)
        = ((((List.range l.length).filter (hvAt ops l)).map fun p=>Hh (p+1)).reverse ++ (if isHeavy o.op then h1 :: hs else hs)):=by
       split
       ·simp [Function.comp_def,e2]
       ·simp [Function.comp_def]
      rw [this]
      exact e4
structure TrS (ops:Array Oper) (ord:List Nat) (S:Nat→Nat→V) (val:Nat→V):Prop where
 step:∀ p,p < ord.length→∃ j o,ord[p]?=some j∧ops[j]?=some o∧S (p+1)=sput (S p) o.dst (val p)
theorem Tr.s {K:Oracle} {ops:Array Oper} {ord:List Nat} {S:Nat→Nat→V} {Hh:Nat→H} {val:Nat→V} (t:Tr P K ops ord S Hh val):TrS ops ord S val:=⟨fun p hp=>by
 obtain ⟨j,o,h1,h2,_,h3⟩:=t.step p hp;exact ⟨j,o,h1,h2,h3⟩⟩
theorem Tr.n {K:Oracle} (hK:KOK P K) {ops:Array Oper} {ord:List Nat} {S:Nat→Nat→V} {Hh:Nat→H} {val:Nat→V} (t:Tr P K ops ord S Hh val) {p q:Nat} (hpq:p≤q) (hq:q≤ord.length):(Hh p).n≤(Hh q).n:=by
 induction q with
 | zero =>
      have:p=0:=by omega
      subst this;exact Nat.le_refl _
 | succ q ih =>
  by_cases e:p=q+1
  ·subst e;exact Nat.le_refl _
  ·obtain ⟨j,o,_,_,h3,_⟩:=t.step q (by omega)
   exact Nat.le_trans (ih (by omega) (by omega)) (step_n hK h3)
section sim
variable {K:Oracle} {ops:Array Oper} {b:Array Nat} {ord:List Nat} {S:Nat→Nat→V} {Hh:Nat→H} {val:Nat→V} {ds:List Deferred}
theorem PF.inj (F:PF ops b ord) {k j:Nat} {o p:Oper} {d:Nat} (hk:ops[k]?=some o) (hj:ops[j]?=some p) (h1:o.dst=some d) (h2:p.dst=some d):k=j:=by
 by_cases e:k=j
 ·exact e
 ·exact absurd h2 (F.dst k j o p d e hk hj h1).1
theorem Tr.at (F:PF ops b ord) (t:Tr P K ops ord S Hh val) {j:Nat} {o:Oper} (hj:ops[j]?=some o) :
  stepR P K ops o (S (ord.idxOf j)) (Hh (ord.idxOf j))=some (.ret (val (ord.idxOf j)),Hh (ord.idxOf j+1))∧S (ord.idxOf j+1)=sput (S (ord.idxOf j)) o.dst (val (ord.idxOf j)):=by
 obtain ⟨h1,h2⟩:=F.has j (lt_of_get hj)
 obtain ⟨j',o',e1,e2,e3,e4⟩:=t.step (ord.idxOf j) (by rw [F.len];exact h2)
 rw [h1] at e1
 cases e1
 rw [hj] at e2
 cases e2
 exact ⟨e3,e4⟩
theorem TrS.S_after (F:PF ops b ord) (t:TrS ops ord S val) {x:Nat} {p q:Nat} (hpq:p≤q) (hq:q≤ord.length) (hno:∀ k o,ops[k]?=some o→o.dst=some x→¬ (p≤ord.idxOf k∧ord.idxOf k < q)):S q x=S p x:=by
 induction q with
 | zero =>
      have:p=0:=by omega
      subst this;rfl
 | succ q ih =>
  by_cases e:p=q+1
  ·subst e;rfl
  ·obtain ⟨j,o,e1,e2,e4⟩:=t.step q (by omega)
   rw [e4]
   have hpos:ord.idxOf j=q:=by
    obtain ⟨j',g1,g2,g3⟩:=F.pos q (by rw [← F.len];omega)
    rw [e1] at g1;cases g1;exact g3
   have hne:o.dst ≠ some x:=fun hd=>hno j o e2 hd ⟨by omega,by omega⟩
   have:sput (S q) o.dst (val q) x=S q x:=by
    cases hd:o.dst with
    | none=>rfl
    | some d =>
     simp only [sput]
     rw [if_neg]
     intro hx;subst hx;exact hne hd
   rw [this]
   exact ih (by omega) (by omega) fun k o hk hd hh=>hno k o hk hd ⟨hh.1,by omega⟩
open Classical in
noncomputable def sL (ops:Array Oper) (S:Nat→Nat→V) (N:Nat) (L:Nat→Prop):Nat→V:=fun t=>if ∃ k o,L k∧ops[k]?=some o∧o.dst=some t then S N t else S 0 t
theorem sL_agree (F:PF ops b ord) (t:TrS ops ord S val) {L:Nat→Prop} (D:∀ k m,L k→m < ops.size→bitAt b k m=true→L m) {j:Nat} {o:Oper} (hj:ops[j]?=some o) (hL:¬ L j)
  (hready:∀ m,m < ops.size→bitAt b j m=true→L m):∀ x ∈ looks ops o,sL ops S ord.length L x=S (ord.idxOf j) x:=by
 intro x hx
 have hjlt:=lt_of_get hj
 have hjpos:=(F.has j hjlt).2
 rw [← F.len] at hjpos
 unfold sL
 by_cases hw:∃ (k:Nat) (p:Oper),ops[k]?=some p∧p.dst=some x
 ·obtain ⟨k,p,hk,hd⟩:=hw
  have hklt:=lt_of_get hk
  have hkpos:=(F.has k hklt).2
  rw [← F.len] at hkpos
  have uniq:∀ k' p',ops[k']?=some p'→p'.dst=some x→k'=k:=fun k' p' h1 h2=>F.inj h1 hk h2 hd
  by_cases e:k=j
  ·subst e
   rw [if_neg (by rintro ⟨k',p',h1,h2,h3⟩;exact hL (uniq k' p' h2 h3 ▸ h1))]
   exact (t.S_after F (Nat.zero_le _) (by omega) fun k' p' h1 h2 hh=>by have:=uniq k' p' h1 h2;subst this;omega).symm
  ·rcases (F.dst k j p o x e hk hj hd).2 hx with hb | ⟨hb,_⟩
   ·rw [if_pos ⟨k,p,hready k hklt hb,hk,hd⟩]
    have:=(F.bef j k hjlt hklt hb).1
    exact t.S_after F (by omega) (Nat.le_refl _) fun k' p' h1 h2 hh=>by have:=uniq k' p' h1 h2;subst this;omega
   ·rw [if_neg (by rintro ⟨k',p',h1,h2,h3⟩;have:=uniq k' p' h2 h3;subst this;exact hL (D _ _ h1 hjlt hb))]
    have:=(F.bef k j hklt hjlt hb).1
    exact (t.S_after F (Nat.zero_le _) (by omega) fun k' p' h1 h2 hh=>by have:=uniq k' p' h1 h2;subst this;omega).symm
 ·rw [if_neg (by rintro ⟨k',p',h1,h2,h3⟩;exact hw ⟨k',p',h2,h3⟩)]
  exact (t.S_after F (Nat.zero_le _) (by omega) fun k' p' h1 h2 hh=>hw ⟨k',p',h1,h2⟩).symm
theorem load_agree (F:PF ops b ord) (t:TrS ops ord S val) {j:Nat} {o:Oper} (hj:ops[j]?=some o) (hl:isLoad o.op=true):∀ x ∈ looks ops o,S ord.length x=S (ord.idxOf j) x:=by
 intro x hx
 have hjlt:=lt_of_get hj
 have hjpos:=(F.has j hjlt).2
 rw [← F.len] at hjpos
 refine t.S_after F (by omega) (Nat.le_refl _) fun k p hk hd hh=>?_
 have hklt:=lt_of_get hk
 by_cases e:k=j
 ·subst e;rw [hj] at hk;cases hk;exact F.own k o x hj hl hd hx
 ·rcases (F.dst k j p o x e hk hj hd).2 hx with hb | ⟨_,hb⟩
  ·have:=(F.bef j k hjlt hklt hb).1;omega
  ·rw [hl] at hb;cases hb
theorem S_val (F:PF ops b ord) (t:TrS ops ord S val) {j:Nat} {o:Oper} {d:Nat} (hj:ops[j]?=some o) (hd:o.dst=some d):S ord.length d=val (ord.idxOf j):=by
 have hjlt:=lt_of_get hj
 have hjpos:=(F.has j hjlt).2
 rw [← F.len] at hjpos
 have h1:=t.S_after F (x:=d) (p:=ord.idxOf j+1) (q:=ord.length) (by omega) (Nat.le_refl _) fun k p hk hd' hh=>by
  have:=F.inj hk hj hd' hd
  subst this;omega
 obtain ⟨h3,h4⟩:=F.has j hjlt
 obtain ⟨j',o',e1,e2,e4⟩:=t.step (ord.idxOf j) (by rw [F.len];exact h4)
 rw [h3] at e1;cases e1
 rw [hj] at e2;cases e2
 rw [h1,e4,hd]
 simp [sput]
theorem sL_put (F:PF ops b ord) (t:TrS ops ord S val) {L:Nat→Prop} {j:Nat} {o:Oper} (hj:ops[j]?=some o):sL ops S ord.length (fun k=>L k∨k=j)=sput (sL ops S ord.length L) o.dst (val (ord.idxOf j)):=by
 funext x
 unfold sL
 cases hd:o.dst with
 | none =>
  simp only [sput]
  have:(∃ (k:Nat) (p:Oper),(L k∨k=j)∧ops[k]?=some p∧p.dst=some x) ↔ (∃ (k:Nat) (p:Oper),L k∧ops[k]?=some p∧p.dst=some x):=by
   constructor
   ·rintro ⟨k,p,h1 | h1,h2,h3⟩
    ·exact ⟨k,p,h1,h2,h3⟩
    ·subst h1;rw [hj] at h2;cases h2;rw [hd] at h3;cases h3
   ·rintro ⟨k,p,h1,h2,h3⟩;exact ⟨k,p,.inl h1,h2,h3⟩
  by_cases hc:∃ (k:Nat) (p:Oper),L k∧ops[k]?=some p∧p.dst=some x
  ·rw [if_pos hc,if_pos (this.2 hc)]
  ·rw [if_neg hc,if_neg (fun h=>hc (this.1 h))]
 | some d =>
  simp only [sput]
  by_cases e:x=d
  ·subst e
   rw [if_pos rfl,if_pos ⟨j,o,.inr rfl,hj,hd⟩]
   exact S_val F t hj hd
  ·rw [if_neg e]
   have:(∃ (k:Nat) (p:Oper),(L k∨k=j)∧ops[k]?=some p∧p.dst=some x) ↔ (∃ (k:Nat) (p:Oper),L k∧ops[k]?=some p∧p.dst=some x):=by
    constructor
    ·rintro ⟨k,p,h1 | h1,h2,h3⟩
     ·exact ⟨k,p,h1,h2,h3⟩
     ·subst h1;rw [hj] at h2;cases h2;rw [hd] at h3;cases h3;exact absurd rfl e
    ·rintro ⟨k,p,h1,h2,h3⟩;exact ⟨k,p,.inl h1,h2,h3⟩
   by_cases hc:∃ (k:Nat) (p:Oper),L k∧ops[k]?=some p∧p.dst=some x
   ·rw [if_pos hc,if_pos (this.2 hc)]
   ·rw [if_neg hc,if_neg (fun h=>hc (this.1 h))]
def Pend (ops:Array Oper) (ord:List Nat) (Hh:Nat→H) (L:Nat→Prop) (q p:Nat):Prop:=q≤p∧p < ord.length∧(∃ j,ord[p]?=some j∧L j∧opAt ops isFresh j=true)∧(Hh (p+1)).n ≠ (Hh p).n
structure Sim (ops:Array Oper) (b:Array Nat) (ord:List Nat) (S:Nat→Nat→V) (Hh:Nat→H) (i0:Inj) (w0:World) (n:Nat) (ds:List Deferred) (L:Nat→Prop) (a:Act) (w:World) (i:Inj) (q:Nat):Prop where
 qlt:q≤ord.length
 hq:∀ p j,p < ord.length→hvAt ops ord p=true→ord[p]?=some j→(L j ↔ p < q)
 D:∀ k m,L k→m < ops.size→bitAt b k m=true→L m
 R:HRel i (Hh q) w
 A:ActOK i (sL ops S ord.length L) n ds a
 pend:∀ p,Pend ops ord Hh L q p→∃ (x:Ent) (C:Array Value) (c:List V) (e:TypeId),Hh (p+1)=(Hh p).new (.cells c e false)∧i (Hh p).n=some x∧x.s=0∧x.ro=false∧w.heap[x.B]?=some (.cells C e (0,0))∧C.size=x.N∧c.length≤x.N ∧
  (∀ (k:Nat) (v:V),c[k]?=some v→v.isCell=true∧∃ u,C[k]?=some u∧VRel i v u)∧w0.heap.size≤x.B∧(∀ d y,(Hh q).has d→i d=some y→y.B ≠ x.B)
 pair:∀ p p' x x',Pend ops ord Hh L q p→Pend ops ord Hh L q p'→p ≠ p'→i (Hh p).n=some x→i (Hh p').n=some x'→x.B ≠ x'.B
 clear:∀ d,(Hh q).n≤d→d < (Hh ord.length).n→i d ≠ none→∃ p,Pend ops ord Hh L q p∧d=(Hh p).n
 dom:∀ d,(d < (Hh 0).n∨(Hh ord.length).n≤d)→i d=i0 d
 size:w0.heap.size≤w.heap.size
 keep:∀ B,B < w0.heap.size→(∀ d x,(Hh 0).owns d→i0 d=some x→x.B ≠ B)→w.heap[B]?=w0.heap[B]?
 own:∀ d x,(Hh q).owns d→i d=some x→x.B < w0.heap.size→∃ c y,(Hh 0).owns c∧i0 c=some y∧y.B=x.B
 live:∀ d x,(Hh q).has d→i d=some x→x.B < w0.heap.size→∃ c y,(Hh 0).has c∧i0 c=some y∧y.B=x.B
 os:w.os=w0.os∧w.tape=w0.tape
 out:w.output=w0.output
theorem HRel.add {i:Inj} {h:H} {w:World} (hr:HRel i h w) {x:Ent} {C:Array Value} {c:List V} {e:TypeId} (hx:i h.n=some x) (hs:x.s=0) (hro:x.ro=false) (hB:w.heap[x.B]?=some (.cells C e (0,0)))
  (hN:C.size=x.N) (hl:c.length≤x.N) (hc:∀ (k:Nat) (v:V),c[k]?=some v→v.isCell=true∧∃ u,C[k]?=some u∧VRel i v u) (hd:∀ d y,h.has d→i d=some y→y.B ≠ x.B) :
  HRel i (h.new (.cells c e false)) w:=by
 refine ⟨?_,?_,hr.bound⟩
 ·intro d y hdy
  rw [H.get_new] at hdy
  split at hdy
  ·rename_i e1
   subst e1
   cases hdy
   exact ⟨x,C,(0,0),hx,hro,hB,hN,by omega,fun _=>rfl,fun k v hk=>by rw [hs,Nat.zero_add];exact hc k v hk⟩
  ·exact hr.blk d y hdy
 ·intro d d' y y' p p' h1 h2 h3 h4 hne h5 h6 h7
  rw [H.get_new] at h1 h2
  split at h1
  ·rename_i e1
   split at h2
   ·rename_i e2;exact absurd (e1.trans e2.symm) hne
   ·subst e1
    rw [hx] at h5;cases h5
    exact fun hh=>hd d' p' ⟨y',h2,h4⟩ h6 hh.symm
  ·split at h2
   ·rename_i e2
    subst e2
    rw [hx] at h6;cases h6
    exact hd d p ⟨y,h1,h3⟩ h5
   ·exact hr.inj d d' y y' p p' h1 h2 h3 h4 hne h5 h6 h7
theorem kind_cases {o:Oper} (h:isNone o.op=false):(kind o.op=.light∧isHeavy o.op=false∧isFresh o.op=false)∨(kind o.op=.fresh∧isHeavy o.op=false∧isFresh o.op=true)∨(isHeavy o.op=true∧isFresh o.op=false):=by
 unfold isNone at h
 unfold isHeavy isFresh
 cases hk:kind o.op <;> rw [hk] at h <;> simp at h ⊢
theorem light_step_eq {o:Oper} (hk:kind o.op=.light) (s:Nat→V) (h:H):stepR P K ops o s h=bd (lightG P (guardV ops s o) s h o.op) fun v=>some (.ret v,h):=by
 unfold stepR;rw [hk]
theorem fresh_step_cases {o:Oper} (hk:kind o.op=.fresh) {s:Nat→V} {h h':H} {v:V} (e:stepR P K ops o s h=some (.ret v,h')) :
  (h'=h∧v=.und∧∃ c want,guardV ops s o=some (c,want)∧wants c want=some false) ∨
  (h'.n=h.n+1∧fresh P s h o.op=some (v,h')∧(guardV ops s o=none∨∃ c want,guardV ops s o=some (c,want)∧wants c want=some true)):=by
 have bare:bareR P K o s h=some (.ret v,h')→h'.n=h.n+1∧fresh P s h o.op=some (v,h'):=by
  intro hb
  unfold bareR at hb
  rw [hk] at hb
  simp only [] at hb
  cases hf:fresh P s h o.op with
  | none=>rw [hf] at hb;cases hb
  | some r =>
   obtain ⟨v',h1⟩:=r
   rw [hf] at hb
   cases hb
   exact ⟨fresh_n hf,rfl⟩
 rcases step_guard e with ⟨hg,hb⟩ | ⟨c,want,hg,⟨hw,hb⟩ | ⟨hw,hb⟩⟩
 ·exact .inr ⟨(bare hb).1,(bare hb).2,.inl hg⟩
 ·exact .inr ⟨(bare hb).1,(bare hb).2,.inr ⟨c,want,hg,hw⟩⟩
 ·cases hb;exact .inl ⟨rfl,rfl,c,want,hg,hw⟩
theorem step_light_h {o:Oper} (hk:kind o.op=.light) {s:Nat→V} {h h':H} {r:Rv} (e:stepR P K ops o s h=some (r,h')):h'=h:=by
 rw [light_step_eq hk] at e
 obtain ⟨v,_,e⟩:=bd_some e
 cases e;rfl
theorem H.has_new {h:H} {x:Blk} {d:Nat} (e:(h.new x).has d):d=h.n∨h.has d:=by
 obtain ⟨y,h1,h2⟩:=e
 rw [H.get_new] at h1
 split at h1
 ·rename_i e1;exact .inl e1
 ·exact .inr ⟨y,h1,h2⟩
theorem H.owns_new {h:H} {x:Blk} {d:Nat} (e:(h.new x).owns d):d=h.n∨h.owns d:=by
 obtain ⟨y,h1,h2⟩:=e
 rw [H.get_new] at h1
 split at h1
 ·rename_i e1;exact .inl e1
 ·exact .inr ⟨y,h1,h2⟩
theorem posOf (F:PF ops b ord) {p j:Nat} (h:ord[p]?=some j):ord.idxOf j=p∧j < ops.size:=by
 have hp:=(List.getElem?_eq_some_iff.1 h).1
 obtain ⟨j',g1,g2,g3⟩:=F.pos p (by rw [← F.len];exact hp)
 rw [h] at g1;cases g1
 exact ⟨g3,g2⟩
theorem Sim.next (hK:KOK P K) (F:PF ops b ord) (t:Tr P K ops ord S Hh val) {i0:Inj} {w0:World} {n:Nat} {L:Nat→Prop} {a:Act} {w:World} {i:Inj} {q:Nat} (s:Sim ops b ord S Hh i0 w0 n ds L a w i q)
  (hlt:q < ord.length) (hh:hvAt ops ord q=false) (hf:∀ j,ord[q]?=some j→opAt ops isFresh j=true→L j):Sim ops b ord S Hh i0 w0 n ds L a w i (q+1):=by
 obtain ⟨j,o,e1,e2,e3,e4⟩:=t.step q hlt
 have hnh:isHeavy o.op=false:=by simpa [hvAt,e1,opAt,e2] using hh
 have hq':∀ p j,p < ord.length→hvAt ops ord p=true→ord[p]?=some j→(L j ↔ p < q+1):=by
  intro p j' hp hv hj
  rw [s.hq p j' hp hv hj]
  have:p ≠ q:=fun e=>by subst e;rw [hh] at hv;cases hv
  omega
 have sub:∀ p,Pend ops ord Hh L (q+1) p→Pend ops ord Hh L q p:=fun p hp=>⟨by have:=hp.1;omega,hp.2⟩
 by_cases hn:(Hh (q+1)).n=(Hh q).n
 ·have heq:Hh (q+1)=Hh q:=by
   rcases kind_cases (F.knd j o e2) with ⟨h1,_⟩ | ⟨h1,_⟩ | ⟨h1,_⟩
   ·exact step_light_h h1 e3
   ·rcases fresh_step_cases h1 e3 with ⟨h2,_⟩ | ⟨h2,_⟩
    ·exact h2
    ·omega
   ·rw [h1] at hnh;cases hnh
  have sub':∀ p,Pend ops ord Hh L q p→Pend ops ord Hh L (q+1) p:=fun p hp=>⟨by
   have h1:=hp.1
   have:p ≠ q:=fun e=>by subst e;exact hp.2.2.2 hn
   omega,hp.2⟩
  exact {
      qlt:=hlt,hq:=hq',D:=s.D,R:=by rw [heq];exact s.R,A:=s.A,
      pend:=fun p hp=>by rw [heq];exact s.pend p (sub p hp),
      pair:=fun p p' x x' h1 h2=>s.pair p p' x x' (sub p h1) (sub p' h2),
      clear:=fun d h1 h2 h3=>by
       rw [heq] at h1
       obtain ⟨p,g1,g2⟩:=s.clear d h1 h2 h3
       exact ⟨p,sub' p g1,g2⟩,
      dom:=s.dom,size:=s.size,keep:=s.keep,own:=by rw [heq];exact s.own,live:=by rw [heq];exact s.live,os:=s.os,out:=s.out }
 ·have hfr:opAt ops isFresh j=true:=by
   rcases kind_cases (F.knd j o e2) with ⟨h1,_⟩ | ⟨_,_,h1⟩ | ⟨h1,_⟩
   ·exact absurd (by rw [step_light_h h1 e3]) hn
   ·simpa [opAt,e2] using h1
   ·rw [h1] at hnh;cases hnh
  have hpq:Pend ops ord Hh L q q:=⟨Nat.le_refl _,hlt,⟨j,e1,hf j e1 hfr,hfr⟩,hn⟩
  obtain ⟨x,C,c,e,p1,p2,p3,p4,p5,p6,p7,p8,p9,p10⟩:=s.pend q hpq
  exact {
      qlt:=hlt,hq:=hq',D:=s.D,R:=by rw [p1];exact s.R.add p2 p3 p4 p5 p6 p7 p8 p10,A:=s.A,
      pend:=fun p hp=>by
       obtain ⟨x',C',c',e',g1,g2,g3,g4,g5,g6,g7,g8,g9,g10⟩:=s.pend p (sub p hp)
       refine ⟨x',C',c',e',g1,g2,g3,g4,g5,g6,g7,g8,g9,fun d y hd hy=>?_⟩
       rw [p1] at hd
       rcases H.has_new hd with rfl | hd
       ·exact s.pair q p y x' hpq (sub p hp) (by have:=hp.1;omega) hy g2
       ·exact g10 d y hd hy,
      pair:=fun p p' x x' h1 h2=>s.pair p p' x x' (sub p h1) (sub p' h2),
      clear:=fun d h1 h2 h3=>by
       rw [p1,H.n_new] at h1
       obtain ⟨p,g1,g2⟩:=s.clear d (by omega) h2 h3
       refine ⟨p,⟨?_,g1.2⟩,g2⟩
       have k1:=g1.1
       have k2:p ≠ q:=fun e=>by rw [e] at g2;omega
       omega,
      dom:=s.dom,size:=s.size,keep:=s.keep,
      own:=fun d y hd hy hB=>by
       rw [p1] at hd
       rcases H.owns_new hd with rfl | hd
       ·rw [p2] at hy;cases hy;omega
       ·exact s.own d y hd hy hB,
      live:=fun d y hd hy hB=>by
       rw [p1] at hd
       rcases H.has_new hd with rfl | hd
       ·rw [p2] at hy;cases hy;omega
       ·exact s.live d y hd hy hB,
      os:=s.os,out:=s.out }
theorem Sim.upto (hK:KOK P K) (F:PF ops b ord) (t:Tr P K ops ord S Hh val) {i0:Inj} {w0:World} {n:Nat} {L:Nat→Prop} {a:Act} {w:World} {i:Inj} {q:Nat} (s:Sim ops b ord S Hh i0 w0 n ds L a w i q)
  {m:Nat} (hqm:q≤m) (hm:m≤ord.length) (hh:∀ p,q≤p→p < m→hvAt ops ord p=false∧∀ j,ord[p]?=some j→opAt ops isFresh j=true→L j):Sim ops b ord S Hh i0 w0 n ds L a w i m:=by
 induction m with
 | zero =>
      have:q=0:=by omega
      subst this;exact s
 | succ m ih =>
  by_cases e:q=m+1
  ·subst e;exact s
  ·have s':=ih (by omega) (by omega) fun p h1 h2=>hh p h1 (by omega)
   exact s'.next hK F t (by omega) (hh m (by omega) (by omega)).1 (hh m (by omega) (by omega)).2
mutual
theorem same_eq:∀ (u v:V),V.same u v=true→u=v
 | .bool a,v,h=>by cases v <;> simp_all [V.same]
 | .int k a,v,h=>by cases v <;> simp_all [V.same]
 | .float k a,v,h=>by cases v <;> simp_all [V.same]
 | .str a,v,h=>by cases v <;> simp_all [V.same]
 | .nilp,v,h=>by cases v <;> simp_all [V.same]
 | .ptr a b,v,h=>by cases v <;> simp_all [V.same]
 | .nils,v,h=>by cases v <;> simp_all [V.same]
 | .sl a b c d,v,h=>by cases v <;> simp_all [V.same]
 | .nilm,v,h=>by cases v <;> simp_all [V.same]
 | .map a,v,h=>by cases v <;> simp_all [V.same]
 | .nilf,v,h=>by cases v <;> simp_all [V.same]
 | .fn f a b,v,h=>by
  cases v <;> first | (simp [V.same] at h;done) | skip
  simp only [V.same,Bool.and_eq_true,decide_eq_true_eq] at h
  rw [h.1.1,sames_eq a _ h.1.2,sames_eq b _ h.2]
 | .nili,v,h=>by cases v <;> simp_all [V.same]
 | .iface t a,v,h=>by
  cases v <;> first | (simp [V.same] at h;done) | skip
  simp only [V.same,Bool.and_eq_true,decide_eq_true_eq] at h
  rw [h.1,same_eq a _ h.2]
 | .agg a,v,h=>by
  cases v <;> first | (simp [V.same] at h;done) | skip
  simp only [V.same] at h
  rw [sames_eq a _ h]
 | .tup a,v,h=>by
  cases v <;> first | (simp [V.same] at h;done) | skip
  simp only [V.same] at h
  rw [sames_eq a _ h]
 | .any,v,h=>by cases v <;> simp_all [V.same]
theorem sames_eq:∀ (u v:List V),V.sames u v=true→u=v
 | [],v,h=>by cases v <;> simp_all [V.sames]
 | a :: x,v,h=>by
  cases v with
  | nil=>simp [V.sames] at h
  | cons b y =>
   simp only [V.sames,Bool.and_eq_true] at h
   rw [same_eq a b h.1,sames_eq x y h.2]
end
theorem Sim.addL (F:PF ops b ord) {i0:Inj} {w0:World} {n:Nat} {L:Nat→Prop} {a a':Act} {w:World} {i:Inj} {q:Nat} (s:Sim ops b ord S Hh i0 w0 n ds L a w i q) {j:Nat} {o:Oper} (hj:ops[j]?=some o)
  (hh:isHeavy o.op=false) (hf:isFresh o.op=false∨(Hh (ord.idxOf j+1)).n=(Hh (ord.idxOf j)).n) (hready:∀ m,m < ops.size→bitAt b j m=true→L m)
  (hA:ActOK i (sL ops S ord.length (fun k=>L k∨k=j)) n ds a'):Sim ops b ord S Hh i0 w0 n ds (fun k=>L k∨k=j) a' w i q:=by
 have hP:∀ p,Pend ops ord Hh (fun k=>L k∨k=j) q p ↔ Pend ops ord Hh L q p:=by
  intro p
  constructor
  ·rintro ⟨h1,h2,⟨k,h3,h4,h5⟩,h6⟩
   refine ⟨h1,h2,⟨k,h3,?_,h5⟩,h6⟩
   rcases h4 with h4 | rfl
   ·exact h4
   ·exfalso
    rcases hf with hf | hf
    ·simp [opAt,hj,hf] at h5
    ·have:=(posOf F h3).1;subst this;exact h6 hf
  ·rintro ⟨h1,h2,⟨k,h3,h4,h5⟩,h6⟩;exact ⟨h1,h2,⟨k,h3,.inl h4,h5⟩,h6⟩
 exact {
     qlt:=s.qlt,
     hq:=fun p k h1 h2 h3=>by
      rw [← s.hq p k h1 h2 h3]
      constructor
      ·rintro (h | rfl)
       ·exact h
       ·simp [hvAt,h3,opAt,hj,hh] at h2
      ·exact .inl,
     D:=fun k m h1 h2 h3=>by
      rcases h1 with h1 | rfl
      ·exact .inl (s.D k m h1 h2 h3)
      ·exact .inl (hready m h2 h3),
     R:=s.R,A:=hA,pend:=fun p hp=>s.pend p ((hP p).1 hp),pair:=fun p p' x x' h1 h2=>s.pair p p' x x' ((hP p).1 h1) ((hP p').1 h2),
     clear:=fun d h1 h2 h3=>by obtain ⟨p,g1,g2⟩:=s.clear d h1 h2 h3;exact ⟨p,(hP p).2 g1,g2⟩,
     dom:=s.dom,size:=s.size,keep:=s.keep,own:=s.own,live:=s.live,os:=s.os,out:=s.out }
def Head (ops:Array Oper) (ord:List Nat) (q:Nat):Prop:=q=0∨∃ p,q=p+1∧hvAt ops ord p=true
theorem guard_wp {K':Oracle} {o:Oper} {j:Nat} (hj:ops[j]?=some o) {s:Nat→V} {i:Inj} {a:Act} {w:World} (hs:SRel i s a.tmps) {next:Act→World→Prop} {Q:Exit→Act→World→Prop}
  (hrun:(guardV ops s o=none∨∃ c want,guardV ops s o=some (c,want)∧wants c want=some true)→o.wp P a w next Q)
  (hskip:(∃ c want,guardV ops s o=some (c,want)∧wants c want=some false)→next (a.put o.dst undef) w)
  (hdec:guardV ops s o=none∨∃ c want r,guardV ops s o=some (c,want)∧wants c want=some r):wpOp P ops Q j next a w:=by
 unfold wpOp
 rw [hj]
 simp only []
 have hgw:=guard_wanted (ops:=ops) (o:=o) hs
 rcases hdec with hg | ⟨c,want,r,hg,hc⟩
 ·rw [if_pos (hgw.1 hg)]
  exact .inl (hrun (.inl hg))
 ·cases r with
  | true =>
   rw [if_pos (hgw.2 _ _ _ hg hc)]
   exact .inl (hrun (.inr ⟨c,want,hg,hc⟩))
  | false =>
   rw [if_neg (by rw [hgw.2 _ _ _ hg hc];simp)]
   exact hskip ⟨c,want,hg,hc⟩
theorem Sim.step (hK:KOK P K) (F:PF ops b ord) (t:Tr P K ops ord S Hh val) {i0:Inj} {w0:World} {n:Nat} (hd:∀ o ∈ ops.toList,∀ x,o.dst=some x→x < n) {L:Nat→Prop} {a:Act} {w:World} {i:Inj} {q:Nat}
  (s:Sim ops b ord S Hh i0 w0 n ds L a w i q) (hQ:Head ops ord q) {j:Nat} {o:Oper} (hj:ops[j]?=some o) (hL:¬ L j) (hready:∀ m,m < ops.size→bitAt b j m=true→L m)
  (hload:isLoad o.op=true→∃ d,o.dst=some d∧lightG P (guardV ops (S ord.length) o) (S ord.length) (Hh q) o.op=some (S ord.length d))
  (next:Act→World→Prop) (Q:Exit→Act→World→Prop)
  (hnext:∀ a' w' i' q',Sim ops b ord S Hh i0 w0 n ds (fun k=>L k∨k=j) a' w' i' q'→Head ops ord q'→next a' w'):wpOp P ops Q j next a w:=by
 have hjlt:=lt_of_get hj
 have hjm:o ∈ ops.toList:=by have:=Array.mem_of_getElem? hj;simpa using this
 obtain ⟨hpos1,hpos2⟩:=F.has j hjlt
 rw [← F.len] at hpos2
 have hag:=sL_agree F t.s s.D hj hL hready
 obtain ⟨hst,hS⟩:=t.at F hj
 have hput:=sL_put F t.s (L:=L) hj
 have hev:=VRel.ev s.A.s
 rcases kind_cases (F.knd j o hj) with ⟨hk,hh,hf⟩ | ⟨hk,hh,hf⟩ | ⟨hh,hf⟩
 ·-- it leaves memory alone
  have hlg:lightG P (guardV ops (sL ops S ord.length L) o) (sL ops S ord.length L) (Hh q) o.op=some (val (ord.idxOf j)):=by
   by_cases hl:isLoad o.op=true
   ·obtain ⟨d,h1,h2⟩:=hload hl
    have hag2:∀ x ∈ looks ops o,sL ops S ord.length L x=S ord.length x:=fun x hx=>by rw [hag x hx,load_agree F t.s hj hl x hx]
    rw [guard_congr hag2]
    simp only [lightG] at h2 ⊢
    rw [light_congr (looks_ops hag2),h2,S_val F t.s hj h1]
   ·have hl:isLoad o.op=false:=by simpa using hl
    rw [light_step_eq hk] at hst
    obtain ⟨v,hv,e⟩:=bd_some hst
    simp only [Option.some.injEq,Prod.mk.injEq,Rv.ret.injEq] at e
    rw [← e.1]
    rw [guard_congr hag]
    simp only [lightG] at hv ⊢
    rw [light_congr (looks_ops hag),light_heap (h':=Hh (ord.idxOf j)) hl]
    exact hv
  have put:∀ u,VRel i (val (ord.idxOf j)) u→next (a.put o.dst u) w:=fun u hu =>
   hnext _ w i q (s.addL F hj hh (.inl hf) hready (by rw [hput];exact s.A.put (fun _ _ h=>h) hu (hd o hjm))) hQ
  have runs:light P (sL ops S ord.length L) (Hh q) o.op=some (val (ord.idxOf j))→o.wp P a w next Q:=by
   intro hl
   obtain ⟨u,h1,h2⟩:=light_sound (P:=P) s.R hev o hl
   unfold Oper.wp
   rw [h1]
   exact put u h2
  cases hg:guardV ops (sL ops S ord.length L) o with
  | none =>
   rw [hg] at hlg
   exact guard_wp (K':=K) hj s.A.s (fun _=>runs hlg) (fun ⟨c,want,h,_⟩=>by rw [hg] at h;cases h) (.inl hg)
  | some g =>
   obtain ⟨c,want⟩:=g
   rw [hg] at hlg
   simp only [lightG] at hlg
   have hb:=gl_some hlg
   rcases hb with ⟨h1,h2⟩ | ⟨h1,h2⟩
   ·exact guard_wp (K':=K) hj s.A.s (fun _=>runs h2) (fun ⟨c,want',h,h'⟩=>by rw [hg] at h;cases h;rw [h1] at h';cases h') (.inr ⟨_,_,_,hg,h1⟩)
   ·exact guard_wp (K':=K) hj s.A.s (fun h=>by
     rcases h with h | ⟨c,want',h,h'⟩
     ·rw [hg] at h;cases h
     ·rw [hg] at h;cases h;rw [h1] at h';cases h') (fun _=>put undef (by rw [h2];exact VRel.und)) (.inr ⟨_,_,_,hg,h1⟩)
 ·-- it makes a block
  rcases fresh_step_cases hk hst with ⟨h1,h2,c,want,h3,h4⟩ | ⟨h1,h2,h3⟩
  ·rw [← guard_congr hag] at h3
   exact guard_wp (K':=K) hj s.A.s (fun h=>by
     rcases h with h | ⟨c',want',h,h'⟩
     ·rw [h3] at h;cases h
     ·rw [h3] at h;cases h;rw [h4] at h';cases h')
    (fun _=>hnext _ w i q (s.addL F hj hh (.inr (by rw [h1])) hready (by rw [hput];exact s.A.put (fun _ _ h=>h) (by rw [h2];exact VRel.und) (hd o hjm))) hQ) (.inr ⟨_,_,_,h3,h4⟩)
  ·rw [← guard_congr hag] at h3
   refine guard_wp (K':=K) hj s.A.s (fun _=>?_) (fun ⟨c,want,h,h'⟩=>by
    rcases h3 with h3 | ⟨c',want',h3,h4⟩
    ·rw [h3] at h;cases h
    ·rw [h3] at h;cases h;rw [h4] at h';cases h') (h3.imp id fun ⟨c,want,h,h'⟩=>⟨c,want,_,h,h'⟩)
   rw [← fresh_congr (looks_ops hag)] at h2
   obtain ⟨u,w',c,e,C,g1,g2,g3,g4,g5,g6,g7,g8⟩:=fresh_run (w:=w) hev o h2
   unfold Oper.wp
   rw [g1]
   show next (a.put o.dst u) w'
   have hqp:q≤ord.idxOf j:=by
    rcases Nat.lt_or_ge (ord.idxOf j) q with hlt | hge
    ·exfalso
     rcases hQ with rfl | ⟨p,rfl,hv⟩
     ·omega
     ·have hplt:p < ord.length:=by have:=s.qlt;omega
      obtain ⟨g,k1,k2,k3⟩:=F.pos p (by rw [← F.len];exact hplt)
      have hLg:=(s.hq p g hplt hv k1).2 (by omega)
      have hne:j ≠ g:=fun e=>hL (e ▸ hLg)
      have hgo:ops[g]?=some ops[g]:=Array.getElem?_eq_getElem k2
      have hgh:isHeavy ops[g].op=true:=by simpa [hvAt,k1,opAt,hgo] using hv
      rcases F.frs j g o _ hne hj hgo hf hgh with hb | hb | hb
      ·have:=(F.bef j g hjlt k2 hb).1;omega
      ·exact hL (s.D g j hLg hjlt hb)
      ·omega
    ·exact hge
   have hmono1:=t.n hK hqp (Nat.le_of_lt hpos2)
   have hmono2:=t.n hK (p:=ord.idxOf j+1) (q:=ord.length) hpos2 (Nat.le_refl _)
   have hi0:i (Hh (ord.idxOf j)).n=none:=by
    cases hix:i (Hh (ord.idxOf j)).n with
    | none=>rfl
    | some x =>
     exfalso
     obtain ⟨p,k1,k2⟩:=s.clear (Hh (ord.idxOf j)).n hmono1 (by omega) (by rw [hix];simp)
     obtain ⟨k3,k4,⟨k,k5,k6,k7⟩,k8⟩:=k1
     have hpj:p ≠ ord.idxOf j:=fun e=>by
      subst e;rw [hpos1] at k5;cases k5;exact hL k6
     rcases Nat.lt_or_ge p (ord.idxOf j) with hlt | hge
     ·have:=t.n hK (p:=p+1) (q:=ord.idxOf j) hlt (by omega)
      have:=t.n hK (p:=p) (q:=p+1) (by omega) (by omega)
      omega
     ·have:=t.n hK (p:=ord.idxOf j+1) (q:=p) (by omega) (by omega)
      omega
   have hle:i.le (i.set (Hh (ord.idxOf j)).n ⟨w.heap.size,0,C.size,false⟩):=Inj.le_set hi0
   have hold:∀ B,B < w.heap.size→w'.heap[B]?=w.heap[B]?:=fun B hB=>by rw [g3,Array.getElem?_push,if_neg (Nat.ne_of_lt hB)]
   have hqn:∀ d,(∃ y,(Hh q).get d=some y)→d ≠ (Hh (ord.idxOf j)).n:=fun d ⟨y,hy⟩=>by have:=H.get_lt hy;omega
   have hpn:∀ p,Pend ops ord Hh L q p→(Hh p).n ≠ (Hh (ord.idxOf j)).n:=fun p hp hh'=>by
    obtain ⟨x,_,_,_,_,p2,_⟩:=s.pend p hp
    rw [hh',hi0] at p2;cases p2
   have hPend:∀ p,Pend ops ord Hh (fun k=>L k∨k=j) q p→Pend ops ord Hh L q p∨p=ord.idxOf j:=by
    rintro p ⟨k1,k2,⟨k,k3,k4,k5⟩,k6⟩
    rcases k4 with k4 | rfl
    ·exact .inl ⟨k1,k2,⟨k,k3,k4,k5⟩,k6⟩
    ·exact .inr (posOf F k3).1.symm
   refine hnext _ w' (i.set (Hh (ord.idxOf j)).n ⟨w.heap.size,0,C.size,false⟩) q (Sim.mk s.qlt ?_ ?_ ?_ ?_ ?_ ?_ ?_ ?_ ?_ ?_ ?_ ?_ ?_ ?_) hQ
   ·intro p k h1' h2' h3'
    rw [← s.hq p k h1' h2' h3']
    constructor
    ·rintro (h | rfl)
     ·exact h
     ·simp [hvAt,h3',opAt,hj,hh] at h2'
    ·exact .inl
   ·intro k m h1' h2' h3'
    rcases h1' with h1' | rfl
    ·exact .inl (s.D k m h1' h2' h3')
    ·exact .inl (hready m h2' h3')
   ·refine ⟨fun d y hdy=>?_,fun d d' y y' p p' h1' h2' h3' h4' h5' h6' h7' h8'=>?_,fun d y hdy=>?_⟩
    ·exact (s.R.blk d y hdy).mono hle fun z hz=>hold _ (s.R.bound _ _ hz)
    ·rw [Inj.set_ne (hqn d ⟨_,h1'⟩)] at h6'
     rw [Inj.set_ne (hqn d' ⟨_,h2'⟩)] at h7'
     exact s.R.inj d d' y y' p p' h1' h2' h3' h4' h5' h6' h7' h8'
    ·have hsz:w'.heap.size=w.heap.size+1:=by rw [g3];simp
     by_cases e':d=(Hh (ord.idxOf j)).n
     ·subst e';rw [Inj.set_same] at hdy;cases hdy;simp [hsz]
     ·rw [Inj.set_ne e'] at hdy;have:=s.R.bound _ _ hdy;omega
   ·rw [hput]
    exact s.A.put hle (g8 _ Inj.set_same) (hd o hjm)
   ·intro p hp
    rcases hPend p hp with hp | rfl
    ·obtain ⟨x,C',c',e',p1,p2,p3,p4,p5,p6,p7,p8,p9,p10⟩:=s.pend p hp
     refine ⟨x,C',c',e',p1,by rw [Inj.set_ne (hpn p hp)];exact p2,p3,p4,by rw [hold _ (s.R.bound _ _ p2)];exact p5,p6,p7,fun k v hk'=>?_,p9,fun d y hd' hy=>?_⟩
     ·obtain ⟨k1,u',k2,k3⟩:=p8 k v hk';exact ⟨k1,u',k2,k3.mono hle⟩
     ·obtain ⟨z,hz,hz'⟩:=hd'
      rw [Inj.set_ne (hqn d ⟨z,hz⟩)] at hy
      exact p10 d y ⟨z,hz,hz'⟩ hy
    ·refine ⟨_,C,c,e,g2,Inj.set_same,rfl,rfl,by rw [g3];simp,rfl,g6,fun k v hk'=>?_,s.size,fun d y hd' hy=>?_⟩
     ·obtain ⟨k1,u',k2,k3⟩:=g7 k v hk';exact ⟨k1,u',k2,k3.mono hle⟩
     ·obtain ⟨z,hz,hz'⟩:=hd'
      rw [Inj.set_ne (hqn d ⟨z,hz⟩)] at hy
      have:=s.R.bound _ _ hy
      show y.B ≠ w.heap.size
      omega
   ·intro p p' x x' hp hp' hne hx hx'
    rcases hPend p hp with hp | rfl
    ·rw [Inj.set_ne (hpn p hp)] at hx
     rcases hPend p' hp' with hp' | rfl
     ·rw [Inj.set_ne (hpn p' hp')] at hx'
      exact s.pair p p' x x' hp hp' hne hx hx'
     ·rw [Inj.set_same] at hx';cases hx'
      have:=s.R.bound _ _ hx
      show x.B ≠ w.heap.size
      omega
    ·rw [Inj.set_same] at hx;cases hx
     rcases hPend p' hp' with hp' | rfl
     ·rw [Inj.set_ne (hpn p' hp')] at hx'
      have:=s.R.bound _ _ hx'
      show w.heap.size ≠ x'.B
      omega
     ·exact absurd rfl hne
   ·intro d h1' h2' h3'
    by_cases e':d=(Hh (ord.idxOf j)).n
    ·exact ⟨ord.idxOf j,⟨hqp,hpos2,⟨j,hpos1,.inr rfl,by simpa [opAt,hj] using hf⟩,by omega⟩,e'⟩
    ·rw [Inj.set_ne e'] at h3'
     obtain ⟨p,⟨k1,k2,⟨k,k3,k4,k5⟩,k6⟩,k7⟩:=s.clear d h1' h2' h3'
     exact ⟨p,⟨k1,k2,⟨k,k3,.inl k4,k5⟩,k6⟩,k7⟩
   ·intro d hdd
    have h0:=t.n hK (p:=0) (q:=ord.idxOf j) (Nat.zero_le _) (Nat.le_of_lt hpos2)
    rw [Inj.set_ne (by omega)]
    exact s.dom d hdd
   ·have hsz:w'.heap.size=w.heap.size+1:=by rw [g3];simp
    have:=s.size;omega
   ·intro B hB hno
    rw [hold B (by have:=s.size;omega)]
    exact s.keep B hB hno
   ·intro d x hd' hx hB
    obtain ⟨z,hz,hz'⟩:=hd'
    rw [Inj.set_ne (hqn d ⟨z,hz⟩)] at hx
    exact s.own d x ⟨z,hz,hz'⟩ hx hB
   ·intro d x hd' hx hB
    obtain ⟨z,hz,hz'⟩:=hd'
    rw [Inj.set_ne (hqn d ⟨z,hz⟩)] at hx
    exact s.live d x ⟨z,hz,hz'⟩ hx hB
   ·exact ⟨g4.1.trans s.os.1,g4.2.trans s.os.2⟩
   ·rw [g5,s.out]
 ·-- it writes,or calls
  have hvp:hvAt ops ord (ord.idxOf j)=true:=by simp [hvAt,hpos1,opAt,hj,hh]
  have hqp:q≤ord.idxOf j:=by
   rcases Nat.lt_or_ge (ord.idxOf j) q with hlt | hge
   ·exact absurd ((s.hq _ j hpos2 hvp hpos1).2 hlt) hL
   ·exact hge
  have s':Sim ops b ord S Hh i0 w0 n ds L a w i (ord.idxOf j):=by
   refine s.upto hK F t hqp (Nat.le_of_lt hpos2) fun p h1 h2=>?_
   have hplt:p < ord.length:=by omega
   obtain ⟨g,k1,k2,k3⟩:=F.pos p (by rw [← F.len];exact hplt)
   have hgo:ops[g]?=some ops[g]:=Array.getElem?_eq_getElem k2
   have hne:g ≠ j:=fun e=>by subst e;omega
   constructor
   ·cases hv:hvAt ops ord p with
    | false=>rfl
    | true =>
     exfalso
     have hgh:isHeavy ops[g].op=true:=by simpa [hvAt,k1,opAt,hgo] using hv
     have hLg:L g:=by
      rcases F.hvy g j _ o hne hgo hj hgh hh with hb | hb
      ·have:=(F.bef g j k2 hjlt hb).1;omega
      ·exact hready g k2 hb
     have:=(s.hq p g hplt hv k1).1 hLg
     omega
   ·intro g' hg' hfr
    rw [k1] at hg'
    have e:g=g':=Option.some.inj hg'
    subst e
    have hgf:isFresh ops[g].op=true:=by simpa [opAt,hgo] using hfr
    rcases F.frs g j _ o hne hgo hj hgf hh with hb | hb | hb
    ·have:=(F.bef g j k2 hjlt hb).1;omega
    ·exact hready g k2 hb
    ·omega
  have hstL:stepR P K ops o (sL ops S ord.length L) (Hh (ord.idxOf j))=some (.ret (val (ord.idxOf j)),Hh (ord.idxOf j+1)):=by rw [step_congr hag];exact hst
  have hmono2:=t.n hK (p:=ord.idxOf j+1) (q:=ord.length) hpos2 (Nat.le_refl _)
  have hmono0:=t.n hK (p:=0) (q:=ord.idxOf j) (Nat.zero_le _) (Nat.le_of_lt hpos2)
  have hcl:i.clear (Hh (ord.idxOf j)).n (Hh (ord.idxOf j+1)).n:=by
   intro d h1 h2
   cases hid:i d with
   | none=>rfl
   | some x =>
    exfalso
    obtain ⟨p,⟨k1,k2,⟨k,k3,k4,k5⟩,k6⟩,k7⟩:=s'.clear d h1 (by omega) (by rw [hid];simp)
    have hpj:p ≠ ord.idxOf j:=fun e=>by
     subst e;rw [hpos1] at k3;cases k3;exact hL k4
    have:=t.n hK (p:=ord.idxOf j+1) (q:=p) (by omega) (by omega)
    omega
  -- behind it
  have behind:∀ u i' w',HRel i' (Hh (ord.idxOf j+1)) w'→Fr i (Hh (ord.idxOf j)) w i' (Hh (ord.idxOf j+1)) w'→VRel i' (val (ord.idxOf j)) u→next (a.put o.dst u) w':=by
   intro u i' w' hr hfr hu
   have hle:=hfr.le hcl
   have hPend:∀ p,Pend ops ord Hh (fun k=>L k∨k=j) (ord.idxOf j+1) p→Pend ops ord Hh L (ord.idxOf j) p:=by
    rintro p ⟨k1,k2,⟨k,k3,k4,k5⟩,k6⟩
    refine ⟨by omega,k2,⟨k,k3,?_,k5⟩,k6⟩
    rcases k4 with k4 | rfl
    ·exact k4
    ·simp [opAt,hj,hf] at k5
   have hpn:∀ p,Pend ops ord Hh (fun k=>L k∨k=j) (ord.idxOf j+1) p→i' (Hh p).n=i (Hh p).n:=by
    rintro p ⟨k1,k2,_⟩
    exact hfr.dom _ (.inr (t.n hK k1 (Nat.le_of_lt k2)))
   refine hnext _ w' i' (ord.idxOf j+1) (Sim.mk hpos2 ?_ ?_ hr ?_ ?_ ?_ ?_ ?_ ?_ ?_ ?_ ?_ ?_ ?_) (.inr ⟨_,rfl,hvp⟩)
   ·intro p k h1 h2 h3
    constructor
    ·rintro (h | rfl)
     ·have:=(s'.hq p k h1 h2 h3).1 h;omega
     ·have:=(posOf F h3).1;omega
    ·intro h
     by_cases e:p=ord.idxOf j
     ·subst e;rw [hpos1] at h3;cases h3;exact .inr rfl
     ·exact .inl ((s'.hq p k h1 h2 h3).2 (by omega))
   ·intro k m h1 h2 h3
    rcases h1 with h1 | rfl
    ·exact .inl (s.D k m h1 h2 h3)
    ·exact .inl (hready m h2 h3)
   ·rw [hput]
    exact s.A.put hle hu (hd o hjm)
   ·intro p hp
    obtain ⟨x,C,c,e,p1,p2,p3,p4,p5,p6,p7,p8,p9,p10⟩:=s'.pend p (hPend p hp)
    have hxB:=s'.R.bound _ _ p2
    refine ⟨x,C,c,e,p1,by rw [hpn p hp];exact p2,p3,p4,?_,p6,p7,fun k v hk'=>?_,p9,fun d y hd' hy hh'=>?_⟩
    ·rw [hfr.keep x.B hxB fun d y hdo hy=>p10 d y (by obtain ⟨z,z1,z2⟩:=hdo;exact ⟨z,z1,by cases z <;> simp_all [Blk.own,Blk.live]⟩) hy]
     exact p5
    ·obtain ⟨k1,u',k2,k3⟩:=p8 k v hk';exact ⟨k1,u',k2,k3.mono hle⟩
    ·obtain ⟨d',y',l1,l2,l3⟩:=hfr.live d y hd' hy (by omega)
     exact p10 d' y' l1 l2 (by omega)
   ·intro p p' x x' hp hp' hne hx hx'
    rw [hpn p hp] at hx
    rw [hpn p' hp'] at hx'
    exact s'.pair p p' x x' (hPend p hp) (hPend p' hp') hne hx hx'
   ·intro d h1 h2 h3
    rw [hfr.dom d (.inr h1)] at h3
    have:=hfr.n
    obtain ⟨p,⟨k1,k2,⟨k,k3,k4,k5⟩,k6⟩,k7⟩:=s'.clear d (by omega) h2 h3
    have hpj:p ≠ ord.idxOf j:=fun e=>by
     subst e;rw [hpos1] at k3;cases k3;exact hL k4
    exact ⟨p,⟨by omega,k2,⟨k,k3,.inl k4,k5⟩,k6⟩,k7⟩
   ·intro d hdd
    have:=hfr.n
    rw [hfr.dom d (by omega)]
    exact s.dom d hdd
   ·have:=s.size;have:=hfr.size;omega
   ·intro B hB hno
    rw [hfr.keep B (by have:=s.size;omega) fun d x hdo hx hxB=>?_]
    ·exact s.keep B hB hno
    ·obtain ⟨c,y,l1,l2,l3⟩:=s'.own d x hdo hx (by omega)
     exact hno c y l1 l2 (l3.trans hxB)
   ·intro d x hdo hx hB
    obtain ⟨d',y',l1,l2,l3⟩:=hfr.own d x hdo hx (by have:=s.size;omega)
    obtain ⟨c,y,m1,m2,m3⟩:=s'.own d' y' l1 l2 (by omega)
    exact ⟨c,y,m1,m2,m3.trans l3⟩
   ·intro d x hdo hx hB
    obtain ⟨d',y',l1,l2,l3⟩:=hfr.live d x hdo hx (by have:=s.size;omega)
    obtain ⟨c,y,m1,m2,m3⟩:=s'.live d' y' l1 l2 (by omega)
    exact ⟨c,y,m1,m2,m3.trans l3⟩
   ·exact ⟨hfr.os.1.trans s.os.1,hfr.os.2.trans s.os.2⟩
   ·rw [hfr.out,s.out]
  have runs:bareR P K o (sL ops S ord.length L) (Hh (ord.idxOf j))=some (.ret (val (ord.idxOf j)),Hh (ord.idxOf j+1))→o.wp P a w next Q:=by
   intro hb
   refine bare_sound hK s'.R s.A.s hb hcl next Q ?_ ?_
   ·intro v u i' w' hv g1 g2 g3
    cases hv
    exact behind u i' w' g1 g2 g3
   ·intro v u i' w' hv;cases hv
  rcases step_guard hstL with ⟨hg,hb⟩ | ⟨c,want,hg,⟨h1,hb⟩ | ⟨h1,hb⟩⟩
  ·exact guard_wp (K':=K) hj s.A.s (fun _=>runs hb) (fun ⟨c,want,h,_⟩=>by rw [hg] at h;cases h) (.inl hg)
  ·exact guard_wp (K':=K) hj s.A.s (fun _=>runs hb) (fun ⟨c,want',h,h'⟩=>by rw [hg] at h;cases h;rw [h1] at h';cases h') (.inr ⟨_,_,_,hg,h1⟩)
  ·have hb1:val (ord.idxOf j)=.und∧Hh (ord.idxOf j+1)=Hh (ord.idxOf j):=by
    simp only [Prod.mk.injEq,Rv.ret.injEq] at hb;exact hb
   exact guard_wp (K':=K) hj s.A.s (fun h=>by
     rcases h with h | ⟨c,want',h,h'⟩
     ·rw [hg] at h;cases h
     ·rw [hg] at h;cases h;rw [h1] at h';cases h')
    (fun _=>behind undef i w (by rw [hb1.2];exact s'.R) (by rw [hb1.2];exact Fr.refl _ _ _) (by rw [hb1.1];exact VRel.und)) (.inr ⟨_,_,_,hg,h1⟩)
theorem filter_index {f:Nat→Bool} {N p:Nat} (hp:p < N) (hf:f p=true):((List.range N).filter f)[((List.range p).filter f).length]?=some p:=by
 have:List.range N=List.range p ++ (p :: (List.range' (p+1) (N - p - 1))):=by
  rw [List.range_eq_range',List.range_eq_range']
  have h1:N=p+(1+(N - p - 1)):=by omega
  conv=>lhs;rw [h1]
  rw [← List.range'_append_1,← List.range'_append_1]
  simp [List.range'_one]
 rw [this,List.filter_append,List.filter_cons,if_pos hf]
 simp
theorem filter_take {α:Type} {f g:α→Bool}:∀ (l:List α) (q:Nat),(∀ p x,l[p]?=some x→f x=true→(g x=true ↔ p < q))→(l.filter fun x=>f x && g x).length=((l.take q).filter f).length
 | [],q,_=>by simp
 | x :: l,q,h=>by
  cases q with
  | zero =>
   simp only [List.take_zero,List.filter_nil,List.length_nil]
   rw [List.length_eq_zero_iff,List.filter_eq_nil_iff]
   intro y hy
   obtain ⟨p,hp⟩:=List.getElem?_of_mem hy
   have:=h p y hp
   cases hf:f y <;> simp_all
  | succ q =>
   have ih:=filter_take (f:=f) (g:=g) l q fun p y hp hf=>by
    have:=h (p+1) y (by simpa using hp) hf
    exact this.trans Nat.succ_lt_succ_iff
   have h0:=h 0 x rfl
   simp only [List.take_succ_cons,List.filter_cons]
   cases hf:f x with
   | false=>simp [ih]
   | true=>simp [(h0 hf).2 (by omega),ih]
theorem filter_le {α:Type} {f g:α→Bool}:∀ (l:List α),(∀ x ∈ l,f x=true→g x=true)→(l.filter f).length≤(l.filter g).length
 | [],_=>by simp
 | x :: l,h=>by
  have ih:=filter_le (f:=f) (g:=g) l fun y hy=>h y (by simp [hy])
  simp only [List.filter_cons]
  cases hf:f x with
  | false=>cases g x <;> simp <;> omega
  | true=>simp [h x (by simp) hf];omega
theorem range_filter_take (ord:List Nat) (q:Nat) (hq:q≤ord.length):((List.range q).filter (hvAt ops ord)).length=((ord.take q).filter (opAt ops isHeavy)).length:=by
 induction q with
 | zero=>simp
 | succ q ih =>
  rw [List.range_succ,List.filter_append,List.length_append,ih (by omega)]
  have hlt:q < ord.length:=by omega
  rw [List.take_add_one,List.filter_append,List.length_append]
  congr 1
  simp only [List.getElem?_eq_getElem hlt,Option.toList_some]
  simp only [List.filter_cons,hvAt,List.getElem?_eq_getElem hlt,List.filter_nil]
  split <;> rfl
theorem cks_look {all:Array Oper} {s:Nat→V} {hs:List H}:∀ {l:List (Nat × List Nat)} {k:Out} {st:St},cks P all s hs l k=some st→∀ j ks,(j,ks) ∈ l→∀ o,all[j]?=some o →
  ∃ d,o.dst=some d∧∀ m ∈ ks,∃ h,hs[m]?=some h∧lightG P (guardV all s o) s h o.op=some (s d):=by
 intro l
 induction l with
 | nil=>intro k st e j ks hm;simp at hm
 | cons p l ih =>
  obtain ⟨j,ks⟩:=p
  intro k st e j' ks' hm o' ho'
  simp only [cks] at e
  split at e
  ·cases e
  ·split at e
   ·cases e
   ·rename_i _ o ho _ d hd
    have key:∀ (ks:List Nat) (m:Out),ks.foldr (fun n k=>match hs[n]? with
      | some h=>ck (lightG P (guardV all s o) s h o.op) (s d) k
      | none=>none) m=some st→m=some st∧∀ n ∈ ks,∃ h,hs[n]?=some h∧lightG P (guardV all s o) s h o.op=some (s d):=by
     intro ks
     induction ks with
     | nil=>intro m e;exact ⟨e,fun n hn=>by simp at hn⟩
     | cons q ks ihk =>
      intro m e
      simp only [List.foldr_cons] at e
      split at e
      ·rename_i h hh
       unfold ck at e
       split at e
       ·rename_i u hu
        split at e
        ·rename_i hsame
         obtain ⟨k1,k2⟩:=ihk _ e
         refine ⟨k1,fun n hn=>?_⟩
         rcases List.mem_cons.1 hn with rfl | hn
         ·exact ⟨h,hh,by rw [hu,same_eq _ _ hsame]⟩
         ·exact k2 n hn
        ·cases e
       ·cases e
      ·cases e
    obtain ⟨k1,k2⟩:=key ks _ e
    rcases List.mem_cons.1 hm with hm | hm
    ·cases hm
     rw [ho'] at ho;cases ho
     exact ⟨d,hd,k2⟩
    ·exact ih k1 j' ks' hm o' ho'
end sim
theorem panAt_some {ops:Array Oper} {b:Array Nat} {ord:List Nat} {j:Nat} (h:panAt ops b ord=some j):(∃ o,ops[j]?=some o∧o.guard=none)∧∀ k ∈ ord,k=j∨bitAt b k j=true∨opAt ops isLight k=true:=by
 unfold panAt at h
 cases hf:ord.find? (opAt ops isHeavy) with
 | none=>rw [hf] at h;cases h
 | some j' =>
  rw [hf] at h
  dsimp only at h
  cases ho:ops[j']? with
  | none=>rw [ho] at h;simp at h
  | some o =>
   rw [ho] at h
   simp only [Option.ite_none_right_eq_some,Option.some.injEq,Bool.and_eq_true,List.all_eq_true,Bool.or_eq_true,beq_iff_eq] at h
   obtain ⟨⟨⟨h1,h2⟩,h3⟩,rfl⟩:=h
   refine ⟨⟨o,ho,by simpa using h2⟩,fun k hk=>?_⟩
   rcases h3 k hk with (h3 | h3) | h3
   ·exact .inl h3
   ·exact .inr (.inl h3)
   ·exact .inr (.inr h3)
theorem pan_ok (hm:P.follows .mixedOrders=true) {K:Oracle} (hK:KOK P K) {keep:List Nat} {id:Nat} {ops:Array Oper} {n:Nat} {ds:List Deferred} (hd:∀ o ∈ ops.toList,∀ t,o.dst=some t→t < n) {e:E} {h h':H} {i:Inj} {a:Act} {w:World} {v:V}
  (hr:HRel i h w) (ha:ActOK i (e.s keep) n ds a) (hc:i.clear h.n h'.n) {b:Array Nat} {ord:List Nat} (F:PF ops b ord) {j:Nat} {S:Nat→Nat→V} {val:Nat→V} {o:Oper} {q:Nat} (hp:panAt ops b ord=some j) (h0:S 0=e.s keep)
  (t:PTr P ops (fun i=>bitAt b i j) j h ord S val) (ho:ops[j]?=some o) (hq:ord[q]?=some j) (hst:stepR P K ops o (S q) h=some (.pan v,h')) :
  (Code.region id ops true).wp P (Post i h w keep n ds ⟨.pn v,fgE keep (dsts ops.toList) e,h'⟩) a w:=by
 obtain ⟨⟨o',ho',hg⟩,hcl⟩:=panAt_some hp
 rw [ho] at ho';cases ho'
 have ts:TrS ops ord S val:=⟨fun p hp=>by obtain ⟨i,o,h1,h2,h3,_⟩:=t.step p hp;exact ⟨i,o,h1,h2,h3⟩⟩
 have hqp:ord.idxOf j=q:=(posOf F hq).1
 have hjlt:=lt_of_get ho
 have hgn:∀ s,guardV ops s o=none:=fun s=>by unfold guardV;rw [hg]
 refine wp_region_any hm ?_
 have main:∀ (fuel:Nat) (listed:Array Bool) (a':Act),listed.size=ops.size→(∀ k m,listed.getD k false=true→m < ops.size→bitAt b k m=true→listed.getD m false=true)→(∀ k,listed.getD k false=true→k ≠ j∧bitAt b k j=false) →
   ActOK i (sL ops S ord.length (fun k=>listed.getD k false=true)) n ds a'→((List.range ops.size).filter fun k=>!listed.getD k false).length≤fuel →
   wpAny P .any ops (Post i h w keep n ds ⟨.pn v,fgE keep (dsts ops.toList) e,h'⟩) fuel listed a' { w with drawn:=w.drawn+1 }:=by
  have fin:∀ (listed:Array Bool),listed.size=ops.size→(∀ k,listed.getD k false=true→k ≠ j∧bitAt b k j=false)→Region.ready .any ops listed=[]→False:=by
   intro listed hsz nd hready
   have all:∀ (p k:Nat),ord[p]?=some k→listed.getD k false=true:=by
    intro p
    induction p using Nat.strongRecOn with
    | _ p ih =>
     intro k hk
     obtain ⟨hpk,hklt⟩:=posOf F hk
     cases hl:listed.getD k false with
     | true=>rfl
     | false =>
      exfalso
      have hmem:k ∈ Region.ready .any ops listed:=by
       rw [mem_ready]
       refine ⟨?_,ops[k],Array.getElem?_eq_getElem hklt,fun e he hb=>?_⟩
       ·have:k < listed.size:=by omega
        simpa [Array.getD,this] using hl
       ·obtain ⟨h1,h2⟩:=F.edge k _ e (Array.getElem?_eq_getElem hklt) he hb
        have:=(F.bef k e.on hklt h2 h1).1
        obtain ⟨g1,g2⟩:=F.has e.on h2
        exact ih (ord.idxOf e.on) (by omega) e.on g1
      rw [hready] at hmem
      simp at hmem
   exact (nd j (all q j hq)).1 rfl
  intro fuel
  induction fuel with
  | zero =>
   intro listed a' hsz D nd hA hcnt
   have hnil:(List.range ops.size).filter (fun k=>!listed.getD k false)=[]:=List.eq_nil_of_length_eq_zero (by omega)
   exfalso
   rw [List.filter_eq_nil_iff] at hnil
   have:=hnil j (by simpa using hjlt)
   simp only [Bool.not_eq_true',Bool.not_eq_false] at this
   exact (nd j this).1 rfl
  | succ fuel ih =>
   intro listed a' hsz D nd hA hcnt
   refine ⟨fun hready=>(fin listed hsz nd hready).elim,fun k hmem=>?_⟩
   rw [mem_ready] at hmem
   obtain ⟨h1,ok,hk,hedge⟩:=hmem
   have hklt:=lt_of_get hk
   have hkl:k < listed.size:=by omega
   have hnl:listed.getD k false=false:=by simpa [Array.getD,hkl] using h1
   have hL:¬ listed.getD k false=true:=by rw [hnl];simp
   have hrdy:∀ m,m < ops.size→bitAt b k m=true→listed.getD m false=true:=by
    intro m hmlt hb
    obtain ⟨e',he',hb',h3⟩:=(F.bef k m hklt hmlt hb).2 ok hk
    have h4:=hedge e' he' hb'
    rcases h3 with h3 | h3
    ·rw [← h3];exact h4
    ·exact D e'.on m h4 hmlt h3
   have hag:=sL_agree F ts D hk hL hrdy
   have hr':HRel i h { w with drawn:=w.drawn+1 }:=hr.heap rfl
   by_cases hkj:k=j
   ·subst hkj
    rw [ho] at hk;cases hk
    have hb:bareR P K o (sL ops S ord.length (fun k=>listed.getD k false=true)) h=some (.pan v,h'):=by
     rw [bare_congr (looks_ops hag),hqp]
     rcases step_guard hst with ⟨_,hb⟩ | ⟨_,_,hg',_⟩
     ·exact hb
     ·rw [hgn] at hg';cases hg'
    refine guard_wp (K':=K) ho hA.s (fun _=>?_) (fun ⟨c,want,h,_⟩=>by rw [hgn] at h;cases h) (.inl (hgn _))
    refine bare_sound hK hr' hA.s hb hc _ _ (fun _ _ _ _ h=>by cases h) ?_
    intro v' u i' w' hv g1 g2 g3
    cases hv
    refine ⟨i',g1,⟨g2.n,g2.size,g2.keep,g2.own,g2.live,g2.dom,g2.os,g2.out⟩,⟨?_,hA.n,hA.d⟩,⟨u,rfl,g3⟩⟩
    intro x
    rcases fgE_s keep (dsts ops.toList) e x with e1 | ⟨e1,e2⟩
    ·show VRel i' ((fgE keep (dsts ops.toList) e).s keep x) _
     rw [e1];exact .any _
    ·show VRel i' ((fgE keep (dsts ops.toList) e).s keep x) _
     rw [e2]
     have hsx:sL ops S ord.length (fun k=>listed.getD k false=true) x=e.s keep x:=by
      unfold sL
      rw [if_neg,h0]
      rintro ⟨k',p',_,h2,h3⟩
      have:x ∈ dsts ops.toList:=List.mem_filterMap.2 ⟨p',by have:=Array.mem_of_getElem? h2;simpa using this,h3⟩
      have e1':(dsts ops.toList).contains x=false:=e1
      rw [List.contains_eq_mem] at e1'
      simp [this] at e1'
     rw [← hsx]
     exact (hA.s.mono (g2.le hc)) x
   ·have hbk:bitAt b k j=false:=by
     cases hb:bitAt b k j with
     | false=>rfl
     | true=>exact absurd rfl (nd j (hrdy j hjlt hb)).1
    have hkl2:opAt ops isLight k=true:=by
     have hmem:k ∈ ord:=List.mem_of_getElem? (F.has k hklt).1
     rcases hcl k hmem with h3 | h3 | h3
     ·exact absurd h3 hkj
     ·rw [hbk] at h3;cases h3
     ·exact h3
    have hput:=sL_put F ts (L:=fun k=>listed.getD k false=true) hk
    have hlg:lightG P (guardV ops (sL ops S ord.length (fun k=>listed.getD k false=true)) ok) (sL ops S ord.length (fun k=>listed.getD k false=true)) h ok.op=some (val (ord.idxOf k)):=by
     obtain ⟨g1,g2⟩:=F.has k hklt
     obtain ⟨k',o',e1,e2,_,e4⟩:=t.step (ord.idxOf k) (by rw [F.len];exact g2)
     rw [g1] at e1;cases e1
     rw [hk] at e2;cases e2
     have e5:=e4 hkj hbk
     rw [guard_congr hag]
     simp only [lightG] at e5 ⊢
     rw [light_congr (looks_ops hag)]
     exact e5
    have hev:=VRel.ev hA.s
    have hd':∀ t,ok.dst=some t→t < n:=hd ok (by have:=Array.mem_of_getElem? hk;simpa using this)
    have put:∀ u,VRel i (val (ord.idxOf k)) u→wpAny P .any ops (Post i h w keep n ds ⟨.pn v,fgE keep (dsts ops.toList) e,h'⟩) fuel (listed.setIfInBounds k true) (a'.put ok.dst u) { w with drawn:=w.drawn+1 }:=by
     intro u hu
     have hL':(fun x=>listed.getD x false=true∨x=k)=fun x=>(listed.setIfInBounds k true).getD x false=true:=by
      funext x
      by_cases e':x=k
      ·subst e'
       simp [Array.getD,hkl]
      ·rw [getD_set_ne false (Ne.symm e')]
       simp [e']
     have hmem':∀ x,(listed.setIfInBounds k true).getD x false=true ↔ listed.getD x false=true∨x=k:=fun x=>by rw [← congrFun hL' x]
     refine ih _ _ (by simpa using hsz) ?_ ?_ ?_ ?_
     ·intro x m hx hm hb
      rw [hmem'] at hx ⊢
      rcases hx with hx | rfl
      ·exact .inl (D x m hx hm hb)
      ·exact .inl (hrdy m hm hb)
     ·intro x hx
      rw [hmem'] at hx
      rcases hx with hx | rfl
      ·exact nd x hx
      ·exact ⟨hkj,hbk⟩
     ·rw [← hL',hput]
      exact hA.put (fun _ _ h=>h) hu hd'
     ·have:((List.range ops.size).filter fun x=>!(listed.setIfInBounds k true).getD x false).length < ((List.range ops.size).filter fun x=>!listed.getD x false).length:=by
       have key:∀ (l:List Nat),k ∈ l→(l.filter fun x=>!(listed.setIfInBounds k true).getD x false).length < (l.filter fun x=>!listed.getD x false).length:=by
        intro l
        induction l with
        | nil=>intro hm;simp at hm
        | cons x l ihl =>
         intro hm
         have hle:(l.filter fun x=>!(listed.setIfInBounds k true).getD x false).length≤(l.filter fun x=>!listed.getD x false).length:=by
          refine filter_le l fun y _ hy=>?_
          by_cases e':y=k
          ·subst e';simp [hnl]
          ·rw [getD_set_ne false (Ne.symm e')] at hy;exact hy
         simp only [List.filter_cons]
         by_cases e':x=k
         ·subst e'
          have h5:(listed.setIfInBounds x true).getD x false=true:=by simp [Array.getD,hkl]
          rw [h5,hnl]
          simp only [Bool.not_true,Bool.not_false,Bool.false_eq_true,if_false,if_true,List.length_cons]
          omega
         ·rw [getD_set_ne false (Ne.symm e')]
          have:=ihl (by rcases List.mem_cons.1 hm with hm | hm;exact absurd hm.symm e';exact hm)
          split
          ·simp only [List.length_cons];omega
          ·exact this
       exact key _ (by simpa using hklt)
      omega
    have runs:light P (sL ops S ord.length (fun k=>listed.getD k false=true)) h ok.op=some (val (ord.idxOf k))→ok.wp P a' { w with drawn:=w.drawn+1 } (fun a' w'=>wpAny P .any ops (Post i h w keep n ds ⟨.pn v,fgE keep (dsts ops.toList) e,h'⟩) fuel (listed.setIfInBounds k true) a' w') (Post i h w keep n ds ⟨.pn v,fgE keep (dsts ops.toList) e,h'⟩):=by
     intro hl
     obtain ⟨u,g1,g2⟩:=light_sound (P:=P) hr' hev ok hl
     unfold Oper.wp
     rw [g1]
     exact put u g2
    cases hgk:guardV ops (sL ops S ord.length (fun k=>listed.getD k false=true)) ok with
    | none =>
     rw [hgk] at hlg
     exact guard_wp (K':=K) hk hA.s (fun _=>runs hlg) (fun ⟨c,want,h,_⟩=>by rw [hgk] at h;cases h) (.inl hgk)
    | some g =>
     obtain ⟨c,want⟩:=g
     rw [hgk] at hlg
     simp only [lightG] at hlg
     rcases gl_some hlg with ⟨g1,g2⟩ | ⟨g1,g2⟩
     ·exact guard_wp (K':=K) hk hA.s (fun _=>runs g2) (fun ⟨c,want',h,h'⟩=>by rw [hgk] at h;cases h;rw [g1] at h';cases h') (.inr ⟨_,_,_,hgk,g1⟩)
     ·exact guard_wp (K':=K) hk hA.s (fun h=>by
       rcases h with h | ⟨c,want',h,h'⟩
       ·rw [hgk] at h;cases h
       ·rw [hgk] at h;cases h;rw [g1] at h';cases h') (fun _=>put undef (by rw [g2];exact VRel.und)) (.inr ⟨_,_,_,hgk,g1⟩)
 have hl0:∀ k,(Array.replicate ops.size false).getD k false=true→False:=by
  intro k hk
  by_cases hkl:k < ops.size <;> simp [Array.getD,hkl] at hk
 refine main ops.size _ a (by simp) (fun k m hk=>(hl0 _ hk).elim) (fun k hk=>(hl0 _ hk).elim) ?_ ?_
 ·have hs0:sL ops S ord.length (fun k=>(Array.replicate ops.size false).getD k false=true)=e.s keep:=by
   funext x
   unfold sL
   rw [if_neg,h0]
   rintro ⟨k,p,h1,h2,_⟩
   exact hl0 _ h1
  rw [hs0];exact ha
 ·have:=List.length_filter_le (fun k=>!(Array.replicate ops.size false).getD k false) (List.range ops.size)
  simpa using this
theorem draw_ok (hm:P.follows .mixedOrders=true):DrawOK P:=by
 intro K hK keep id ops n ds hd e h st i a w hs hr ha hc
 have hn:=rgn_n hK hs
 refine ⟨hn,?_⟩
 simp only [rgn,if_true] at hs
 split at hs
 ·cases hs
 ·rename_i p hp
  unfold plan at hp
  simp only [] at hp
  split at hp
  ·rename_i hok
   cases hp
   have F:=planOk_facts hok
   rcases panW_cases hs with hs | ⟨j,S,val,o,v,h',hj,⟨h0,t⟩,ho,⟨q,hq,_,hst⟩,rfl⟩
   rotate_left
   ·exact pan_ok hm hK hd hr ha hc F hj h0 t ho hq hst
   generalize Region.before ops=b at *
   generalize planOrd ops b=ord at *
   obtain ⟨S,Hh,val,e1,e2,t,e4⟩:=trace_of _ _ _ _ hs
   have hst:=cks_some e4
   cases hst
   simp only [List.reverse_append,List.reverse_reverse,List.reverse_cons,List.reverse_nil,List.nil_append,List.singleton_append] at e4
   have look:=cks_look e4
   refine wp_region_any hm ?_
   -- all orders
   have main:∀ (fuel:Nat) (listed:Array Bool) (a':Act) (w':World) (i':Inj) (q:Nat),listed.size=ops.size→Sim ops b ord S Hh i { w with drawn:=w.drawn+1 } n ds (fun k=>listed.getD k false=true) a' w' i' q→Head ops ord q →
     ((List.range ops.size).filter fun k=>!listed.getD k false).length≤fuel →
     wpAny P .any ops (Post i h w keep n ds ⟨.nm,keepE keep (lastD ops.toList) (S ord.length),Hh ord.length⟩) fuel listed a' w':=by
    -- the end
    have fin:∀ (listed:Array Bool) (a':Act) (w':World) (i':Inj) (q:Nat),listed.size=ops.size→Sim ops b ord S Hh i { w with drawn:=w.drawn+1 } n ds (fun k=>listed.getD k false=true) a' w' i' q →
      Region.ready .any ops listed=[]→Post i h w keep n ds ⟨.nm,keepE keep (lastD ops.toList) (S ord.length),Hh ord.length⟩ .normal a' w':=by
     intro listed a' w' i' q hsz s hready
     have all:∀ (p j:Nat),ord[p]?=some j→listed.getD j false=true:=by
      intro p
      induction p using Nat.strongRecOn with
      | _ p ih =>
       intro j hj
       obtain ⟨hpj,hjlt⟩:=posOf F hj
       cases hl:listed.getD j false with
       | true=>rfl
       | false =>
        exfalso
        have hmem:j ∈ Region.ready .any ops listed:=by
         rw [mem_ready]
         refine ⟨?_,ops[j],Array.getElem?_eq_getElem hjlt,fun e he hb=>?_⟩
         ·have:j < listed.size:=by omega
          simpa [Array.getD,this] using hl
         ·obtain ⟨h1,h2⟩:=F.edge j _ e (Array.getElem?_eq_getElem hjlt) he hb
          have:=(F.bef j e.on hjlt h2 h1).1
          obtain ⟨g1,g2⟩:=F.has e.on h2
          exact ih (ord.idxOf e.on) (by omega) e.on g1
        rw [hready] at hmem
        simp at hmem
     have s':=s.upto hK F t s.qlt (Nat.le_refl _) fun p h1 h2=>by
      refine ⟨?_,fun j hj _=>all p j hj⟩
      cases hv:hvAt ops ord p with
      | false=>rfl
      | true =>
       exfalso
       have hj:ord[p]?=some ord[p]:=List.getElem?_eq_getElem h2
       have:=(s.hq p _ h2 hv hj).1 (all p _ hj)
       omega
     have hsL:sL ops S ord.length (fun k=>listed.getD k false=true)=S ord.length:=by
      funext x
      unfold sL
      by_cases hw:∃ (k:Nat) (p:Oper),ops[k]?=some p∧p.dst=some x
      ·obtain ⟨k,p,hk,hdx⟩:=hw
       rw [if_pos ⟨k,p,all _ k (F.has k (lt_of_get hk)).1,hk,hdx⟩]
      ·rw [if_neg (by rintro ⟨k',p',h1,h2,h3⟩;exact hw ⟨k',p',h2,h3⟩)]
       exact (t.s.S_after F (Nat.zero_le _) (Nat.le_refl _) fun k' p' h1 h2 _=>hw ⟨k',p',h1,h2⟩).symm
     have hA:=s'.A
     rw [hsL] at hA
     have h0:Hh 0=h:=e2
     refine ⟨i',s'.R,⟨?_,?_,?_,?_,?_,?_,?_,?_⟩,⟨hA.s.keep keep _,hA.n,hA.d⟩,rfl⟩
     ·rw [← h0];exact t.n hK (Nat.zero_le _) (Nat.le_refl _)
     ·exact s'.size
     ·rw [← h0];exact s'.keep
     ·rw [← h0];exact s'.own
     ·rw [← h0];exact s'.live
     ·rw [← h0];exact s'.dom
     ·exact s'.os
     ·exact s'.out
    intro fuel
    induction fuel with
    | zero =>
     intro listed a' w' i' q hsz s hQ hcnt
     have hnil:(List.range ops.size).filter (fun k=>!listed.getD k false)=[]:=List.eq_nil_of_length_eq_zero (by omega)
     have hready:Region.ready .any ops listed=[]:=by
      cases hrd:Region.ready .any ops listed with
      | nil=>rfl
      | cons j l =>
       exfalso
       have hmem:j ∈ Region.ready .any ops listed:=by rw [hrd];simp
       rw [mem_ready] at hmem
       obtain ⟨h1,o,h2,_⟩:=hmem
       rw [List.filter_eq_nil_iff] at hnil
       have hjlt:=lt_of_get h2
       have:=hnil j (by simpa using hjlt)
       have hjl:j < listed.size:=by omega
       simp [Array.getD,hjl] at h1 this
       rw [h1] at this;cases this
     exact ⟨hready,fin listed a' w' i' q hsz s hready⟩
    | succ fuel ih =>
     intro listed a' w' i' q hsz s hQ hcnt
     refine ⟨fun hready=>fin listed a' w' i' q hsz s hready,fun j hmem=>?_⟩
     rw [mem_ready] at hmem
     obtain ⟨h1,o,hj,hedge⟩:=hmem
     have hjlt:=lt_of_get hj
     have hjl:j < listed.size:=by omega
     have hnl:listed.getD j false=false:=by simpa [Array.getD,hjl] using h1
     have hrdy:∀ m,m < ops.size→bitAt b j m=true→listed.getD m false=true:=by
      intro m hmlt hb
      obtain ⟨e',he',hb',h3⟩:=(F.bef j m hjlt hmlt hb).2 o hj
      have h4:=hedge e' he' hb'
      rcases h3 with h3 | h3
      ·rw [← h3];exact h4
      ·exact s.D e'.on m h4 hmlt h3
     refine s.step hK F t hd hQ hj (by rw [hnl];simp) hrdy ?_ _ _ ?_
     ·intro hl
      have hjw:(j,(List.range (winHi ops b ord j+1)).filter fun k=>decide (winLo ops b ord j≤k)) ∈ planWin ops b ord:=by
       unfold planWin
       exact List.mem_map.2 ⟨j,List.mem_filter.2 ⟨by simpa using hjlt,by simp [opAt,hj,hl]⟩,rfl⟩
      obtain ⟨d,hdd,hlook⟩:=look j _ hjw o hj
      refine ⟨d,hdd,?_⟩
      -- how many writing operations are behind
      have hcntq:((ord.take q).filter (opAt ops isHeavy)).length=(ord.filter fun k=>opAt ops isHeavy k && listed.getD k false).length:=by
       refine (filter_take ord q fun p x hx hf=>?_).symm
       have hplt:=(List.getElem?_eq_some_iff.1 hx).1
       exact s.hq p x hplt (by simp [hvAt,hx,hf]) hx
      have hlo:winLo ops b ord j≤((ord.take q).filter (opAt ops isHeavy)).length:=by
       rw [hcntq]
       refine filter_le ord fun x hx hf=>?_
       simp only [Bool.and_eq_true] at hf ⊢
       obtain ⟨p,hp⟩:=List.getElem?_of_mem hx
       exact ⟨hf.1,hrdy x (posOf F hp).2 hf.2⟩
      have hhi:((ord.take q).filter (opAt ops isHeavy)).length≤winHi ops b ord j:=by
       rw [hcntq]
       refine filter_le ord fun x hx hf=>?_
       simp only [Bool.and_eq_true,Bool.not_eq_true'] at hf ⊢
       refine ⟨hf.1,?_⟩
       cases hb:bitAt b x j with
       | false=>rfl
       | true=>have:=s.D x j hf.2 hjlt hb;rw [hnl] at this;cases this
      obtain ⟨hx,hx1,hx2⟩:=hlook ((ord.take q).filter (opAt ops isHeavy)).length (List.mem_filter.2 ⟨by simp;omega,by simpa using hlo⟩)
      have hHq:hx=Hh q:=by
       have h0:Hh 0=h:=e2
       rcases hQ with rfl | ⟨p,rfl,hv⟩
       ·simp at hx1;rw [h0];exact hx1.symm
       ·have hplt:p < ord.length:=by have:=s.qlt;omega
        have hlen:((ord.take (p+1)).filter (opAt ops isHeavy)).length=((List.range p).filter (hvAt ops ord)).length+1:=by
         rw [← range_filter_take (ops:=ops) ord (p+1) hplt,List.range_succ,List.filter_append]
         simp [hv]
        rw [hlen] at hx1
        have:=filter_index (f:=hvAt ops ord) hplt hv
        simp only [List.getElem?_cons_succ,List.getElem?_map,this,Option.map_some,Option.some.injEq] at hx1
        exact hx1.symm
      rw [hHq] at hx2
      exact hx2
     ·intro a2 w2 i2 q2 s2 hQ2
      have hL':(fun k=>listed.getD k false=true∨k=j)=fun k=>(listed.setIfInBounds j true).getD k false=true:=by
       funext k
       by_cases e':k=j
       ·subst e'
        simp [Array.getD,hjl]
       ·rw [getD_set_ne false (Ne.symm e')]
        simp [e']
      rw [hL'] at s2
      refine ih _ a2 w2 i2 q2 (by simpa using hsz) s2 hQ2 ?_
      have:((List.range ops.size).filter fun k=>!(listed.setIfInBounds j true).getD k false).length < ((List.range ops.size).filter fun k=>!listed.getD k false).length:=by
       have key:∀ (l:List Nat),j ∈ l→(l.filter fun k=>!(listed.setIfInBounds j true).getD k false).length < (l.filter fun k=>!listed.getD k false).length:=by
        intro l
        induction l with
        | nil=>intro hm;simp at hm
        | cons x l ihl =>
         intro hm
         have hle:(l.filter fun k=>!(listed.setIfInBounds j true).getD k false).length≤(l.filter fun k=>!listed.getD k false).length:=by
          refine filter_le l fun y _ hy=>?_
          by_cases e':y=j
          ·subst e';simp [hnl]
          ·rw [getD_set_ne false (Ne.symm e')] at hy;exact hy
         simp only [List.filter_cons]
         by_cases e':x=j
         ·subst e'
          have h5:(listed.setIfInBounds x true).getD x false=true:=by simp [Array.getD,hjl]
          rw [h5,hnl]
          simp only [Bool.not_true,Bool.not_false,Bool.false_eq_true,if_false,if_true,List.length_cons]
          omega
         ·rw [getD_set_ne false (Ne.symm e')]
          have:=ihl (by rcases List.mem_cons.1 hm with hm | hm;exact absurd hm.symm e';exact hm)
          split
          ·simp only [List.length_cons];omega
          ·exact this
       exact key _ (by simpa using hjlt)
      omega
   -- the begin
   have hs0:sL ops S ord.length (fun k=>(Array.replicate ops.size false).getD k false=true)=e.s keep:=by
    funext x
    unfold sL
    rw [if_neg,e1]
    rintro ⟨k,p,h1,h2,_⟩
    have:=lt_of_get h2
    simp [Array.getD,this] at h1
   have hl0:∀ k,(Array.replicate ops.size false).getD k false=true→False:=by
    intro k hk
    by_cases hkl:k < ops.size <;> simp [Array.getD,hkl] at hk
   have h0:Hh 0=h:=e2
   refine main ops.size _ a _ i 0 (by simp) (Sim.mk (Nat.zero_le _) ?_ ?_ ?_ ?_ ?_ ?_ ?_ ?_ ?_ ?_ ?_ ?_ ?_ ?_) (.inl rfl) (by
    have:=List.length_filter_le (fun k=>!(Array.replicate ops.size false).getD k false) (List.range ops.size)
    simpa using this)
   ·intro p j _ _ _
    constructor
    ·intro hk;exact (hl0 _ hk).elim
    ·intro hk;omega
   ·intro k m hk;exact (hl0 _ hk).elim
   ·rw [h0];exact hr.heap rfl
   ·rw [hs0];exact ha
   ·rintro p ⟨_,_,⟨k,_,hk,_⟩,_⟩;exact (hl0 _ hk).elim
   ·rintro p p' x x' ⟨_,_,⟨k,_,hk,_⟩,_⟩;exact (hl0 _ hk).elim
   ·intro d h1 h2 h3
    rw [h0] at h1
    exact absurd (hc d h1 h2) h3
   ·intro d _;rfl
   ·exact Nat.le_refl _
   ·intro B _ _;rfl
   ·intro d x h1 h2 _;rw [h0] at h1;exact ⟨d,x,by rw [h0];exact h1,h2,rfl⟩
   ·intro d x h1 h2 _;rw [h0] at h1;exact ⟨d,x,by rw [h0];exact h1,h2,rfl⟩
   ·exact ⟨rfl,rfl⟩
   ·rfl
  ·cases hp
end Go.Zf
