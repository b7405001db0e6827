import Derived.Test.YtbkmdnmncaakdaaGreatPfZRow
set_option linter.unusedVariables false
set_option linter.unusedSimpArgs false
namespace Go.Zf
variable{P:Program}
def Jj(K K':Zs):Prop:=∀f a h r,K f a h=some r->K' f a h=some r
def LLe(L L':Yy):Prop:=∀(f f':E->H->Out),(∀e h st,f e h=some st->f' e h=some st)->∀e h st,L f e h=some st->L' f' e h=some st
theorem Jj.refl(K:Zs):Jj K K:=λ_ _ _ _ h=>h
variable{K K':Zs}{s:Nat->V}{h:H}{r:Rv×H}
theorem DR(hK:Jj K K'){g:Option (V×Bool)}{c:Op}(e:QM K g s h c=some r):QM K' g s h c=some r:=by
 have uU:∀(c:Call) r,TB K s h c=some r->TB K' s h c=some r:=by
  intro c r e;unfold TB at e ⊢;split at e
  .split at e
   .exact hK _ _ _ _ e
   .cases e
  .cases e
 have bare:∀r,SO K s h c=some r->SO K' s h c=some r:=by
  intro r e;cases c<;>first|exact uU _ r e|exact e
 unfold QM at e ⊢;cases g with
 |none=>exact bare _ e
 |some p =>
  obtain⟨x,want⟩:=p;simp only[gk]at e ⊢;split at e
  .exact bare _ e
  .exact e
  .cases e
variable{o:Oper}
theorem Wu(hK:Jj K K'){ops:Array Oper}(e:YA P K ops o s h=some r):YA P K' ops o s h=some r:=by
 unfold YA at e ⊢;cases hk:kind o.op<;>rw[hk]at e<;>simp only[]at e ⊢<;>try exact e
 exact DR hK e
variable{pn:V->H->Out}
theorem N5(hK:Jj K K'){all:Array Oper}{fin:(Nat->V)->H->Out}:∀(l:List Oper) (s:Nat->V) (h:H) (st:St),QR P K all pn fin l s h=some st->QR P K' all pn fin l s h=some st
 |[],s,h,st,e=>e
 |o::l,s,h,st,e=>by
  simp only[QR,VT]at e ⊢;cases hs:YA P K all o s h with
  |none=>rw[hs]at e;cases e
  |some r =>
   rw[Wu hK hs];obtain⟨r,h1⟩:=r;rw[hs]at e;cases r with
   |ret v=>exact N5 hK l _ _ _ e
   |MZ v=>exact e
theorem Ri(hK:Jj K K'){all:Array Oper}{fin:(Nat->V)->H->List H->Out}:∀(l:List Nat) (s:Nat->V) (h:H) (hs:List H) (st:St),QT P K all fin l s h hs=some st->QT P K' all fin l s h hs=some st
 |[],s,h,hs,st,e=>e
 |j::l,s,h,hs,st,e=>by
  simp only[QT]at e ⊢;split at e
  .cases e
  .rename_i o ho
   rw[VT]at e;cases WY:YA P K all o s h with
   |none=>rw[WY]at e;cases e
   |some r =>
    obtain⟨r,h1⟩:=r;rw[WY]at e;rw[VT,Wu hK WY];cases r with
    |ret v=>exact Ri hK l _ _ _ _ e
    |MZ v=>cases e
variable{k k':Out}{st:St}
theorem Rh(hK:Jj K K'){all:Array Oper}{sk:Nat->Bool}{j:Nat}{out:V->H->Out}(hk:∀st,k=some st->k'=some st):∀(l:List Nat) (s:Nat->V) (r:Option (V×H)),prun P K all sk j out h l s r k=some st->prun P K' all sk j out h l s r k'=some st
 |[],s,r,e=>e
 |i::l,s,r,e=>by
  simp only[prun]at e ⊢;split at e
  .cases e
  .rename_i o ho
   split at e
   .rename_i Ud
    rw[if_pos Ud];split at e
    .cases e
    .simp only[VT]at e ⊢
     cases WY:YA P K all o s h with
     |none=>rw[WY]at e;cases e
     |some x =>
      obtain⟨x,h1⟩:=x;rw[WY]at e;rw[Wu hK WY];cases x with
      |ret v=>exact hk _ e
      |MZ v=>exact Rh hK hk l _ _ e
   .rename_i Ud
    rw[if_neg Ud];split at e
    .rename_i CD
     rw[if_pos CD];exact Rh hK hk l _ _ e
    .rename_i CD
     rw[if_neg CD];cases hl:Yq P (Zm all s o) s h o.op with
     |none=>rw[hl]at e;cases e
     |some v0=>rw[hl]at e;exact Rh hK hk l _ _ e
variable{keep:List Nat}{e:E}
theorem Ax(hK:Jj K K'){ops:Array Oper}{p:vT}(hk:∀st,k=some st->k'=some st)(hs:Ks P K keep ops p e h k=some st):Ks P K' keep ops p e h k'=some st:=by
 unfold Ks at hs ⊢;split at hs
 .exact hk _ hs
 .exact Rh hK hk _ _ _ hs
variable{KK:Nat->Zs}
theorem OY(up:∀{m n:Nat},m<=n->Jj (KK m) (KK n))(WY:∀{all:Array Oper} {o:Oper} {s:Nat->V} {h:H} {r:Rv×H},YA P K all o s h=some r->∃n,YA P (KK n) all o s h=some r)
  {all:Array Oper} {sk:Nat->Bool} {j:Nat} {out:V->H->Out} {h:H} {k:Out} {kk:Nat->Out} (hk:∀st,k=some st->∃n,∀m,n<=m->kk m=some st) {st:St}:∀(l:List Nat) (s:Nat->V) (r:Option (V×H)),prun P K all sk j out h l s r k=some st->∃n,∀m,n<=m->prun P (KK m) all sk j out h l s r (kk m)=some st
 |[],s,r,e=>⟨0,λ_ _=>e⟩
 |i::l,s,r,e=>by
  simp only[prun]at e ⊢;split at e
  .cases e
  .rename_i o ho
   split at e
   .rename_i Ud
    simp only[Ud,if_true];split at e
    .cases e
    .simp only[VT]at e ⊢
     cases hs:YA P K all o s h with
     |none=>rw[hs]at e;cases e
     |some x =>
      obtain⟨n1,Uo⟩:=WY hs;obtain⟨x,h1⟩:=x;rw[hs]at e;cases x with
      |ret v =>
       obtain⟨n2,U0⟩:=hk _ e;refine⟨max n1 n2,λm hm=>?_⟩;rw[Wu (up (by omega:n1<=m)) Uo];exact U0 m (by omega)
      |MZ v =>
       obtain⟨n2,U0⟩:=OY up WY hk l _ _ e;refine⟨max n1 n2,λm hm=>?_⟩;rw[Wu (up (by omega:n1<=m)) Uo];exact U0 m (by omega)
   .rename_i Ud
    simp only[Ud,if_false];split at e
    .rename_i CD
     obtain⟨n,hn⟩:=OY up WY hk l _ _ e;exact⟨n,λm hm=>by rw[if_pos CD];exact hn m hm⟩
    .rename_i CD
     cases hl:Yq P (Zm all s o) s h o.op with
     |none=>rw[hl]at e;cases e
     |some v0 =>
      rw[hl]at e;obtain⟨n,hn⟩:=OY up WY hk l _ _ e;exact⟨n,λm hm=>by rw[if_neg CD];exact hn m hm⟩
theorem uT(up:∀{m n:Nat},m<=n->Jj (KK m) (KK n))(WY:∀{all:Array Oper} {o:Oper} {s:Nat->V} {h:H} {r:Rv×H},YA P K all o s h=some r->∃n,YA P (KK n) all o s h=some r)
  {keep:List Nat} {ops:Array Oper} {p:vT} {e:E} {h:H} {k:Out} {kk:Nat->Out} (hk:∀st,k=some st->∃n,∀m,n<=m->kk m=some st) {st:St} (hs:Ks P K keep ops p e h k=some st):∃n,Ks P (KK n) keep ops p e h (kk n)=some st:=by
 unfold Ks at hs ⊢;split at hs
 .obtain⟨n,hn⟩:=hk _ hs;exact⟨n,hn n (Nat.le_refl _)⟩
 .obtain⟨n,hn⟩:=OY up WY hk _ _ _ hs;exact⟨n,hn n (Nat.le_refl _)⟩
variable{draw:Bool}
theorem uS(hK:Jj K K'){ops:Array Oper}(hs:FB P K keep ops draw e h=some st):FB P K' keep ops draw e h=some st:=by
 unfold FB at hs ⊢;cases draw with
 |true =>
  simp only[if_true]at hs ⊢;cases hp:plan ops with
  |none=>rw[hp]at hs;cases hs
  |some p=>rw[hp]at hs;exact Ax hK (λst hs=>Ri hK _ _ _ _ _ hs) hs
 |false =>
  simp only[Bool.false_eq_true,if_false]at hs ⊢;exact N5 hK _ _ _ _ hs
theorem HN{x x':Out}{k k':E->H->Out}(hx:∀st,x=some st->x'=some st)(hk:∀e h st,k e h=some st->k' e h=some st)(e:sq x k=some st):sq x' k'=some st:=by
 rcases T4 e with ⟨e1,h1,h2,h3⟩|⟨h2,h3⟩
 .rw[hx _ h2];exact hk _ _ _ h3
 .rw[hx _ h2]
  unfold sq;obtain⟨x,e2,h4⟩:=st;cases x<;>first|rfl|exact absurd rfl (h3 e2 h4)
variable{L L':Yy}
theorem FJ(hK:Jj K K')(hL:LLe L L')(keep:List Nat)(c:Code):∀(e:E) (h:H) (st:St),den P K L keep c e h=some st->den P K' L' keep c e h=some st:=by
 induction c with
 |region id ops draw=>intro e h st hs;exact uS hK hs
 |seq a b F4 Eb=>intro e h st hs;simp only[den]at hs ⊢;exact HN (λst=>F4 e h st) Eb hs
 |cond c a b F4 Eb =>
  intro e h st hs;simp only[den,br]at hs ⊢;split at hs
  .exact F4 _ _ _ hs
  .exact Eb _ _ _ hs
  .cases hs
 |block id c ih =>
  intro e h st hs;simp only[den]at hs ⊢;cases hd:den P K L keep c e h with
  |none=>rw[hd]at hs;cases hs
  |some r=>rw[ih _ _ _ hd];rw[hd]at hs;exact hs
 |loop c ih=>intro e h st hs;exact hL _ _ (λe h st hs=>ih e h st hs) e h st hs
 |scope c ih=>intro e h st hs;exact ih e h st hs
 |_=>intro e h st hs;exact hs
variable{f:FuncId}
theorem N4{kp:FuncId->List Nat}(hK:Jj K K')(hL:LLe L L'){args:List V}(e:Nd P kp K L f args h=some r):Nd P kp K' L' f args h=some r:=by
 unfold Nd at e ⊢;split at e
 .split at e
  .rename_i c hc
   split at e
   .rename_i hg
    rw[if_pos hg];cases hd:den P K L (kp f) c (VC (kp f) args) h with
    |none=>rw[hd]at e;cases e
    |some st=>rw[FJ hK hL _ _ _ _ _ hd];rw[hd]at e;exact e
   .cases e
  .cases e
 .cases e
theorem KX(n:Nat)(f:E->H->Out)(e:E)(h:H):XR (n+1) f e h=sq (f e h) (XR n f):=rfl
variable{m n:Nat}
theorem Tx(Dn:m<=n):LLe (XR m) (XR n):=by
 intro f f' hf
 induction m generalizing n with
 |zero=>intro e h st hs;cases hs
 |succ m ih =>
  obtain⟨n,rfl⟩:∃k,n=k+1:=⟨n-1,by omega⟩
  intro e h st hs;simp only[XR]at hs ⊢;exact HN (λst=>hf e h st) (λe h st=>ih (by omega) e h st) hs
theorem Ji(kp:FuncId->List Nat):∀n,Jj (Uj P kp n) (Uj P kp (n+1))
 |0=>λ_ _ _ _ h=>by cases h
 |n+1=>λf a h r e=>N4 (Ji kp n) (Tx (Nat.le_succ _)) e
theorem T2(kp:FuncId->List Nat)(h:m<=n):Jj (Uj P kp m) (Uj P kp n):=by
 induction n with
 |zero =>
      have:m=0:=by omega
      subst this;exact Jj.refl _
 |succ n ih =>
  by_cases e:m=n+1
  .subst e;exact Jj.refl _
  .exact λf a h' r hr=>Ji kp n f a h' r (ih (by omega) f a h' r hr)
open Classical in
noncomputable def Aw {α:Type} (F:Nat->Option α):Option α:=if h:∃n,(F n).isSome then F (Classical.choose h)else none
theorem UJ{α:Type}{F:Nat->Option α}{x:α}(h:Aw F=some x):∃n,F n=some x:=by
 unfold Aw at h;split at h
 .exact⟨_,h⟩
 .cases h
theorem Cj{α:Type}{F:Nat->Option α}(hm:∀m n x,m<=n->F m=some x->F n=some x){x:α}(h:F n=some x):Aw F=some x:=by
 have hex:∃n,(F n).isSome:=⟨n,by rw[h];rfl⟩
 unfold Aw;rw[dif_pos hex];have hc:=Classical.choose_spec hex;obtain⟨y,hy⟩:=Option.isSome_iff_exists.1 hc;rcases Nat.le_total n (Classical.choose hex)with hl|hl
 .exact hm _ _ _ hl h
 .have:=hm _ _ _ hl hy
  rw[h]at this;rw[hy,this]
noncomputable def Wm (P:Program) (kp:FuncId->List Nat):Zs:=λf a h=>Aw λn=>Uj P kp n f a h
noncomputable def ZI:Yy:=λf e h=>Aw λn=>XR n f e h
variable{a:List V}
theorem FI{kp:FuncId->List Nat}(e:Uj P kp n f a h=some r):Wm P kp f a h=some r :=
 Cj (λ_ _ _ hl=>T2 kp hl f a h _) e
theorem OX{f:E->H->Out}(hs:XR n f e h=some st):ZI f e h=some st :=
 Cj (λ_ _ st hl=>Tx hl f f (λ_ _ _ h=>h) e h st) hs
theorem uR(kp:FuncId->List Nat)(n:Nat):Jj (Uj P kp n) (Wm P kp):=λ_ _ _ _ e=>FI e
theorem uQ(n:Nat):LLe (XR n) ZI:=λf f' hf e h st hs=>OX (n:=n) (Tx (Nat.le_refl n) f f' hf e h st hs)
theorem P5{kp:FuncId->List Nat}{ops:Array Oper}(e:YA P (Wm P kp) ops o s h=some r):∃n,YA P (Uj P kp n) ops o s h=some r:=by
 have uU:∀(c:Call) r,TB (Wm P kp) s h c=some r->∃n,TB (Uj P kp n) s h c=some r:=by
  intro c r e;unfold TB at e;split at e
  .rename_i f hf
   split at e
   .rename_i g a b hg
    obtain⟨n,hn⟩:=UJ e;exact⟨n,by unfold TB;rw[hf];simp only[];rw[hg];exact hn⟩
   .cases e
  .cases e
 have bare:∀(p:Op) r,SO (Wm P kp) s h p=some r->∃n,SO (Uj P kp n) s h p=some r:=by
  intro p r e;cases p<;>first|exact uU _ r e|exact⟨0,e⟩
 unfold YA at e ⊢;cases hk:kind o.op<;>rw[hk]at e<;>simp only[]at e ⊢<;>try exact⟨0,e⟩
 unfold QM at e ⊢;cases hg:Zm ops s o with
 |none=>rw[hg]at e;exact bare _ _ e
 |some p =>
  obtain⟨x,want⟩:=p;rw[hg]at e;simp only[gk]at e ⊢;split at e
  .exact bare _ _ e
  .exact⟨0,e⟩
  .cases e
theorem Jh{kp:FuncId->List Nat}{all:Array Oper}{fin:(Nat->V)->H->Out}:∀(l:List Oper) (s:Nat->V) (h:H) (st:St),QR P (Wm P kp) all pn fin l s h=some st->∃n,QR P (Uj P kp n) all pn fin l s h=some st
 |[],s,h,st,e=>⟨0,e⟩
 |o::l,s,h,st,e=>by
  simp only[QR,VT]at e ⊢;cases hs:YA P (Wm P kp) all o s h with
  |none=>rw[hs]at e;cases e
  |some r =>
   obtain⟨n1,Uo⟩:=P5 hs;obtain⟨r,h1⟩:=r;rw[hs]at e;cases r with
   |ret v =>
    obtain⟨n2,U0⟩:=Jh l _ _ _ e;refine⟨max n1 n2,?_⟩;rw[Wu (T2 kp (Nat.le_max_left n1 n2)) Uo];exact N5 (T2 kp (Nat.le_max_right n1 n2)) l _ _ _ U0
   |MZ v=>exact⟨n1,by rw[Uo];exact e⟩
theorem Jg{kp:FuncId->List Nat}{all:Array Oper}{fin:(Nat->V)->H->List H->Out}:∀(l:List Nat) (s:Nat->V) (h:H) (hs:List H) (st:St),QT P (Wm P kp) all fin l s h hs=some st->∃n,QT P (Uj P kp n) all fin l s h hs=some st
 |[],s,h,hs,st,e=>⟨0,e⟩
 |j::l,s,h,hs,st,e=>by
  simp only[QT]at e ⊢;split at e
  .cases e
  .rename_i o ho
   rw[VT]at e;cases WY:YA P (Wm P kp) all o s h with
   |none=>rw[WY]at e;cases e
   |some r =>
    obtain⟨n1,Uo⟩:=P5 WY;obtain⟨r,h1⟩:=r;rw[WY]at e;cases r with
    |ret v =>
     obtain⟨n2,U0⟩:=Jg l _ _ _ _ e;refine⟨max n1 n2,?_⟩;rw[VT,Wu (T2 kp (Nat.le_max_left n1 n2)) Uo];exact Ri (T2 kp (Nat.le_max_right n1 n2)) l _ _ _ _ U0
    |MZ v=>cases e
theorem uP{kp:FuncId->List Nat}{ops:Array Oper}(hs:FB P (Wm P kp) keep ops draw e h=some st):∃n,FB P (Uj P kp n) keep ops draw e h=some st:=by
 unfold FB at hs;split at hs
 .rename_i hd
  split at hs
  .cases hs
  .rename_i p hp
   obtain⟨n,hn⟩:=uT (KK:=Uj P kp) (λh=>T2 kp h) (λh=>P5 h) (kk:=λn=>QT P (Uj P kp n) ops _ p.ord (e.s keep) h [h]) (λst hs=>by
    obtain⟨n,hn⟩:=Jg _ _ _ _ _ hs;exact⟨n,λm hm=>Ri (T2 kp hm) _ _ _ _ _ hn⟩) hs
   exact⟨n,by unfold FB;rw[if_pos hd,hp];exact hn⟩
 .rename_i hd
  obtain⟨n,hn⟩:=Jh _ _ _ _ hs;exact⟨n,by unfold FB;rw[if_neg hd];exact hn⟩
theorem uO(kp:FuncId->List Nat)(keep:List Nat)(c:Code):∀(e:E) (h:H) (st:St),den P (Wm P kp) ZI keep c e h=some st->∃n,den P (Uj P kp n) (XR n) keep c e h=some st:=by
 have up:∀{c:Code} {m n:Nat} {e:E} {h:H} {st:St},m<=n->den P (Uj P kp m) (XR m) keep c e h=some st->den P (Uj P kp n) (XR n) keep c e h=some st :=
  λhl hs=>FJ (T2 kp hl) (Tx hl) _ _ _ _ _ hs
 induction c with
 |region id ops draw=>intro e h st hs;exact uP hs
 |seq a b F4 Eb =>
  intro e h st hs;simp only[den]at hs ⊢;rcases T4 hs with ⟨e1,h1,h2,h3⟩|⟨h2,h3⟩
  .obtain⟨n1,Uo⟩:=F4 _ _ _ h2
   obtain⟨n2,U0⟩:=Eb _ _ _ h3;refine⟨max n1 n2,?_⟩;rw[up (Nat.le_max_left n1 n2) Uo];exact up (Nat.le_max_right n1 n2) U0
  .obtain⟨n1,Uo⟩:=F4 _ _ _ h2
   refine⟨n1,?_⟩;rw[Uo];unfold sq;obtain⟨x,e,h⟩:=st;cases x<;>first|rfl|exact absurd rfl (h3 e h)
 |cond c a b F4 Eb =>
  intro e h st hs;simp only[den,br]at hs ⊢;split at hs
  .exact F4 _ _ _ hs
  .exact Eb _ _ _ hs
  .cases hs
 |block id c ih =>
  intro e h st hs;simp only[den]at hs ⊢;cases hd:den P (Wm P kp) ZI keep c e h with
  |none=>rw[hd]at hs;cases hs
  |some r =>
   obtain⟨n,hn⟩:=ih _ _ _ hd;exact⟨n,by rw[hn];rw[hd]at hs;exact hs⟩
 |loop c ih =>
  intro e h st hs;simp only[den]at hs ⊢;obtain⟨k,hk⟩:=UJ hs;have key:∀(k:Nat) (e:E) (h:H),XR k (λe h=>den P (Wm P kp) ZI keep c e h) e h=some st->∃n,XR n (λe h=>den P (Uj P kp n) (XR n) keep c e h) e h=some st:=by
   intro k
   induction k with
   |zero=>intro e h hs;cases hs
   |succ k lN =>
    intro e h hs;simp only[XR]at hs;rcases T4 hs with ⟨e1,h1,h2,h3⟩|⟨h2,h3⟩
    .obtain⟨n1,Uo⟩:=ih _ _ _ h2
     obtain⟨n2,U0⟩:=lN _ _ h3;refine⟨max n1 n2+1,?_⟩;rw[KX,up (by omega:n1<=max n1 n2+1) Uo];exact Tx (Nat.le_max_right n1 n2) _ _ (λe h st hs=>up (by omega) hs) _ _ _ U0
    .obtain⟨n1,Uo⟩:=ih _ _ _ h2
     refine⟨n1+1,?_⟩;rw[KX,up (Nat.le_succ n1) Uo];unfold sq;obtain⟨x,e,h⟩:=st;cases x<;>first|rfl|exact absurd rfl (h3 e h)
  exact key k e h hk
 |scope c ih=>intro e h st hs;exact ih e h st hs
 |_=>intro e h st hs;exact⟨0,hs⟩
theorem Ci{α:Type}{a b:Option α}(h1:∀x,a=some x->b=some x)(h2:∀x,b=some x->a=some x):a=b:=by
 cases a with
 |some x=>exact (h1 x rfl).symm
 |none=>cases b with
  |none=>rfl
  |some y=>exact h2 y rfl
theorem uV(P:Program)(kp:FuncId->List Nat)(f:FuncId)(a:List V)(h:H):Wm P kp f a h=Nd P kp (Wm P kp) ZI f a h:=by
 refine Ci (λr hr=>?_) (λr hr=>?_)
 .obtain⟨n,hn⟩:=UJ hr
  cases n with
  |zero=>cases hn
  |succ n=>exact N4 (uR kp n) (uQ (n+1)) hn
 .unfold Nd at hr
  split at hr
  .rename_i fn jj
   split at hr
   .rename_i c hc
    split at hr
    .rename_i hg
     cases hd:den P (Wm P kp) ZI (kp f) c (VC (kp f) a) h with
     |none=>rw[hd]at hr;cases hr
     |some st =>
      obtain⟨n,hn⟩:=uO kp _ _ _ _ _ hd;rw[hd]at hr;refine FI (n:=n+1) ?_;have:Nd P kp (Uj P kp n) (XR n) f a h=some r:=by
       unfold Nd;rw[jj];simp only[];rw[hc];simp only[];rw[if_pos hg,hn];exact hr
      exact N4 (Jj.refl _) (Tx (Nat.le_succ n)) this
    .cases hr
   .cases hr
  .cases hr
theorem Zi(f:E->H->Out)(e:E)(h:H):ZI f e h=sq (f e h) (ZI f):=by
 refine Ci (λr hr=>?_) (λr hr=>?_)
 .obtain⟨n,hn⟩:=UJ hr
  cases n with
  |zero=>cases hn
  |succ n =>
   simp only[XR]at hn;exact HN (λst h=>h) (λe h st hs=>OX hs) hn
 .rcases T4 hr with ⟨e1,h1,h2,h3⟩|⟨h2,h3⟩
  .obtain⟨n,hn⟩:=UJ h3
   refine OX (n:=n+1) ?_;simp only[XR,h2];exact hn
  .refine OX (n:=1) ?_
   simp only[XR,h2];unfold sq;obtain⟨x,e,h⟩:=r;cases x<;>first|rfl|exact absurd rfl (h3 e h)
theorem vO(hm:P.follows .mixedOrders=true)(kp:FuncId->List Nat){h':H}{r:Rv}(e:Wm P kp f a h=some (r,h')):HU P f a h r h':=by
 obtain⟨n,hn⟩:=UJ e;exact (CA (rH hm) kp n).ok _ _ _ _ _ hn
end Go.Zf
