import Derived.Test.YtbkmdnmncaakdaaGreatPfZCode
import Derived.Orders
set_option linter.unusedVariables false
set_option linter.unusedSimpArgs false
namespace Go.Zf
variable{P:Program}
variable{s':Nat->V}
theorem lT{s:Nat->V}{l:List Operand}(hs:∀t∈l.filterMap (λx:Operand=>match x with|.tmp t=>some t|_=>none),s t=s' t):∀x∈l,ev s x=ev s' x:=by
 intro x hx;cases x with
 |tmp t=>exact hs t (List.mem_filterMap.2 ⟨_,hx,rfl⟩)
 |const v=>rfl
 |func f=>rfl
 |global g=>rfl
variable{h:H}
theorem Vp{s:Nat->V}{o:Op}(hs:∀x∈o.operands.toList,ev s x=ev s' x):light P s h o=light P s' h o:=by
 cases o<;>simp only[Op.operands]at hs<;>simp only[light]<;>(try rfl)
 case move x=>rw[hs x (by simp)]
 case assign x=>rw[hs x (by simp)]
 case pick c a b=>rw[hs c (by simp),hs a (by simp),hs b (by simp)]
 case load t a=>rw[hs a (by simp)]
 case nilCheck x=>rw[hs x (by simp)]
 case binOp op t x y yt=>rw[hs x (by simp),hs y (by simp)]
 case unOp op t x=>rw[hs x (by simp)]
 case convert a b x=>rw[hs x (by simp)]
 case makeInterface t x=>rw[hs x (by simp)]
 case makeFunc f first captured =>
  have h1:first.toList.map (ev s)=first.toList.map (ev s'):=List.map_congr_left λx hx=>hs x (by simp at hx ⊢;exact .inl hx)
  have h2:captured.toList.map (ev s)=captured.toList.map (ev s'):=List.map_congr_left λx hx=>hs x (by simp at hx ⊢;exact .inr hx);rw[h1,h2]
 case slice t x lo hi mx =>
  have h1:∀y:Option Operand,(∀z∈y,ev s z=ev s' z)->y.map (ev s)=y.map (ev s'):=by
   intro y hy;cases y with
   |none=>rfl
   |some z=>simp[hy z rfl]
  rw[hs x (by simp),h1 lo (λz hz=>hs z (by simp;right;left;simpa using hz)),h1 hi (λz hz=>hs z (by simp;right;right;left;simpa using hz)),h1 mx (λz hz=>hs z (by simp;right;right;right;simpa using hz))]
 case fieldAddr t x f=>rw[hs x (by simp)]
 case field t x f=>rw[hs x (by simp)]
 case indexAddr t x i=>rw[hs x (by simp),hs i (by simp)]
 case index t x i=>rw[hs x (by simp),hs i (by simp)]
 case extract x i=>rw[hs x (by simp)]
 case build t parts =>
  have:parts.toList.map (λp=>(p.1,ev s p.2))=parts.toList.map (λp=>(p.1,ev s' p.2)):=List.map_congr_left λp hp=>by rw[hs p.2 (by simp at hp ⊢;exact⟨p.1,hp⟩)]
  rw[this]
 case call c =>
  have ha:∀x∈c.args.toList,ev s x=ev s' x:=λx hx=>hs x (by simp[Call.operands]at hx ⊢;exact .inr hx);have hm:c.args.toList.map (ev s)=c.args.toList.map (ev s'):=List.map_congr_left ha;split
  .split
   .rename_i x t hx ht
    rw[ha x (by rw[hx];simp)]
   .rfl
  .split
   .rename_i x t hx ht
    rw[ha x (by rw[hx];simp)]
   .rfl
  .rw[hm]
  .rw[hm]
  .rfl
variable{h':H}
theorem Em{s:Nat->V}{o:Op}(hl:Uw o=false):light P s h o=light P s h' o:=by
 cases o<;>first|rfl|(simp[Uw]at hl)
theorem Sb{s:Nat->V}{o:Op}(hs:∀x∈o.operands.toList,ev s x=ev s' x):fresh P s h o=fresh P s' h o:=by
 cases o<;>simp only[Op.operands]at hs<;>simp only[fresh]<;>(try rfl)
 case box e x=>rw[hs x (by simp)]
 case buildSlice t len parts =>
  have:parts.toList.map (λp=>(p.1,ev s p.2))=parts.toList.map (λp=>(p.1,ev s' p.2)):=List.map_congr_left λp hp=>by rw[hs p.2 (by simp at hp ⊢;exact⟨p.1,hp⟩)]
  rw[this]
 case makeSlice t len cap=>rw[hs len (by simp),hs cap (by simp)]
theorem NC{s:Nat->V}{o:Op}(hs:∀x∈o.operands.toList,ev s x=ev s' x):WT P s h o=WT P s' h o:=by
 cases o<;>simp only[Op.operands]at hs<;>simp only[WT]<;>(try rfl)
 case makeMap t r=>cases r<;>rfl
 case lookup t m k ok=>rw[hs m (by simp),hs k (by simp)]
 case mapUpdate t m k x=>rw[hs m (by simp),hs k (by simp),hs x (by simp)]
 case insert t m k x=>rw[hs m (by simp),hs k (by simp),hs x (by simp)]
 case store t a x=>rw[hs a (by simp),hs x (by simp)]
 case call c =>
  have ha:∀x∈c.args.toList,ev s x=ev s' x:=λx hx=>hs x (by simp[Call.operands]at hx ⊢;exact .inr hx);split
  .split
   .rename_i x y t u hx ht
    rw[ha x (by rw[hx];simp),ha y (by rw[hx];simp)]
   .rfl
  .split
   .rename_i x y t u hx ht
    rw[ha x (by rw[hx];simp),ha y (by rw[hx];simp)]
   .rfl
  .rfl
variable{K:Zs}
theorem Gj{s:Nat->V}{c:Call}(hs:∀x∈c.operands.toList,ev s x=ev s' x):TB K s h c=TB K s' h c:=by
 have ha:∀x∈c.args.toList,ev s x=ev s' x:=λx hx=>hs x (by simp[Call.operands]at hx ⊢;exact .inr hx);have hm:c.args.toList.map (ev s)=c.args.toList.map (ev s'):=List.map_congr_left ha;unfold TB;split
 .rename_i f hf
  rw[hs f (by simp[Call.operands,hf]),hm]
 .rfl
theorem NB{s:Nat->V}{o:Op}(hs:∀x∈o.operands.toList,ev s x=ev s' x):SO K s h o=SO K s' h o:=by
 unfold SO;split
 .exact Gj hs
 .rename_i x
  rw[hs x (by simp[Op.operands])]
 .rfl
variable{o:Oper}
theorem El{s:Nat->V}(hs:∀x∈o.op.operands.toList,ev s x=ev s' x):Uv P K o s h=Uv P K o s' h:=by
 unfold Uv;rw[Vp hs,Sb hs,NC hs,NB hs]
theorem UM{ops:Array Oper}{s:Nat->V}(hs:∀t∈looks ops o,s t=s' t):∀x∈o.op.operands.toList,ev s x=ev s' x :=
 lT λt ht=>hs t (by unfold looks;exact List.mem_append_left _ ht)
theorem guard_congr{ops:Array Oper}{s:Nat->V}(hs:∀t∈looks ops o,s t=s' t):Zm ops s o=Zm ops s' o:=by
 unfold Zm;cases hg:o.guard with
 |none=>rfl
 |some p =>
  obtain⟨j,want⟩:=p;simp only[];cases hd:(ops[j]?).bind (·.dst)with
  |none=>rfl
  |some d =>
   simp only[];rw[hs d (by unfold looks;rw[hg];simp[hd])]
theorem Ek{ops:Array Oper}{s:Nat->V}(hs:∀t∈looks ops o,s t=s' t):YA P K ops o s h=YA P K ops o s' h:=by
 have h1:=UM hs;unfold YA;rw[guard_congr hs];simp only[Yq,Qi,Qh,QM];rw[Vp h1,Sb h1,NC h1,NB h1]
structure PF(ops:Array Oper)(b:Array Nat)(ord:List Nat):Prop where
 len:ord.length=ops.size
 pos:∀(p:Nat),p<ops.size->∃j,ord[p]?=some j/\j<ops.size/\ord.idxOf j=p
 has:∀(k:Nat),k<ops.size->ord[ord.idxOf k]?=some k/\ord.idxOf k<ops.size
 knd:∀(k:Nat) (o:Oper),ops[k]?=some o->isNone o.op=false
 own:∀(k:Nat) (o:Oper) (d:Nat),ops[k]?=some o->Uw o.op=true->o.dst=some d->d ∉ looks ops o
 grd:∀(k:Nat) (o:Oper) (g:Nat) (w:Bool),ops[k]?=some o->o.guard=some (g,w)->Yz b k g=true/\((ops[g]?).bind (·.dst)).isSome=true
 edge:∀(k:Nat) (o:Oper) (e:Edge),ops[k]?=some o->e∈o.after->Region.binds .any e=true->Yz b k e.on=true/\e.on<ops.size
 tX:∀(k j:Nat),k<ops.size->j<ops.size->Yz b k j=true->ord.idxOf j<ord.idxOf k/\∀(o:Oper),ops[k]?=some o->∃e∈o.after,Region.binds .any e=true/\(e.on=j\/Yz b e.on j=true)
 dst:∀(k j:Nat) (o p:Oper) (d:Nat),k≠j->ops[k]?=some o->ops[j]?=some p->o.dst=some d->p.dst≠some d/\(d∈looks ops p->Yz b j k=true\/(Yz b k j=true/\Uw p.op=false))
 hvy:∀(k j:Nat) (o p:Oper),k≠j->ops[k]?=some o->ops[j]?=some p->Y7 o.op=true->Y7 p.op=true->Yz b k j=true\/Yz b j k=true
 frs:∀(k j:Nat) (o p:Oper),k≠j->ops[k]?=some o->ops[j]?=some p->Wy o.op=true->Y7 p.op=true->Yz b k j=true\/Yz b j k=true\/ord.idxOf j<ord.idxOf k
variable{k:Nat}
theorem Zg{ops:Array Oper}(h:ops[k]?=some o):k<ops.size:=(Array.getElem?_eq_some_iff.1 h).1
variable{ord:List Nat}
theorem H9{ops:Array Oper}{b:Array Nat}(h:Ej ops b ord=true):PF ops b ord:=by
 simp only[Ej,Bool.and_eq_true,List.all_eq_true,List.mem_range,beq_iff_eq]at h;obtain⟨⟨⟨h1,h2⟩,h3⟩,h4⟩:=h;have two:∀k j o p,ops[k]?=some o->ops[j]?=some p->_:=λk j o p hk hj=>by
  have:=h4 k (Zg hk) j (Zg hj);unfold CW at this;rw[hk,hj]at this;exact this
 have one:∀k o,ops[k]?=some o->_:=λk o hk=>by
  have:=h3 k (Zg hk);unfold CV at this;rw[hk]at this;exact this
 have B5:∀p,p<ops.size->∃j,ord[p]?=some j/\j<ops.size/\ord.idxOf j=p:=by
  intro p hp;have:=h2 p hp;unfold CU at this;split at this
  .rename_i j hj
   simp at this;exact⟨j,hj,this.1,this.2⟩
  .cases this
 refine⟨h1,B5,?_,?_,?_,?_,?_,?_,?_,?_,?_⟩
 .intro k hk
  have PQ:ops[k]?=some ops[k]:=Array.getElem?_eq_getElem hk;have:=one k _ PQ;simp only[Bool.and_eq_true,List.contains_iff_mem]at this;have hm:=this.1.1.1.1;have Tm:=List.idxOf_lt_length_of_mem hm;exact⟨by rw[List.getElem?_eq_getElem Tm];simp,by omega⟩
 .intro k o hk
  have:=one k o hk;simp only[Bool.and_eq_true]at this;simpa using this.1.1.1.2
 .intro k o d hk hl hd
  have:=one k o hk;simp only[Bool.and_eq_true]at this;have:=this.1.1.2;rw[hl,hd]at this;simpa using this
 .intro k o g w hk hg
  have:=one k o hk;simp only[Bool.and_eq_true]at this;have:=this.1.2;rw[hg]at this;simpa using this
 .intro k o e hk he hb
  have:=one k o hk;simp only[Bool.and_eq_true,List.all_eq_true]at this;have:=this.2 e (by simpa using he);rw[hb]at this;simpa using this
 .intro k j hk hj hb
  have PQ:ops[k]?=some ops[k]:=Array.getElem?_eq_getElem hk;have:=two k j _ _ PQ (Array.getElem?_eq_getElem hj);simp only[Bool.and_eq_true,hb,Bool.not_true,Bool.false_or,decide_eq_true_eq,List.any_eq_true]at this;refine⟨this.1.1,λo ho=>?_⟩;rw[PQ]at ho;cases ho;obtain⟨e,he,FG,Fk⟩:=this.1.2;exact⟨e,by simpa using he,FG,by simpa using Fk⟩
 .intro k j o p d Wp hk hj hd
  have:=two k j o p hk hj;simp only[Bool.and_eq_true]at this;have:=this.2;rw[hd]at this;simp only[Bool.or_eq_true,beq_iff_eq,Wp,false_or,Bool.and_eq_true]at this;have:=this.1.1;refine⟨by simpa using this.1,λhm=>?_⟩;have:=this.2;simp[hm]at this;rcases this with h|⟨h,h'⟩
  .exact .inl h
  .exact .inr ⟨h,h'⟩
 .intro k j o p Wp hk hj ho hp
  have:=two k j o p hk hj;simp only[Bool.and_eq_true]at this;have:=this.2;simp only[Bool.or_eq_true,beq_iff_eq,Wp,false_or,Bool.and_eq_true]at this;simpa [ho,hp]using this.1.2
 .intro k j o p Wp hk hj ho hp
  have:=two k j o p hk hj;simp only[Bool.and_eq_true]at this;have:=this.2;simp only[Bool.or_eq_true,beq_iff_eq,Wp,false_or,Bool.and_eq_true]at this;have:=this.2;simp[ho,hp]at this;rcases this with (h|h)|h
  .exact .inl h
  .exact .inr (.inl h)
  .exact .inr (.inr h)
def VU(ops:Array Oper)(ord:List Nat)(p:Nat):Bool:=match ord[p]? with|some j=>WS ops Y7 j|none=>false
structure Tr(P:Program)(K:Zs)(ops:Array Oper)(ord:List Nat)(S:Nat->Nat->V)(Hh:Nat->H)(val:Nat->V):Prop where
 step:∀p,p<ord.length->∃j o,ord[p]?=some j/\ops[j]?=some o/\YA P K ops o (S p) (Hh p)=some (.ret (val p),Hh (p+1))/\S (p+1)=WW (S p) o.dst (val p)
theorem Gi{ops:Array Oper}{fin:(Nat->V)->H->List H->Out}{st:St}:∀(l:List Nat) (s:Nat->V) (h:H) (hs:List H),QT P K ops fin l s h hs=some st ->
  ∃S Hh val,S 0=s/\Hh 0=h/\Tr P K ops l S Hh val/\fin (S l.length) (Hh l.length) ((((List.range l.length).filter (VU ops l)).map λp=>Hh (p+1)).reverse++hs)=some st
 |[],s,h,hs,e=>⟨λ_=>s,λ_=>h,λ_=>.Wz,rfl,rfl,⟨λp hp=>by simp at hp⟩,by simpa [QT]using e⟩
 |j::l,s,h,hs,e=>by
  simp only[QT]at e;split at e
  .cases e
  .rename_i o ho
   rw[VT]at e;cases WY:YA P K ops o s h with
   |none=>rw[WY]at e;cases e
   |some r =>
    obtain⟨r,h1⟩:=r;rw[WY]at e;cases r with
    |MZ v=>cases e
    |ret v =>
     obtain⟨S,Hh,val,e1,e2,e3,e4⟩:=Gi l _ _ _ e;refine⟨λp=>match p with|0=>s|p+1=>S p,λp=>match p with|0=>h|p+1=>Hh p,λp=>match p with|0=>v|p+1=>val p,rfl,rfl,⟨?_⟩,?_⟩
     .intro p hp
      cases p with
      |zero=>exact⟨j,o,rfl,ho,by simp only[e2];exact WY,e1⟩
      |succ p =>
       obtain⟨j',o',a1,a2,a3,a4⟩:=e3.step p (by simpa using hp);exact⟨j',o',by simpa using a1,a2,a3,a4⟩
     .have yq8:(List.range (l.length+1)).filter (VU ops (j::l))=(if Y7 o.op then [0]else [])++((List.range l.length).filter (VU ops l)).map Nat.succ:=by
       rw[List.range_succ_eq_map,List.filter_cons,List.filter_map];have h0:VU ops (j::l) 0=Y7 o.op:=by simp[VU,WS,ho]
       have h1:(VU ops (j::l)) ∘ Nat.succ=VU ops l:=by funext p;simp[VU]
       rw[h0,h1];split<;>simp
      simp only[List.length_cons];rw[yq8];have:((((if Y7 o.op then [0]else [])++((List.range l.length).filter (VU ops l)).map Nat.succ).map λp=>(match p+1 with|0=>h|p+1=>Hh p)).reverse++hs)
        = ((((List.range l.length).filter (VU ops l)).map λp=>Hh (p+1)).reverse++(if Y7 o.op then h1::hs else hs)):=by
       split
       .simp[Function.comp_def,e2]
       .simp[Function.comp_def]
      rw[this];exact e4
structure pD(ops:Array Oper)(ord:List Nat)(S:Nat->Nat->V)(val:Nat->V):Prop where
 step:∀p,p<ord.length->∃j o,ord[p]?=some j/\ops[j]?=some o/\S (p+1)=WW (S p) o.dst (val p)
variable{S:Nat->Nat->V}{Hh:Nat->H}{val:Nat->V}
theorem Tr.s{ops:Array Oper}(t:Tr P K ops ord S Hh val):pD ops ord S val:=⟨λp hp=>by
 obtain⟨j,o,h1,h2,_,h3⟩:=t.step p hp;exact⟨j,o,h1,h2,h3⟩⟩
variable{p q:Nat}
theorem Tr.n(hK:FC P K){ops:Array Oper}(t:Tr P K ops ord S Hh val)(hpq:p<=q)(hq:q<=ord.length):(Hh p).n<=(Hh q).n:=by
 induction q with
 |zero =>
      have:p=0:=by omega
      subst this;exact Nat.le_refl _
 |succ q ih =>
  by_cases e:p=q+1
  .subst e;exact Nat.le_refl _
  .obtain⟨j,o,_,_,h3,_⟩:=t.step q (by omega)
   exact Nat.le_trans (ih (by omega) (by omega)) (Lz hK h3)
section sim
variable{K:Zs}{ops:Array Oper}{b:Array Nat}{ord:List Nat}{S:Nat->Nat->V}{Hh:Nat->H}{val:Nat->V}{ds:List Deferred}
variable{j d:Nat}
theorem PF.inj(F:PF ops b ord){p:Oper}(hk:ops[k]?=some o)(hj:ops[j]?=some p)(h1:o.dst=some d)(h2:p.dst=some d):k=j:=by
 by_cases e:k=j
 .exact e
 .exact absurd h2 (F.dst k j o p d e hk hj h1).1
theorem Tr.at(F:PF ops b ord)(t:Tr P K ops ord S Hh val)(hj:ops[j]?=some o):
  YA P K ops o (S (ord.idxOf j)) (Hh (ord.idxOf j))=some (.ret (val (ord.idxOf j)),Hh (ord.idxOf j+1))/\S (ord.idxOf j+1)=WW (S (ord.idxOf j)) o.dst (val (ord.idxOf j)):=by
 obtain⟨h1,h2⟩:=F.has j (Zg hj);obtain⟨j',o',e1,e2,e3,e4⟩:=t.step (ord.idxOf j) (by rw[F.len];exact h2);rw[h1]at e1;cases e1;rw[hj]at e2;cases e2;exact⟨e3,e4⟩
theorem pD.S0(F:PF ops b ord)(t:pD ops ord S val){x:Nat}(hpq:p<=q)(hq:q<=ord.length)(MW:∀k o,ops[k]?=some o->o.dst=some x->¬(p<=ord.idxOf k/\ord.idxOf k<q)):S q x=S p x:=by
 induction q with
 |zero =>
      have:p=0:=by omega
      subst this;rfl
 |succ q ih =>
  by_cases e:p=q+1
  .subst e;rfl
  .obtain⟨j,o,e1,e2,e4⟩:=t.step q (by omega)
   rw[e4];have B5:ord.idxOf j=q:=by
    obtain⟨j',g1,g2,g3⟩:=F.pos q (by rw[<-F.len];omega);rw[e1]at g1;cases g1;exact g3
   have Wp:o.dst≠some x:=λhd=>MW j o e2 hd ⟨by omega,by omega⟩;have:WW (S q) o.dst (val q) x=S q x:=by
    cases hd:o.dst with
    |none=>rfl
    |some d =>
     simp only[WW];rw[if_neg];intro hx;subst hx;exact Wp hd
   rw[this];exact ih (by omega) (by omega) λk o hk hd hh=>MW k o hk hd ⟨hh.1,by omega⟩
open Classical in
noncomputable def sL (ops:Array Oper) (S:Nat->Nat->V) (N:Nat) (L:Nat->Prop):Nat->V:=λt=>if ∃k o,L k/\ops[k]?=some o/\o.dst=some t then S N t else S 0 t
variable{L:Nat->Prop}
theorem Gh(F:PF ops b ord)(t:pD ops ord S val)(D:∀k m,L k->m<ops.size->Yz b k m=true->L m)(hj:ops[j]?=some o)(hL:¬L j)
  (XO:∀m,m<ops.size->Yz b j m=true->L m):∀x∈looks ops o,sL ops S ord.length L x=S (ord.idxOf j) x:=by
 intro x hx;have Wc:=Zg hj;have Gg:=(F.has j Wc).2;rw[<-F.len]at Gg;unfold sL;by_cases hw:∃(k:Nat) (p:Oper),ops[k]?=some p/\p.dst=some x
 .obtain⟨k,p,hk,hd⟩:=hw
  have Qg:=Zg hk;have aQ:=(F.has k Qg).2;rw[<-F.len]at aQ;have uniq:∀k' p',ops[k']?=some p'->p'.dst=some x->k'=k:=λk' p' h1 h2=>F.inj h1 hk h2 hd;by_cases e:k=j
  .subst e
   rw[if_neg (by rintro⟨k',p',h1,h2,h3⟩;exact hL (uniq k' p' h2 h3▸h1))];exact (t.S0 F (Nat.zero_le _) (by omega) λk' p' h1 h2 hh=>by have:=uniq k' p' h1 h2;subst this;omega).symm
  .rcases (F.dst k j p o x e hk hj hd).2 hx with hb|⟨hb,_⟩
   .rw[if_pos ⟨k,p,XO k Qg hb,hk,hd⟩]
    have:=(F.tX j k Wc Qg hb).1;exact t.S0 F (by omega) (Nat.le_refl _) λk' p' h1 h2 hh=>by have:=uniq k' p' h1 h2;subst this;omega
   .rw[if_neg (by rintro⟨k',p',h1,h2,h3⟩;have:=uniq k' p' h2 h3;subst this;exact hL (D _ _ h1 Wc hb))]
    have:=(F.tX k j Qg Wc hb).1;exact (t.S0 F (Nat.zero_le _) (by omega) λk' p' h1 h2 hh=>by have:=uniq k' p' h1 h2;subst this;omega).symm
 .rw[if_neg (by rintro⟨k',p',h1,h2,h3⟩;exact hw ⟨k',p',h2,h3⟩)]
  exact (t.S0 F (Nat.zero_le _) (by omega) λk' p' h1 h2 hh=>hw ⟨k',p',h1,h2⟩).symm
theorem Ei(F:PF ops b ord)(t:pD ops ord S val)(hj:ops[j]?=some o)(hl:Uw o.op=true):∀x∈looks ops o,S ord.length x=S (ord.idxOf j) x:=by
 intro x hx;have Wc:=Zg hj;have Gg:=(F.has j Wc).2;rw[<-F.len]at Gg;refine t.S0 F (by omega) (Nat.le_refl _) λk p hk hd hh=>?_;have Qg:=Zg hk;by_cases e:k=j
 .subst e;rw[hj]at hk;cases hk;exact F.own k o x hj hl hd hx
 .rcases (F.dst k j p o x e hk hj hd).2 hx with hb|⟨_,hb⟩
  .have:=(F.tX j k Wc Qg hb).1;omega
  .rw[hl]at hb;cases hb
theorem pC(F:PF ops b ord)(t:pD ops ord S val)(hj:ops[j]?=some o)(hd:o.dst=some d):S ord.length d=val (ord.idxOf j):=by
 have Wc:=Zg hj;have Gg:=(F.has j Wc).2;rw[<-F.len]at Gg;have h1:=t.S0 F (x:=d) (p:=ord.idxOf j+1) (q:=ord.length) (by omega) (Nat.le_refl _) λk p hk PU hh=>by
  have:=F.inj hk hj PU hd;subst this;omega
 obtain⟨h3,h4⟩:=F.has j Wc;obtain⟨j',o',e1,e2,e4⟩:=t.step (ord.idxOf j) (by rw[F.len];exact h4);rw[h3]at e1;cases e1;rw[hj]at e2;cases e2;rw[h1,e4,hd];simp[WW]
theorem wO(F:PF ops b ord)(t:pD ops ord S val)(hj:ops[j]?=some o):sL ops S ord.length (λk=>L k\/k=j)=WW (sL ops S ord.length L) o.dst (val (ord.idxOf j)):=by
 funext x
 unfold sL;cases hd:o.dst with
 |none =>
  simp only[WW];have:(∃(k:Nat) (p:Oper),(L k\/k=j)/\ops[k]?=some p/\p.dst=some x)↔(∃(k:Nat) (p:Oper),L k/\ops[k]?=some p/\p.dst=some x):=by
   constructor
   .rintro⟨k,p,h1|h1,h2,h3⟩
    .exact⟨k,p,h1,h2,h3⟩
    .subst h1;rw[hj]at h2;cases h2;rw[hd]at h3;cases h3
   .rintro⟨k,p,h1,h2,h3⟩;exact⟨k,p,.inl h1,h2,h3⟩
  by_cases hc:∃(k:Nat) (p:Oper),L k/\ops[k]?=some p/\p.dst=some x
  .rw[if_pos hc,if_pos (this.2 hc)]
  .rw[if_neg hc,if_neg (λh=>hc (this.1 h))]
 |some d =>
  simp only[WW];by_cases e:x=d
  .subst e
   rw[if_pos rfl,if_pos ⟨j,o,.inr rfl,hj,hd⟩];exact pC F t hj hd
  .rw[if_neg e]
   have:(∃(k:Nat) (p:Oper),(L k\/k=j)/\ops[k]?=some p/\p.dst=some x)↔(∃(k:Nat) (p:Oper),L k/\ops[k]?=some p/\p.dst=some x):=by
    constructor
    .rintro⟨k,p,h1|h1,h2,h3⟩
     .exact⟨k,p,h1,h2,h3⟩
     .subst h1;rw[hj]at h2;cases h2;rw[hd]at h3;cases h3;exact absurd rfl e
    .rintro⟨k,p,h1,h2,h3⟩;exact⟨k,p,.inl h1,h2,h3⟩
   by_cases hc:∃(k:Nat) (p:Oper),L k/\ops[k]?=some p/\p.dst=some x
   .rw[if_pos hc,if_pos (this.2 hc)]
   .rw[if_neg hc,if_neg (λh=>hc (this.1 h))]
def RZ(ops:Array Oper)(ord:List Nat)(Hh:Nat->H)(L:Nat->Prop)(q p:Nat):Prop:=q<=p/\p<ord.length/\(∃j,ord[p]?=some j/\L j/\WS ops Wy j=true)/\(Hh (p+1)).n≠(Hh p).n
structure Hw(ops:Array Oper)(b:Array Nat)(ord:List Nat)(S:Nat->Nat->V)(Hh:Nat->H)(i0:YJ)(w0:World)(n:Nat)(ds:List Deferred)(L:Nat->Prop)(a:Act)(w:World)(i:YJ)(q:Nat):Prop where
 pB:q<=ord.length
 hq:∀p j,p<ord.length->VU ops ord p=true->ord[p]?=some j->(L j↔p<q)
 D:∀k m,L k->m<ops.size->Yz b k m=true->L m
 R:Zb i (Hh q) w
 A:U9 i (sL ops S ord.length L) n ds a
 Ku:∀p,RZ ops ord Hh L q p->∃(x:NV) (C:Array Value) (c:List V) (e:TypeId),Hh (p+1)=(Hh p).new (.cells c e false)/\i (Hh p).n=some x/\x.s=0/\x.ro=false/\w.heap[x.B]?=some (.cells C e (0,0))/\C.size=x.N/\c.length<=x.N /\
  (∀(k:Nat) (v:V),c[k]?=some v->v.Zr=true/\∃u,C[k]?=some u/\ZK i v u)/\w0.heap.size<=x.B/\(∀d y,(Hh q).has d->i d=some y->y.B≠x.B)
 pair:∀p p' x x',RZ ops ord Hh L q p->RZ ops ord Hh L q p'->p≠p'->i (Hh p).n=some x->i (Hh p').n=some x'->x.B≠x'.B
 clear:∀d,(Hh q).n<=d->d<(Hh ord.length).n->i d≠none->∃p,RZ ops ord Hh L q p/\d=(Hh p).n
 NU:∀d,(d<(Hh 0).n\/(Hh ord.length).n<=d)->i d=i0 d
 size:w0.heap.size<=w.heap.size
 keep:∀B,B<w0.heap.size->(∀d x,(Hh 0).Mv d->i0 d=some x->x.B≠B)->w.heap[B]?=w0.heap[B]?
 own:∀d x,(Hh q).Mv d->i d=some x->x.B<w0.heap.size->∃c y,(Hh 0).Mv c/\i0 c=some y/\y.B=x.B
 live:∀d x,(Hh q).has d->i d=some x->x.B<w0.heap.size->∃c y,(Hh 0).has c/\i0 c=some y/\y.B=x.B
 os:w.os=w0.os/\w.tape=w0.tape
 out:w.output=w0.output
variable{i:YJ}{w:World}
theorem Zb.add(hr:Zb i h w){x:NV}{C:Array Value}{c:List V}{e:TypeId}(hx:i h.n=some x)(hs:x.s=0)(jA:x.ro=false)(hB:w.heap[x.B]?=some (.cells C e (0,0)))
  (hN:C.size=x.N) (hl:c.length<=x.N) (hc:∀(k:Nat) (v:V),c[k]?=some v->v.Zr=true/\∃u,C[k]?=some u/\ZK i v u) (hd:∀d y,h.has d->i d=some y->y.B≠x.B) :
  Zb i (h.new (.cells c e false)) w:=by
 refine⟨?_,?_,hr.bound⟩
 .intro d y wN
  rw[H.Xo]at wN;split at wN
  .rename_i e1
   subst e1;cases wN;exact⟨x,C,(0,0),hx,jA,hB,hN,by omega,λ_=>rfl,λk v hk=>by rw[hs,Nat.zero_add];exact hc k v hk⟩
  .exact hr.Y9 d y wN
 .intro d d' y y' p p' h1 h2 h3 h4 Wp h5 h6 h7
  rw[H.Xo]at h1 h2;split at h1
  .rename_i e1
   split at h2
   .rename_i e2;exact absurd (e1.trans e2.symm) Wp
   .subst e1
    rw[hx]at h5;cases h5;exact λhh=>hd d' p' ⟨y',h2,h4⟩ h6 hh.symm
  .split at h2
   .rename_i e2
    subst e2;rw[hx]at h6;cases h6;exact hd d p ⟨y,h1,h3⟩ h5
   .exact hr.inj d d' y y' p p' h1 h2 h3 h4 Wp h5 h6 h7
theorem Qf(h:isNone o.op=false):(kind o.op=.light/\Y7 o.op=false/\Wy o.op=false)\/(kind o.op=.fresh/\Y7 o.op=false/\Wy o.op=true)\/(Y7 o.op=true/\Wy o.op=false):=by
 unfold isNone at h;unfold Y7 Wy;cases hk:kind o.op<;>rw[hk]at h<;>simp at h ⊢
theorem QL(hk:kind o.op=.light)(s:Nat->V)(h:H):YA P K ops o s h=bd (Yq P (Zm ops s o) s h o.op) λv=>some (.ret v,h):=by
 unfold YA;rw[hk]
variable{v:V}
theorem TA(hk:kind o.op=.fresh){s:Nat->V}(e:YA P K ops o s h=some (.ret v,h')):
  (h'=h/\v=.Wz/\∃c want,Zm ops s o=some (c,want)/\WK c want=some false) \/
  (h'.n=h.n+1/\fresh P s h o.op=some (v,h')/\(Zm ops s o=none\/∃c want,Zm ops s o=some (c,want)/\WK c want=some true)):=by
 have bare:Uv P K o s h=some (.ret v,h')->h'.n=h.n+1/\fresh P s h o.op=some (v,h'):=by
  intro hb;unfold Uv at hb;rw[hk]at hb;simp only[]at hb;cases hf:fresh P s h o.op with
  |none=>rw[hf]at hb;cases hb
  |some r =>
   obtain⟨v',h1⟩:=r;rw[hf]at hb;cases hb;exact⟨H8 hf,rfl⟩
 rcases Uu e with ⟨hg,hb⟩|⟨c,want,hg,⟨hw,hb⟩|⟨hw,hb⟩⟩
 .exact .inr ⟨(bare hb).1,(bare hb).2,.inl hg⟩
 .exact .inr ⟨(bare hb).1,(bare hb).2,.inr ⟨c,want,hg,hw⟩⟩
 .cases hb;exact .inl ⟨rfl,rfl,c,want,hg,hw⟩
theorem Pe(hk:kind o.op=.light){s:Nat->V}{r:Rv}(e:YA P K ops o s h=some (r,h')):h'=h:=by
 rw[QL hk]at e;obtain⟨v,_,e⟩:=T7 e;cases e;rfl
variable{x:WI}
theorem H.CT(e:(h.new x).has d):d=h.n\/h.has d:=by
 obtain⟨y,h1,h2⟩:=e;rw[H.Xo]at h1;split at h1
 .rename_i e1;exact .inl e1
 .exact .inr ⟨y,h1,h2⟩
theorem H.wM(e:(h.new x).Mv d):d=h.n\/h.Mv d:=by
 obtain⟨y,h1,h2⟩:=e;rw[H.Xo]at h1;split at h1
 .rename_i e1;exact .inl e1
 .exact .inr ⟨y,h1,h2⟩
theorem posOf(F:PF ops b ord)(h:ord[p]?=some j):ord.idxOf j=p/\j<ops.size:=by
 have hp:=(List.getElem?_eq_some_iff.1 h).1;obtain⟨j',g1,g2,g3⟩:=F.pos p (by rw[<-F.len];exact hp);rw[h]at g1;cases g1;exact⟨g3,g2⟩
variable{i0:YJ}{w0:World}
theorem Hw.next(hK:FC P K)(F:PF ops b ord)(t:Tr P K ops ord S Hh val){n:Nat}{a:Act}(s:Hw ops b ord S Hh i0 w0 n ds L a w i q)
  (Tm:q<ord.length) (hh:VU ops ord q=false) (hf:∀j,ord[q]?=some j->WS ops Wy j=true->L j):Hw ops b ord S Hh i0 w0 n ds L a w i (q+1):=by
 obtain⟨j,o,e1,e2,e3,e4⟩:=t.step q Tm;have hnh:Y7 o.op=false:=by simpa [VU,e1,WS,e2]using hh
 have pO:∀p j,p<ord.length->VU ops ord p=true->ord[p]?=some j->(L j↔p<q+1):=by
  intro p j' hp hv hj;rw[s.hq p j' hp hv hj];have:p≠q:=λe=>by subst e;rw[hh]at hv;cases hv
  omega
 have sub:∀p,RZ ops ord Hh L (q+1) p->RZ ops ord Hh L q p:=λp hp=>⟨by have:=hp.1;omega,hp.2⟩
 by_cases hn:(Hh (q+1)).n=(Hh q).n
 .have heq:Hh (q+1)=Hh q:=by
   rcases Qf (F.knd j o e2)with ⟨h1,_⟩|⟨h1,_⟩|⟨h1,_⟩
   .exact Pe h1 e3
   .rcases TA h1 e3 with ⟨h2,_⟩|⟨h2,_⟩
    .exact h2
    .omega
   .rw[h1]at hnh;cases hnh
  have yq7:∀p,RZ ops ord Hh L q p->RZ ops ord Hh L (q+1) p:=λp hp=>⟨by
   have h1:=hp.1;have:p≠q:=λe=>by subst e;exact hp.2.2.2 hn
   omega,hp.2⟩
  exact {
      pB:=Tm,hq:=pO,D:=s.D,R:=by rw[heq];exact s.R,A:=s.A,
      Ku:=λp hp=>by rw[heq];exact s.Ku p (sub p hp),
      pair:=λp p' x x' h1 h2=>s.pair p p' x x' (sub p h1) (sub p' h2),
      clear:=λd h1 h2 h3=>by
       rw[heq]at h1;obtain⟨p,g1,g2⟩:=s.clear d h1 h2 h3;exact⟨p,yq7 p g1,g2⟩,
      NU:=s.NU,size:=s.size,keep:=s.keep,own:=by rw[heq];exact s.own,live:=by rw[heq];exact s.live,os:=s.os,out:=s.out}
 .have MJ:WS ops Wy j=true:=by
   rcases Qf (F.knd j o e2)with ⟨h1,_⟩|⟨_,_,h1⟩|⟨h1,_⟩
   .exact absurd (by rw[Pe h1 e3]) hn
   .simpa [WS,e2]using h1
   .rw[h1]at hnh;cases hnh
  have hpq:RZ ops ord Hh L q q:=⟨Nat.le_refl _,Tm,⟨j,e1,hf j e1 MJ,MJ⟩,hn⟩
  obtain⟨x,C,c,e,p1,p2,p3,p4,p5,p6,p7,p8,p9,Kh⟩:=s.Ku q hpq;exact {
      pB:=Tm,hq:=pO,D:=s.D,R:=by rw[p1];exact s.R.add p2 p3 p4 p5 p6 p7 p8 Kh,A:=s.A,
      Ku:=λp hp=>by
       obtain⟨x',C',c',e',g1,g2,g3,g4,g5,g6,g7,g8,g9,rL⟩:=s.Ku p (sub p hp);refine⟨x',C',c',e',g1,g2,g3,g4,g5,g6,g7,g8,g9,λd y hd hy=>?_⟩;rw[p1]at hd;rcases H.CT hd with rfl|hd
       .exact s.pair q p y x' hpq (sub p hp) (by have:=hp.1;omega) hy g2
       .exact rL d y hd hy,
      pair:=λp p' x x' h1 h2=>s.pair p p' x x' (sub p h1) (sub p' h2),
      clear:=λd h1 h2 h3=>by
       rw[p1,H.ZP]at h1;obtain⟨p,g1,g2⟩:=s.clear d (by omega) h2 h3;refine⟨p,⟨?_,g1.2⟩,g2⟩;have k1:=g1.1;have k2:p≠q:=λe=>by rw[e]at g2;omega
       omega,
      NU:=s.NU,size:=s.size,keep:=s.keep,
      own:=λd y hd hy hB=>by
       rw[p1]at hd;rcases H.wM hd with rfl|hd
       .rw[p2]at hy;cases hy;omega
       .exact s.own d y hd hy hB,
      live:=λd y hd hy hB=>by
       rw[p1]at hd;rcases H.CT hd with rfl|hd
       .rw[p2]at hy;cases hy;omega
       .exact s.live d y hd hy hB,
      os:=s.os,out:=s.out}
theorem Hw.upto(hK:FC P K)(F:PF ops b ord)(t:Tr P K ops ord S Hh val){n:Nat}{a:Act}(s:Hw ops b ord S Hh i0 w0 n ds L a w i q)
  {m:Nat} (hqm:q<=m) (hm:m<=ord.length) (hh:∀p,q<=p->p<m->VU ops ord p=false/\∀j,ord[p]?=some j->WS ops Wy j=true->L j):Hw ops b ord S Hh i0 w0 n ds L a w i m:=by
 induction m with
 |zero =>
      have:q=0:=by omega
      subst this;exact s
 |succ m ih =>
  by_cases e:q=m+1
  .subst e;exact s
  .have s':=ih (by omega) (by omega) λp h1 h2=>hh p h1 (by omega)
   exact s'.next hK F t (by omega) (hh m (by omega) (by omega)).1 (hh m (by omega) (by omega)).2
mutual
theorem H7:∀(u v:V),V.same u v=true->u=v
 |.bool a,v,h=>by cases v<;>simp_all[V.same]
 |.int k a,v,h=>by cases v<;>simp_all[V.same]
 |.float k a,v,h=>by cases v<;>simp_all[V.same]
 |.str a,v,h=>by cases v<;>simp_all[V.same]
 |.Zh,v,h=>by cases v<;>simp_all[V.same]
 |.ptr a b,v,h=>by cases v<;>simp_all[V.same]
 |.ZO,v,h=>by cases v<;>simp_all[V.same]
 |.sl a b c d,v,h=>by cases v<;>simp_all[V.same]
 |.Sz,v,h=>by cases v<;>simp_all[V.same]
 |.map a,v,h=>by cases v<;>simp_all[V.same]
 |.Tk,v,h=>by cases v<;>simp_all[V.same]
 |.fn f a b,v,h=>by
  cases v<;>first|(simp[V.same]at h;done)|skip
  simp only[V.same,Bool.and_eq_true,decide_eq_true_eq]at h;rw[h.1.1,RY a _ h.1.2,RY b _ h.2]
 |.KM,v,h=>by cases v<;>simp_all[V.same]
 |.iface t a,v,h=>by
  cases v<;>first|(simp[V.same]at h;done)|skip
  simp only[V.same,Bool.and_eq_true,decide_eq_true_eq]at h;rw[h.1,H7 a _ h.2]
 |.agg a,v,h=>by
  cases v<;>first|(simp[V.same]at h;done)|skip
  simp only[V.same]at h;rw[RY a _ h]
 |.Zt a,v,h=>by
  cases v<;>first|(simp[V.same]at h;done)|skip
  simp only[V.same]at h;rw[RY a _ h]
 |.any,v,h=>by cases v<;>simp_all[V.same]
theorem RY:∀(u v:List V),V.Xm u v=true->u=v
 |[],v,h=>by cases v<;>simp_all[V.Xm]
 |a::x,v,h=>by
  cases v with
  |nil=>simp[V.Xm]at h
  |cons b y =>
   simp only[V.Xm,Bool.and_eq_true]at h;rw[H7 a b h.1,RY x y h.2]
end
theorem Hw.aP(F:PF ops b ord){n:Nat}{a a':Act}(s:Hw ops b ord S Hh i0 w0 n ds L a w i q)(hj:ops[j]?=some o)
  (hh:Y7 o.op=false) (hf:Wy o.op=false\/(Hh (ord.idxOf j+1)).n=(Hh (ord.idxOf j)).n) (XO:∀m,m<ops.size->Yz b j m=true->L m)
  (hA:U9 i (sL ops S ord.length (λk=>L k\/k=j)) n ds a'):Hw ops b ord S Hh i0 w0 n ds (λk=>L k\/k=j) a' w i q:=by
 have hP:∀p,RZ ops ord Hh (λk=>L k\/k=j) q p↔RZ ops ord Hh L q p:=by
  intro p;constructor
  .rintro⟨h1,h2,⟨k,h3,h4,h5⟩,h6⟩
   refine⟨h1,h2,⟨k,h3,?_,h5⟩,h6⟩;rcases h4 with h4|rfl
   .exact h4
   .exfalso
    rcases hf with hf|hf
    .simp[WS,hj,hf]at h5
    .have:=(posOf F h3).1;subst this;exact h6 hf
  .rintro⟨h1,h2,⟨k,h3,h4,h5⟩,h6⟩;exact⟨h1,h2,⟨k,h3,.inl h4,h5⟩,h6⟩
 exact {
     pB:=s.pB,
     hq:=λp k h1 h2 h3=>by
      rw[<-s.hq p k h1 h2 h3];constructor
      .rintro (h|rfl)
       .exact h
       .simp[VU,h3,WS,hj,hh]at h2
      .exact .inl,
     D:=λk m h1 h2 h3=>by
      rcases h1 with h1|rfl
      .exact .inl (s.D k m h1 h2 h3)
      .exact .inl (XO m h2 h3),
     R:=s.R,A:=hA,Ku:=λp hp=>s.Ku p ((hP p).1 hp),pair:=λp p' x x' h1 h2=>s.pair p p' x x' ((hP p).1 h1) ((hP p').1 h2),
     clear:=λd h1 h2 h3=>by obtain⟨p,g1,g2⟩:=s.clear d h1 h2 h3;exact⟨p,(hP p).2 g1,g2⟩,
     NU:=s.NU,size:=s.size,keep:=s.keep,own:=s.own,live:=s.live,os:=s.os,out:=s.out}
def Head(ops:Array Oper)(ord:List Nat)(q:Nat):Prop:=q=0\/∃p,q=p+1/\VU ops ord p=true
theorem Xk{K':Zs}(hj:ops[j]?=some o){s:Nat->V}{a:Act}(hs:Q8 i s a.tmps){next:Act->World->Prop}{Q:Exit->Act->World->Prop}
  (QS:(Zm ops s o=none\/∃c want,Zm ops s o=some (c,want)/\WK c want=some true)->o.wp P a w next Q)
  (aO:(∃c want,Zm ops s o=some (c,want)/\WK c want=some false)->next (a.put o.dst undef) w)
  (ye:Zm ops s o=none\/∃c want r,Zm ops s o=some (c,want)/\WK c want=some r):wpOp P ops Q j next a w:=by
 unfold wpOp;rw[hj];simp only[];have lS:=Pd (ops:=ops) (o:=o) hs;rcases ye with hg|⟨c,want,r,hg,hc⟩
 .rw[if_pos (lS.1 hg)]
  exact .inl (QS (.inl hg))
 .cases r with
  |true =>
   rw[if_pos (lS.2 _ _ _ hg hc)];exact .inl (QS (.inr ⟨c,want,hg,hc⟩))
  |false =>
   rw[if_neg (by rw[lS.2 _ _ _ hg hc];simp)];exact aO ⟨c,want,hg,hc⟩
theorem Hw.step(hK:FC P K)(F:PF ops b ord)(t:Tr P K ops ord S Hh val){n:Nat}(hd:∀o∈ops.toList,∀x,o.dst=some x->x<n){a:Act}
  (s:Hw ops b ord S Hh i0 w0 n ds L a w i q) (hQ:Head ops ord q) {j:Nat} {o:Oper} (hj:ops[j]?=some o) (hL:¬L j) (XO:∀m,m<ops.size->Yz b j m=true->L m)
  (aN:Uw o.op=true->∃d,o.dst=some d/\Yq P (Zm ops (S ord.length) o) (S ord.length) (Hh q) o.op=some (S ord.length d))
  (next:Act->World->Prop) (Q:Exit->Act->World->Prop)
  (CS:∀a' w' i' q',Hw ops b ord S Hh i0 w0 n ds (λk=>L k\/k=j) a' w' i' q'->Head ops ord q'->next a' w'):wpOp P ops Q j next a w:=by
 have Wc:=Zg hj;have pR:o∈ops.toList:=by have:=Array.mem_of_getElem? hj;simpa using this
 obtain⟨Ly,QK⟩:=F.has j Wc;rw[<-F.len]at QK;have EZ:=Gh F t.s s.D hj hL XO;obtain⟨WY,hS⟩:=t.at F hj;have KE:=wO F t.s (L:=L) hj;have wL:=ZK.ev s.A.s;rcases Qf (F.knd j o hj)with ⟨hk,hh,hf⟩|⟨hk,hh,hf⟩|⟨hh,hf⟩
 .-- it leaves memory alone
  have BG:Yq P (Zm ops (sL ops S ord.length L) o) (sL ops S ord.length L) (Hh q) o.op=some (val (ord.idxOf j)):=by
   by_cases hl:Uw o.op=true
   .obtain⟨d,h1,h2⟩:=aN hl
    have aM:∀x∈looks ops o,sL ops S ord.length L x=S ord.length x:=λx hx=>by rw[EZ x hx,Ei F t.s hj hl x hx]
    rw[guard_congr aM];simp only[Yq]at h2 ⊢;rw[Vp (UM aM),h2,pC F t.s hj h1]
   .have hl:Uw o.op=false:=by simpa using hl
    rw[QL hk]at WY;obtain⟨v,hv,e⟩:=T7 WY;simp only[Option.some.injEq,Prod.mk.injEq,Rv.ret.injEq]at e;rw[<-e.1];rw[guard_congr EZ];simp only[Yq]at hv ⊢;rw[Vp (UM EZ),Em (h':=Hh (ord.idxOf j)) hl];exact hv
  have put:∀u,ZK i (val (ord.idxOf j)) u->next (a.put o.dst u) w:=λu hu =>
   CS _ w i q (s.aP F hj hh (.inl hf) XO (by rw[KE];exact s.A.put (λ_ _ h=>h) hu (hd o pR))) hQ
  have runs:light P (sL ops S ord.length L) (Hh q) o.op=some (val (ord.idxOf j))->o.wp P a w next Q:=by
   intro hl;obtain⟨u,h1,h2⟩:=RW (P:=P) s.R wL o hl;unfold Oper.wp;rw[h1];exact put u h2
  cases hg:Zm ops (sL ops S ord.length L) o with
  |none =>
   rw[hg]at BG;exact Xk (K':=K) hj s.A.s (λ_=>runs BG) (λ⟨c,want,h,_⟩=>by rw[hg]at h;cases h) (.inl hg)
  |some g =>
   obtain⟨c,want⟩:=g;rw[hg]at BG;simp only[Yq]at BG;have hb:=H6 BG;rcases hb with ⟨h1,h2⟩|⟨h1,h2⟩
   .exact Xk (K':=K) hj s.A.s (λ_=>runs h2) (λ⟨c,Pc,h,h'⟩=>by rw[hg]at h;cases h;rw[h1]at h';cases h') (.inr ⟨_,_,_,hg,h1⟩)
   .exact Xk (K':=K) hj s.A.s (λh=>by
     rcases h with h|⟨c,Pc,h,h'⟩
     .rw[hg]at h;cases h
     .rw[hg]at h;cases h;rw[h1]at h';cases h') (λ_=>put undef (by rw[h2];exact ZK.Wz)) (.inr ⟨_,_,_,hg,h1⟩)
 .-- it makes a block
  rcases TA hk WY with ⟨h1,h2,c,want,h3,h4⟩|⟨h1,h2,h3⟩
  .rw[<-guard_congr EZ]at h3
   exact Xk (K':=K) hj s.A.s (λh=>by
     rcases h with h|⟨c',Pc,h,h'⟩
     .rw[h3]at h;cases h
     .rw[h3]at h;cases h;rw[h4]at h';cases h')
    (λ_=>CS _ w i q (s.aP F hj hh (.inr (by rw[h1])) XO (by rw[KE];exact s.A.put (λ_ _ h=>h) (by rw[h2];exact ZK.Wz) (hd o pR))) hQ) (.inr ⟨_,_,_,h3,h4⟩)
  .rw[<-guard_congr EZ]at h3
   refine Xk (K':=K) hj s.A.s (λ_=>?_) (λ⟨c,want,h,h'⟩=>by
    rcases h3 with h3|⟨c',Pc,h3,h4⟩
    .rw[h3]at h;cases h
    .rw[h3]at h;cases h;rw[h4]at h';cases h') (h3.imp id λ⟨c,want,h,h'⟩=>⟨c,want,_,h,h'⟩)
   rw[<-Sb (UM EZ)]at h2;obtain⟨u,w',c,e,C,g1,g2,g3,g4,g5,g6,g7,g8⟩:=Jt (w:=w) wL o h2;unfold Oper.wp;rw[g1]
   show next (a.put o.dst u) w'
   have jz:q<=ord.idxOf j:=by
    rcases Nat.lt_or_ge (ord.idxOf j) q with Tm|jv
    .exfalso
     rcases hQ with rfl|⟨p,rfl,hv⟩
     .omega
     .have Kt:p<ord.length:=by have:=s.pB;omega
      obtain⟨g,k1,k2,k3⟩:=F.pos p (by rw[<-F.len];exact Kt);have hLg:=(s.hq p g Kt hv k1).2 (by omega);have Wp:j≠g:=λe=>hL (e▸hLg);have tW:ops[g]?=some ops[g]:=Array.getElem?_eq_getElem k2;have hgh:Y7 ops[g].op=true:=by simpa [VU,k1,WS,tW]using hv
      rcases F.frs j g o _ Wp hj tW hf hgh with hb|hb|hb
      .have:=(F.tX j g Wc k2 hb).1;omega
      .exact hL (s.D g j hLg Wc hb)
      .omega
    .exact jv
   have lR:=t.n hK jz (Nat.le_of_lt QK);have lQ:=t.n hK (p:=ord.idxOf j+1) (q:=ord.length) QK (Nat.le_refl _);have sS:i (Hh (ord.idxOf j)).n=none:=by
    cases Al:i (Hh (ord.idxOf j)).n with
    |none=>rfl
    |some x =>
     exfalso;obtain⟨p,k1,k2⟩:=s.clear (Hh (ord.idxOf j)).n lR (by omega) (by rw[Al];simp);obtain⟨k3,k4,⟨k,k5,k6,k7⟩,k8⟩:=k1;have hpj:p≠ord.idxOf j:=λe=>by
      subst e;rw[Ly]at k5;cases k5;exact hL k6
     rcases Nat.lt_or_ge p (ord.idxOf j)with Tm|jv
     .have:=t.n hK (p:=p+1) (q:=ord.idxOf j) Tm (by omega)
      have:=t.n hK (p:=p) (q:=p+1) (by omega) (by omega);omega
     .have:=t.n hK (p:=ord.idxOf j+1) (q:=p) (by omega) (by omega)
      omega
   have hle:i.le (i.set (Hh (ord.idxOf j)).n ⟨w.heap.size,0,C.size,false⟩):=YJ.H5 sS;have hold:∀B,B<w.heap.size->w'.heap[B]?=w.heap[B]?:=λB hB=>by rw[g3,Array.getElem?_push,if_neg (Nat.ne_of_lt hB)]
   have KS:∀d,(∃y,(Hh q).get d=some y)->d≠(Hh (ord.idxOf j)).n:=λd ⟨y,hy⟩=>by have:=H.ZW hy;omega
   have wK:∀p,RZ ops ord Hh L q p->(Hh p).n≠(Hh (ord.idxOf j)).n:=λp hp hh'=>by
    obtain⟨x,_,_,_,_,p2,_⟩:=s.Ku p hp;rw[hh',sS]at p2;cases p2
   have NA:∀p,RZ ops ord Hh (λk=>L k\/k=j) q p->RZ ops ord Hh L q p\/p=ord.idxOf j:=by
    rintro p ⟨k1,k2,⟨k,k3,k4,k5⟩,k6⟩;rcases k4 with k4|rfl
    .exact .inl ⟨k1,k2,⟨k,k3,k4,k5⟩,k6⟩
    .exact .inr (posOf F k3).1.symm
   refine CS _ w' (i.set (Hh (ord.idxOf j)).n ⟨w.heap.size,0,C.size,false⟩) q (Hw.mk s.pB ?_ ?_ ?_ ?_ ?_ ?_ ?_ ?_ ?_ ?_ ?_ ?_ ?_ ?_) hQ
   .intro p k Tt Eh CQ
    rw[<-s.hq p k Tt Eh CQ];constructor
    .rintro (h|rfl)
     .exact h
     .simp[VU,CQ,WS,hj,hh]at Eh
    .exact .inl
   .intro k m Tt Eh CQ
    rcases Tt with Tt|rfl
    .exact .inl (s.D k m Tt Eh CQ)
    .exact .inl (XO m Eh CQ)
   .refine⟨λd y wN=>?_,λd d' y y' p p' Tt Eh CQ Od h5' h6' h7' h8'=>?_,λd y wN=>?_⟩
    .exact (s.R.Y9 d y wN).mono hle λz hz=>hold _ (s.R.bound _ _ hz)
    .rw[YJ.YB (KS d ⟨_,Tt⟩)]at h6'
     rw[YJ.YB (KS d' ⟨_,Eh⟩)]at h7';exact s.R.inj d d' y y' p p' Tt Eh CQ Od h5' h6' h7' h8'
    .have hsz:w'.heap.size=w.heap.size+1:=by rw[g3];simp
     by_cases e':d=(Hh (ord.idxOf j)).n
     .subst e';rw[YJ.YK]at wN;cases wN;simp[hsz]
     .rw[YJ.YB e']at wN;have:=s.R.bound _ _ wN;omega
   .rw[KE]
    exact s.A.put hle (g8 _ YJ.YK) (hd o pR)
   .intro p hp
    rcases NA p hp with hp|rfl
    .obtain⟨x,C',c',e',p1,p2,p3,p4,p5,p6,p7,p8,p9,Kh⟩:=s.Ku p hp
     refine⟨x,C',c',e',p1,by rw[YJ.YB (wK p hp)];exact p2,p3,p4,by rw[hold _ (s.R.bound _ _ p2)];exact p5,p6,p7,λk v PQ=>?_,p9,λd y PU hy=>?_⟩
     .obtain⟨k1,u',k2,k3⟩:=p8 k v PQ;exact⟨k1,u',k2,k3.mono hle⟩
     .obtain⟨z,hz,uC⟩:=PU
      rw[YJ.YB (KS d ⟨z,hz⟩)]at hy;exact Kh d y ⟨z,hz,uC⟩ hy
    .refine⟨_,C,c,e,g2,YJ.YK,rfl,rfl,by rw[g3];simp,rfl,g6,λk v PQ=>?_,s.size,λd y PU hy=>?_⟩
     .obtain⟨k1,u',k2,k3⟩:=g7 k v PQ;exact⟨k1,u',k2,k3.mono hle⟩
     .obtain⟨z,hz,uC⟩:=PU
      rw[YJ.YB (KS d ⟨z,hz⟩)]at hy;have:=s.R.bound _ _ hy
      show y.B≠w.heap.size
      omega
   .intro p p' x x' hp JQ Wp hx rK
    rcases NA p hp with hp|rfl
    .rw[YJ.YB (wK p hp)]at hx
     rcases NA p' JQ with JQ|rfl
     .rw[YJ.YB (wK p' JQ)]at rK
      exact s.pair p p' x x' hp JQ Wp hx rK
     .rw[YJ.YK]at rK;cases rK
      have:=s.R.bound _ _ hx
      show x.B≠w.heap.size
      omega
    .rw[YJ.YK]at hx;cases hx
     rcases NA p' JQ with JQ|rfl
     .rw[YJ.YB (wK p' JQ)]at rK
      have:=s.R.bound _ _ rK
      show w.heap.size≠x'.B
      omega
     .exact absurd rfl Wp
   .intro d Tt Eh CQ
    by_cases e':d=(Hh (ord.idxOf j)).n
    .exact⟨ord.idxOf j,⟨jz,QK,⟨j,Ly,.inr rfl,by simpa [WS,hj]using hf⟩,by omega⟩,e'⟩
    .rw[YJ.YB e']at CQ
     obtain⟨p,⟨k1,k2,⟨k,k3,k4,k5⟩,k6⟩,k7⟩:=s.clear d Tt Eh CQ;exact⟨p,⟨k1,k2,⟨k,k3,.inl k4,k5⟩,k6⟩,k7⟩
   .intro d Sk
    have h0:=t.n hK (p:=0) (q:=ord.idxOf j) (Nat.zero_le _) (Nat.le_of_lt QK);rw[YJ.YB (by omega)];exact s.NU d Sk
   .have hsz:w'.heap.size=w.heap.size+1:=by rw[g3];simp
    have:=s.size;omega
   .intro B hB MW
    rw[hold B (by have:=s.size;omega)];exact s.keep B hB MW
   .intro d x PU hx hB
    obtain⟨z,hz,uC⟩:=PU;rw[YJ.YB (KS d ⟨z,hz⟩)]at hx;exact s.own d x ⟨z,hz,uC⟩ hx hB
   .intro d x PU hx hB
    obtain⟨z,hz,uC⟩:=PU;rw[YJ.YB (KS d ⟨z,hz⟩)]at hx;exact s.live d x ⟨z,hz,uC⟩ hx hB
   .exact⟨g4.1.trans s.os.1,g4.2.trans s.os.2⟩
   .rw[g5,s.out]
 .-- it writes,or calls
  have hvp:VU ops ord (ord.idxOf j)=true:=by simp[VU,Ly,WS,hj,hh]
  have jz:q<=ord.idxOf j:=by
   rcases Nat.lt_or_ge (ord.idxOf j) q with Tm|jv
   .exact absurd ((s.hq _ j QK hvp Ly).2 Tm) hL
   .exact jv
  have s':Hw ops b ord S Hh i0 w0 n ds L a w i (ord.idxOf j):=by
   refine s.upto hK F t jz (Nat.le_of_lt QK) λp h1 h2=>?_;have Kt:p<ord.length:=by omega
   obtain⟨g,k1,k2,k3⟩:=F.pos p (by rw[<-F.len];exact Kt);have tW:ops[g]?=some ops[g]:=Array.getElem?_eq_getElem k2;have Wp:g≠j:=λe=>by subst e;omega
   constructor
   .cases hv:VU ops ord p with
    |false=>rfl
    |true =>
     exfalso;have hgh:Y7 ops[g].op=true:=by simpa [VU,k1,WS,tW]using hv
     have hLg:L g:=by
      rcases F.hvy g j _ o Wp tW hj hgh hh with hb|hb
      .have:=(F.tX g j k2 Wc hb).1;omega
      .exact XO g k2 hb
     have:=(s.hq p g Kt hv k1).1 hLg;omega
   .intro g' aL MJ
    rw[k1]at aL;have e:g=g':=Option.some.inj aL;subst e;have hgf:Wy ops[g].op=true:=by simpa [WS,tW]using MJ
    rcases F.frs g j _ o Wp tW hj hgf hh with hb|hb|hb
    .have:=(F.tX g j k2 Wc hb).1;omega
    .exact XO g k2 hb
    .omega
  have yq6:YA P K ops o (sL ops S ord.length L) (Hh (ord.idxOf j))=some (.ret (val (ord.idxOf j)),Hh (ord.idxOf j+1)):=by rw[Ek EZ];exact WY
  have lQ:=t.n hK (p:=ord.idxOf j+1) (q:=ord.length) QK (Nat.le_refl _);have yq5:=t.n hK (p:=0) (q:=ord.idxOf j) (Nat.zero_le _) (Nat.le_of_lt QK);have V3:i.clear (Hh (ord.idxOf j)).n (Hh (ord.idxOf j+1)).n:=by
   intro d h1 h2;cases hid:i d with
   |none=>rfl
   |some x =>
    exfalso;obtain⟨p,⟨k1,k2,⟨k,k3,k4,k5⟩,k6⟩,k7⟩:=s'.clear d h1 (by omega) (by rw[hid];simp);have hpj:p≠ord.idxOf j:=λe=>by
     subst e;rw[Ly]at k3;cases k3;exact hL k4
    have:=t.n hK (p:=ord.idxOf j+1) (q:=p) (by omega) (by omega);omega
  -- behind it
  have behind:∀u i' w',Zb i' (Hh (ord.idxOf j+1)) w'->Fr i (Hh (ord.idxOf j)) w i' (Hh (ord.idxOf j+1)) w'->ZK i' (val (ord.idxOf j)) u->next (a.put o.dst u) w':=by
   intro u i' w' hr MJ hu;have hle:=MJ.le V3;have NA:∀p,RZ ops ord Hh (λk=>L k\/k=j) (ord.idxOf j+1) p->RZ ops ord Hh L (ord.idxOf j) p:=by
    rintro p ⟨k1,k2,⟨k,k3,k4,k5⟩,k6⟩;refine⟨by omega,k2,⟨k,k3,?_,k5⟩,k6⟩;rcases k4 with k4|rfl
    .exact k4
    .simp[WS,hj,hf]at k5
   have wK:∀p,RZ ops ord Hh (λk=>L k\/k=j) (ord.idxOf j+1) p->i' (Hh p).n=i (Hh p).n:=by
    rintro p ⟨k1,k2,_⟩;exact MJ.NU _ (.inr (t.n hK k1 (Nat.le_of_lt k2)))
   refine CS _ w' i' (ord.idxOf j+1) (Hw.mk QK ?_ ?_ hr ?_ ?_ ?_ ?_ ?_ ?_ ?_ ?_ ?_ ?_ ?_) (.inr ⟨_,rfl,hvp⟩)
   .intro p k h1 h2 h3
    constructor
    .rintro (h|rfl)
     .have:=(s'.hq p k h1 h2 h3).1 h;omega
     .have:=(posOf F h3).1;omega
    .intro h
     by_cases e:p=ord.idxOf j
     .subst e;rw[Ly]at h3;cases h3;exact .inr rfl
     .exact .inl ((s'.hq p k h1 h2 h3).2 (by omega))
   .intro k m h1 h2 h3
    rcases h1 with h1|rfl
    .exact .inl (s.D k m h1 h2 h3)
    .exact .inl (XO m h2 h3)
   .rw[KE]
    exact s.A.put hle hu (hd o pR)
   .intro p hp
    obtain⟨x,C,c,e,p1,p2,p3,p4,p5,p6,p7,p8,p9,Kh⟩:=s'.Ku p (NA p hp);have hH:=s'.R.bound _ _ p2;refine⟨x,C,c,e,p1,by rw[wK p hp];exact p2,p3,p4,?_,p6,p7,λk v PQ=>?_,p9,λd y PU hy hh'=>?_⟩
    .rw[MJ.keep x.B hH λd y lP hy=>Kh d y (by obtain⟨z,z1,z2⟩:=lP;exact⟨z,z1,by cases z<;>simp_all[WI.own,WI.live]⟩) hy]
     exact p5
    .obtain⟨k1,u',k2,k3⟩:=p8 k v PQ;exact⟨k1,u',k2,k3.mono hle⟩
    .obtain⟨d',y',l1,l2,l3⟩:=MJ.live d y PU hy (by omega)
     exact Kh d' y' l1 l2 (by omega)
   .intro p p' x x' hp JQ Wp hx rK
    rw[wK p hp]at hx;rw[wK p' JQ]at rK;exact s'.pair p p' x x' (NA p hp) (NA p' JQ) Wp hx rK
   .intro d h1 h2 h3
    rw[MJ.NU d (.inr h1)]at h3;have:=MJ.n;obtain⟨p,⟨k1,k2,⟨k,k3,k4,k5⟩,k6⟩,k7⟩:=s'.clear d (by omega) h2 h3;have hpj:p≠ord.idxOf j:=λe=>by
     subst e;rw[Ly]at k3;cases k3;exact hL k4
    exact⟨p,⟨by omega,k2,⟨k,k3,.inl k4,k5⟩,k6⟩,k7⟩
   .intro d Sk
    have:=MJ.n;rw[MJ.NU d (by omega)];exact s.NU d Sk
   .have:=s.size;have:=MJ.size;omega
   .intro B hB MW
    rw[MJ.keep B (by have:=s.size;omega) λd x lP hx hH=>?_]
    .exact s.keep B hB MW
    .obtain⟨c,y,l1,l2,l3⟩:=s'.own d x lP hx (by omega)
     exact MW c y l1 l2 (l3.trans hH)
   .intro d x lP hx hB
    obtain⟨d',y',l1,l2,l3⟩:=MJ.own d x lP hx (by have:=s.size;omega);obtain⟨c,y,m1,m2,m3⟩:=s'.own d' y' l1 l2 (by omega);exact⟨c,y,m1,m2,m3.trans l3⟩
   .intro d x lP hx hB
    obtain⟨d',y',l1,l2,l3⟩:=MJ.live d x lP hx (by have:=s.size;omega);obtain⟨c,y,m1,m2,m3⟩:=s'.live d' y' l1 l2 (by omega);exact⟨c,y,m1,m2,m3.trans l3⟩
   .exact⟨MJ.os.1.trans s.os.1,MJ.os.2.trans s.os.2⟩
   .rw[MJ.out,s.out]
  have runs:Uv P K o (sL ops S ord.length L) (Hh (ord.idxOf j))=some (.ret (val (ord.idxOf j)),Hh (ord.idxOf j+1))->o.wp P a w next Q:=by
   intro hb;refine Qe hK s'.R s.A.s hb V3 next Q ?_ ?_
   .intro v u i' w' hv g1 g2 g3
    cases hv;exact behind u i' w' g1 g2 g3
   .intro v u i' w' hv;cases hv
  rcases Uu yq6 with ⟨hg,hb⟩|⟨c,want,hg,⟨h1,hb⟩|⟨h1,hb⟩⟩
  .exact Xk (K':=K) hj s.A.s (λ_=>runs hb) (λ⟨c,want,h,_⟩=>by rw[hg]at h;cases h) (.inl hg)
  .exact Xk (K':=K) hj s.A.s (λ_=>runs hb) (λ⟨c,Pc,h,h'⟩=>by rw[hg]at h;cases h;rw[h1]at h';cases h') (.inr ⟨_,_,_,hg,h1⟩)
  .have VJ:val (ord.idxOf j)=.Wz/\Hh (ord.idxOf j+1)=Hh (ord.idxOf j):=by
    simp only[Prod.mk.injEq,Rv.ret.injEq]at hb;exact hb
   exact Xk (K':=K) hj s.A.s (λh=>by
     rcases h with h|⟨c,Pc,h,h'⟩
     .rw[hg]at h;cases h
     .rw[hg]at h;cases h;rw[h1]at h';cases h')
    (λ_=>behind undef i w (by rw[VJ.2];exact s'.R) (by rw[VJ.2];exact Fr.refl _ _ _) (by rw[VJ.1];exact ZK.Wz)) (.inr ⟨_,_,_,hg,h1⟩)
theorem H4{f:Nat->Bool}{N:Nat}(hp:p<N)(hf:f p=true):((List.range N).filter f)[((List.range p).filter f).length]?=some p:=by
 have:List.range N=List.range p++(p::(List.range' (p+1) (N-p-1))):=by
  rw[List.range_eq_range',List.range_eq_range'];have h1:N=p+(1+(N-p-1)):=by omega
  conv=>lhs;rw[h1]
  rw[<-List.range'_append_1,<-List.range'_append_1];simp[List.range'_one]
 rw[this,List.filter_append,List.filter_cons,if_pos hf];simp
theorem Nz{α:Type}{f g:α->Bool}:∀(l:List α) (q:Nat),(∀p x,l[p]?=some x->f x=true->(g x=true↔p<q))->(l.filter λx=>f x&&g x).length=((l.take q).filter f).length
 |[],q,_=>by simp
 |x::l,q,h=>by
  cases q with
  |zero =>
   simp only[List.take_zero,List.filter_nil,List.length_nil];rw[List.length_eq_zero_iff,List.filter_eq_nil_iff];intro y hy;obtain⟨p,hp⟩:=List.getElem?_of_mem hy;have:=h p y hp;cases hf:f y<;>simp_all
  |succ q =>
   have ih:=Nz (f:=f) (g:=g) l q λp y hp hf=>by
    have:=h (p+1) y (by simpa using hp) hf;exact this.trans Nat.succ_lt_succ_iff
   have h0:=h 0 x rfl;simp only[List.take_succ_cons,List.filter_cons];cases hf:f x with
   |false=>simp[ih]
   |true=>simp[(h0 hf).2 (by omega),ih]
theorem filter_le{α:Type}{f g:α->Bool}:∀(l:List α),(∀x∈l,f x=true->g x=true)->(l.filter f).length<=(l.filter g).length
 |[],_=>by simp
 |x::l,h=>by
  have ih:=filter_le (f:=f) (g:=g) l λy hy=>h y (by simp[hy]);simp only[List.filter_cons];cases hf:f x with
  |false=>cases g x<;>simp<;>omega
  |true=>simp[h x (by simp) hf];omega
theorem Pb(ord:List Nat)(q:Nat)(hq:q<=ord.length):((List.range q).filter (VU ops ord)).length=((ord.take q).filter (WS ops Y7)).length:=by
 induction q with
 |zero=>simp
 |succ q ih =>
  rw[List.range_succ,List.filter_append,List.length_append,ih (by omega)];have Tm:q<ord.length:=by omega
  rw[List.take_add_one,List.filter_append,List.length_append]
  congr 1
  simp only[List.getElem?_eq_getElem Tm,Option.toList_some];simp only[List.filter_cons,VU,List.getElem?_eq_getElem Tm,List.filter_nil];split<;>rfl
theorem wJ{all:Array Oper}{s:Nat->V}{hs:List H}:∀{l:List (Nat×List Nat)} {k:Out} {st:St},lO P all s hs l k=some st->∀j ks,(j,ks)∈l->∀o,all[j]?=some o ->
  ∃d,o.dst=some d/\∀m∈ks,∃h,hs[m]?=some h/\Yq P (Zm all s o) s h o.op=some (s d):=by
 intro l
 induction l with
 |nil=>intro k st e j ks hm;simp at hm
 |cons p l ih =>
  obtain⟨j,ks⟩:=p;intro k st e j' aK hm o' aJ;simp only[lO]at e;split at e
  .cases e
  .split at e
   .cases e
   .rename_i _ o ho _ d hd
    have key:∀(ks:List Nat) (m:Out),ks.foldr (λn k=>match hs[n]? with
      |some h=>ck (Yq P (Zm all s o) s h o.op) (s d) k
      |none=>none) m=some st->m=some st/\∀n∈ks,∃h,hs[n]?=some h/\Yq P (Zm all s o) s h o.op=some (s d):=by
     intro ks
     induction ks with
     |nil=>intro m e;exact⟨e,λn hn=>by simp at hn⟩
     |cons q ks lN =>
      intro m e;simp only[List.foldr_cons]at e;split at e
      .rename_i h hh
       unfold ck at e;split at e
       .rename_i u hu
        split at e
        .rename_i aI
         obtain⟨k1,k2⟩:=lN _ e;refine⟨k1,λn hn=>?_⟩;rcases List.mem_cons.1 hn with rfl|hn
         .exact⟨h,hh,by rw[hu,H7 _ _ aI]⟩
         .exact k2 n hn
        .cases e
       .cases e
      .cases e
    obtain⟨k1,k2⟩:=key ks _ e;rcases List.mem_cons.1 hm with hm|hm
    .cases hm
     rw[aJ]at ho;cases ho;exact⟨d,hd,k2⟩
    .exact ih k1 j' aK hm o' aJ
end sim
variable{j:Nat}
theorem Eg{ops:Array Oper}{b:Array Nat}(h:Gf ops b ord=some j):(∃o,ops[j]?=some o/\o.guard=none)/\∀k∈ord,k=j\/Yz b k j=true\/WS ops H3 k=true:=by
 unfold Gf at h;cases hf:ord.find? (WS ops Y7)with
 |none=>rw[hf]at h;cases h
 |some j' =>
  rw[hf]at h;dsimp only at h;cases ho:ops[j']? with
  |none=>rw[ho]at h;simp at h
  |some o =>
   rw[ho]at h;simp only[Option.ite_none_right_eq_some,Option.some.injEq,Bool.and_eq_true,List.all_eq_true,Bool.or_eq_true,beq_iff_eq]at h;obtain⟨⟨⟨h1,h2⟩,h3⟩,rfl⟩:=h;refine⟨⟨o,ho,by simpa using h2⟩,λk hk=>?_⟩;rcases h3 k hk with (h3|h3)|h3
   .exact .inl h3
   .exact .inr (.inl h3)
   .exact .inr (.inr h3)
variable{i:YJ}{w:World}{v:V}
theorem lM(hm:P.follows .mixedOrders=true)(hK:FC P K){keep:List Nat}{id:Nat}{ops:Array Oper}{n:Nat}{ds:List Deferred}(hd:∀o∈ops.toList,∀t,o.dst=some t->t<n){e:E}{a:Act}
  (hr:Zb i h w) (ha:U9 i (e.s keep) n ds a) (hc:i.clear h.n h'.n) {b:Array Nat} {ord:List Nat} (F:PF ops b ord) {j:Nat} {S:Nat->Nat->V} {val:Nat->V} {o:Oper} {q:Nat} (hp:Gf ops b ord=some j) (h0:S 0=e.s keep)
  (t:aH P ops (λi=>Yz b i j) j h ord S val) (ho:ops[j]?=some o) (hq:ord[q]?=some j) (WY:YA P K ops o (S q) h=some (.MZ v,h')) :
  (Code.region id ops true).wp P (Yn i h w keep n ds ⟨.pn v,Uc keep (RU ops.toList) e,h'⟩) a w:=by
 obtain⟨⟨o',aJ,hg⟩,V3⟩:=Eg hp;rw[ho]at aJ;cases aJ;have ts:pD ops ord S val:=⟨λp hp=>by obtain⟨i,o,h1,h2,h3,_⟩:=t.step p hp;exact⟨i,o,h1,h2,h3⟩⟩
 have jz:ord.idxOf j=q:=(posOf F hq).1;have Wc:=Zg ho;have dN:∀s,Zm ops s o=none:=λs=>by unfold Zm;rw[hg]
 refine wp_region_any hm ?_;have main:∀(fuel:Nat) (ZE:Array Bool) (a':Act),ZE.size=ops.size->(∀k m,ZE.getD k false=true->m<ops.size->Yz b k m=true->ZE.getD m false=true)->(∀k,ZE.getD k false=true->k≠j/\Yz b k j=false) ->
   U9 i (sL ops S ord.length (λk=>ZE.getD k false=true)) n ds a'->((List.range ops.size).filter λk=>!ZE.getD k false).length<=fuel ->
   wpAny P .any ops (Yn i h w keep n ds ⟨.pn v,Uc keep (RU ops.toList) e,h'⟩) fuel ZE a' {w with drawn:=w.drawn+1}:=by
  have fin:∀(ZE:Array Bool),ZE.size=ops.size->(∀k,ZE.getD k false=true->k≠j/\Yz b k j=false)->Region.ready .any ops ZE=[]->False:=by
   intro ZE hsz nd XO;have all:∀(p k:Nat),ord[p]?=some k->ZE.getD k false=true:=by
    intro p
    induction p using Nat.strongRecOn with
    |_ p ih =>
     intro k hk;obtain⟨hpk,Qg⟩:=posOf F hk;cases hl:ZE.getD k false with
     |true=>rfl
     |false =>
      exfalso;have UI:k∈Region.ready .any ops ZE:=by
       rw[mem_ready];refine⟨?_,ops[k],Array.getElem?_eq_getElem Qg,λe he hb=>?_⟩
       .have:k<ZE.size:=by omega
        simpa [Array.getD,this]using hl
       .obtain⟨h1,h2⟩:=F.edge k _ e (Array.getElem?_eq_getElem Qg) he hb
        have:=(F.tX k e.on Qg h2 h1).1;obtain⟨g1,g2⟩:=F.has e.on h2;exact ih (ord.idxOf e.on) (by omega) e.on g1
      rw[XO]at UI;simp at UI
   exact (nd j (all q j hq)).1 rfl
  intro fuel
  induction fuel with
  |zero =>
   intro ZE a' hsz D nd hA lL;have wI:(List.range ops.size).filter (λk=>!ZE.getD k false)=[]:=List.eq_nil_of_length_eq_zero (by omega);exfalso;rw[List.filter_eq_nil_iff]at wI;have:=wI j (by simpa using Wc);simp only[Bool.not_eq_true',Bool.not_eq_false]at this;exact (nd j this).1 rfl
  |succ fuel ih =>
   intro ZE a' hsz D nd hA lL;refine⟨λXO=>(fin ZE hsz nd XO).elim,λk UI=>?_⟩;rw[mem_ready]at UI;obtain⟨h1,ok,hk,wH⟩:=UI;have Qg:=Zg hk;have VW:k<ZE.size:=by omega
   have uo:ZE.getD k false=false:=by simpa [Array.getD,VW]using h1
   have hL:¬ZE.getD k false=true:=by rw[uo];simp
   have A2:∀m,m<ops.size->Yz b k m=true->ZE.getD m false=true:=by
    intro m wG hb;obtain⟨e',he',RG,h3⟩:=(F.tX k m Qg wG hb).2 ok hk;have h4:=wH e' he' RG;rcases h3 with h3|h3
    .rw[<-h3];exact h4
    .exact D e'.on m h4 wG h3
   have EZ:=Gh F ts D hk hL A2;have Aj:Zb i h {w with drawn:=w.drawn+1}:=hr.heap rfl;by_cases hkj:k=j
   .subst hkj
    rw[ho]at hk;cases hk;have hb:Uv P K o (sL ops S ord.length (λk=>ZE.getD k false=true)) h=some (.MZ v,h'):=by
     rw[El (UM EZ),jz];rcases Uu WY with ⟨_,hb⟩|⟨_,_,aL,_⟩
     .exact hb
     .rw[dN]at aL;cases aL
    refine Xk (K':=K) ho hA.s (λ_=>?_) (λ⟨c,want,h,_⟩=>by rw[dN]at h;cases h) (.inl (dN _));refine Qe hK Aj hA.s hb hc _ _ (λ_ _ _ _ h=>by cases h) ?_;intro v' u i' w' hv g1 g2 g3;cases hv;refine⟨i',g1,⟨g2.n,g2.size,g2.keep,g2.own,g2.live,g2.NU,g2.os,g2.out⟩,⟨?_,hA.n,hA.d⟩,⟨u,rfl,g3⟩⟩;intro x;rcases pA keep (RU ops.toList) e x with e1|⟨e1,e2⟩
    .show ZK i' ((Uc keep (RU ops.toList) e).s keep x) _
     rw[e1];exact .any _
    .show ZK i' ((Uc keep (RU ops.toList) e).s keep x) _
     rw[e2];have hsx:sL ops S ord.length (λk=>ZE.getD k false=true) x=e.s keep x:=by
      unfold sL;rw[if_neg,h0];rintro⟨k',p',_,h2,h3⟩;have:x∈RU ops.toList:=List.mem_filterMap.2 ⟨p',by have:=Array.mem_of_getElem? h2;simpa using this,h3⟩;have e1':(RU ops.toList).contains x=false:=e1;rw[List.contains_eq_mem]at e1';simp[this]at e1'
     rw[<-hsx];exact (hA.s.mono (g2.le hc)) x
   .have hbk:Yz b k j=false:=by
     cases hb:Yz b k j with
     |false=>rfl
     |true=>exact absurd rfl (nd j (A2 j Wc hb)).1
    have wqZ:WS ops H3 k=true:=by
     have UI:k∈ord:=List.mem_of_getElem? (F.has k Qg).1;rcases V3 k UI with h3|h3|h3
     .exact absurd h3 hkj
     .rw[hbk]at h3;cases h3
     .exact h3
    have KE:=wO F ts (L:=λk=>ZE.getD k false=true) hk;have BG:Yq P (Zm ops (sL ops S ord.length (λk=>ZE.getD k false=true)) ok) (sL ops S ord.length (λk=>ZE.getD k false=true)) h ok.op=some (val (ord.idxOf k)):=by
     obtain⟨g1,g2⟩:=F.has k Qg;obtain⟨k',o',e1,e2,_,e4⟩:=t.step (ord.idxOf k) (by rw[F.len];exact g2);rw[g1]at e1;cases e1;rw[hk]at e2;cases e2;have e5:=e4 hkj hbk;rw[guard_congr EZ];simp only[Yq]at e5 ⊢;rw[Vp (UM EZ)];exact e5
    have wL:=ZK.ev hA.s;have PU:∀t,ok.dst=some t->t<n:=hd ok (by have:=Array.mem_of_getElem? hk;simpa using this);have put:∀u,ZK i (val (ord.idxOf k)) u->wpAny P .any ops (Yn i h w keep n ds ⟨.pn v,Uc keep (RU ops.toList) e,h'⟩) fuel (ZE.setIfInBounds k true) (a'.put ok.dst u) {w with drawn:=w.drawn+1}:=by
     intro u hu;have hL':(λx=>ZE.getD x false=true\/x=k)=λx=>(ZE.setIfInBounds k true).getD x false=true:=by
      funext x
      by_cases e':x=k
      .subst e'
       simp[Array.getD,VW]
      .rw[getD_set_ne false (Ne.symm e')]
       simp[e']
     have pv:∀x,(ZE.setIfInBounds k true).getD x false=true↔ZE.getD x false=true\/x=k:=λx=>by rw[<-congrFun hL' x]
     refine ih _ _ (by simpa using hsz) ?_ ?_ ?_ ?_
     .intro x m hx hm hb
      rw[pv]at hx ⊢;rcases hx with hx|rfl
      .exact .inl (D x m hx hm hb)
      .exact .inl (A2 m hm hb)
     .intro x hx
      rw[pv]at hx;rcases hx with hx|rfl
      .exact nd x hx
      .exact⟨hkj,hbk⟩
     .rw[<-hL',KE]
      exact hA.put (λ_ _ h=>h) hu PU
     .have:((List.range ops.size).filter λx=>!(ZE.setIfInBounds k true).getD x false).length<((List.range ops.size).filter λx=>!ZE.getD x false).length:=by
       have key:∀(l:List Nat),k∈l->(l.filter λx=>!(ZE.setIfInBounds k true).getD x false).length<(l.filter λx=>!ZE.getD x false).length:=by
        intro l
        induction l with
        |nil=>intro hm;simp at hm
        |cons x l ihl =>
         intro hm;have hle:(l.filter λx=>!(ZE.setIfInBounds k true).getD x false).length<=(l.filter λx=>!ZE.getD x false).length:=by
          refine filter_le l λy _ hy=>?_;by_cases e':y=k
          .subst e';simp[uo]
          .rw[getD_set_ne false (Ne.symm e')]at hy;exact hy
         simp only[List.filter_cons];by_cases e':x=k
         .subst e'
          have h5:(ZE.setIfInBounds x true).getD x false=true:=by simp[Array.getD,VW]
          rw[h5,uo];simp only[Bool.not_true,Bool.not_false,Bool.false_eq_true,if_false,if_true,List.length_cons];omega
         .rw[getD_set_ne false (Ne.symm e')]
          have:=ihl (by rcases List.mem_cons.1 hm with hm|hm;exact absurd hm.symm e';exact hm);split
          .simp only[List.length_cons];omega
          .exact this
       exact key _ (by simpa using Qg)
      omega
    have runs:light P (sL ops S ord.length (λk=>ZE.getD k false=true)) h ok.op=some (val (ord.idxOf k))->ok.wp P a' {w with drawn:=w.drawn+1} (λa' w'=>wpAny P .any ops (Yn i h w keep n ds ⟨.pn v,Uc keep (RU ops.toList) e,h'⟩) fuel (ZE.setIfInBounds k true) a' w') (Yn i h w keep n ds ⟨.pn v,Uc keep (RU ops.toList) e,h'⟩):=by
     intro hl;obtain⟨u,g1,g2⟩:=RW (P:=P) Aj wL ok hl;unfold Oper.wp;rw[g1];exact put u g2
    cases rJ:Zm ops (sL ops S ord.length (λk=>ZE.getD k false=true)) ok with
    |none =>
     rw[rJ]at BG;exact Xk (K':=K) hk hA.s (λ_=>runs BG) (λ⟨c,want,h,_⟩=>by rw[rJ]at h;cases h) (.inl rJ)
    |some g =>
     obtain⟨c,want⟩:=g;rw[rJ]at BG;simp only[Yq]at BG;rcases H6 BG with ⟨g1,g2⟩|⟨g1,g2⟩
     .exact Xk (K':=K) hk hA.s (λ_=>runs g2) (λ⟨c,Pc,h,h'⟩=>by rw[rJ]at h;cases h;rw[g1]at h';cases h') (.inr ⟨_,_,_,rJ,g1⟩)
     .exact Xk (K':=K) hk hA.s (λh=>by
       rcases h with h|⟨c,Pc,h,h'⟩
       .rw[rJ]at h;cases h
       .rw[rJ]at h;cases h;rw[g1]at h';cases h') (λ_=>put undef (by rw[g2];exact ZK.Wz)) (.inr ⟨_,_,_,rJ,g1⟩)
 have JK:∀k,(Array.replicate ops.size false).getD k false=true->False:=by
  intro k hk;by_cases VW:k<ops.size<;>simp[Array.getD,VW]at hk
 refine main ops.size _ a (by simp) (λk m hk=>(JK _ hk).elim) (λk hk=>(JK _ hk).elim) ?_ ?_
 .have hs0:sL ops S ord.length (λk=>(Array.replicate ops.size false).getD k false=true)=e.s keep:=by
   funext x
   unfold sL;rw[if_neg,h0];rintro⟨k,p,h1,h2,_⟩;exact JK _ h1
  rw[hs0];exact ha
 .have:=List.length_filter_le (λk=>!(Array.replicate ops.size false).getD k false) (List.range ops.size)
  simpa using this
theorem rH(hm:P.follows .mixedOrders=true):H2 P:=by
 intro K hK keep id ops n ds hd e h st i a w hs hr ha hc;have hn:=po hK hs;refine⟨hn,?_⟩;simp only[FB,if_true]at hs;split at hs
 .cases hs
 .rename_i p hp
  unfold plan at hp;simp only[]at hp;split at hp
  .rename_i SI
   cases hp;have F:=H9 SI;rcases Lx hs with hs|⟨j,S,val,o,v,h',hj,⟨h0,t⟩,ho,⟨q,hq,_,WY⟩,rfl⟩;rotate_left
   .exact lM hm hK hd hr ha hc F hj h0 t ho hq WY
   generalize Region.before ops=b at *;generalize CP ops b=ord at *;obtain⟨S,Hh,val,e1,e2,t,e4⟩:=Gi _ _ _ _ hs;have WY:=Ge e4;cases WY;simp only[List.reverse_append,List.reverse_reverse,List.reverse_cons,List.reverse_nil,List.nil_append,List.singleton_append]at e4;have look:=wJ e4;refine wp_region_any hm ?_
   -- all yq4
   have main:∀(fuel:Nat) (ZE:Array Bool) (a':Act) (w':World) (i':YJ) (q:Nat),ZE.size=ops.size->Hw ops b ord S Hh i {w with drawn:=w.drawn+1} n ds (λk=>ZE.getD k false=true) a' w' i' q->Head ops ord q ->
     ((List.range ops.size).filter λk=>!ZE.getD k false).length<=fuel ->
     wpAny P .any ops (Yn i h w keep n ds ⟨.nm,SN keep (Lw ops.toList) (S ord.length),Hh ord.length⟩) fuel ZE a' w':=by
    -- the end
    have fin:∀(ZE:Array Bool) (a':Act) (w':World) (i':YJ) (q:Nat),ZE.size=ops.size->Hw ops b ord S Hh i {w with drawn:=w.drawn+1} n ds (λk=>ZE.getD k false=true) a' w' i' q ->
      Region.ready .any ops ZE=[]->Yn i h w keep n ds ⟨.nm,SN keep (Lw ops.toList) (S ord.length),Hh ord.length⟩ .normal a' w':=by
     intro ZE a' w' i' q hsz s XO;have all:∀(p j:Nat),ord[p]?=some j->ZE.getD j false=true:=by
      intro p
      induction p using Nat.strongRecOn with
      |_ p ih =>
       intro j hj;obtain⟨hpj,Wc⟩:=posOf F hj;cases hl:ZE.getD j false with
       |true=>rfl
       |false =>
        exfalso;have UI:j∈Region.ready .any ops ZE:=by
         rw[mem_ready];refine⟨?_,ops[j],Array.getElem?_eq_getElem Wc,λe he hb=>?_⟩
         .have:j<ZE.size:=by omega
          simpa [Array.getD,this]using hl
         .obtain⟨h1,h2⟩:=F.edge j _ e (Array.getElem?_eq_getElem Wc) he hb
          have:=(F.tX j e.on Wc h2 h1).1;obtain⟨g1,g2⟩:=F.has e.on h2;exact ih (ord.idxOf e.on) (by omega) e.on g1
        rw[XO]at UI;simp at UI
     have s':=s.upto hK F t s.pB (Nat.le_refl _) λp h1 h2=>by
      refine⟨?_,λj hj _=>all p j hj⟩;cases hv:VU ops ord p with
      |false=>rfl
      |true =>
       exfalso;have hj:ord[p]?=some ord[p]:=List.getElem?_eq_getElem h2;have:=(s.hq p _ h2 hv hj).1 (all p _ hj);omega
     have hsL:sL ops S ord.length (λk=>ZE.getD k false=true)=S ord.length:=by
      funext x
      unfold sL;by_cases hw:∃(k:Nat) (p:Oper),ops[k]?=some p/\p.dst=some x
      .obtain⟨k,p,hk,Ap⟩:=hw
       rw[if_pos ⟨k,p,all _ k (F.has k (Zg hk)).1,hk,Ap⟩]
      .rw[if_neg (by rintro⟨k',p',h1,h2,h3⟩;exact hw ⟨k',p',h2,h3⟩)]
       exact (t.s.S0 F (Nat.zero_le _) (Nat.le_refl _) λk' p' h1 h2 _=>hw ⟨k',p',h1,h2⟩).symm
     have hA:=s'.A;rw[hsL]at hA;have h0:Hh 0=h:=e2;refine⟨i',s'.R,⟨?_,?_,?_,?_,?_,?_,?_,?_⟩,⟨hA.s.keep keep _,hA.n,hA.d⟩,rfl⟩
     .rw[<-h0];exact t.n hK (Nat.zero_le _) (Nat.le_refl _)
     .exact s'.size
     .rw[<-h0];exact s'.keep
     .rw[<-h0];exact s'.own
     .rw[<-h0];exact s'.live
     .rw[<-h0];exact s'.NU
     .exact s'.os
     .exact s'.out
    intro fuel
    induction fuel with
    |zero =>
     intro ZE a' w' i' q hsz s hQ lL;have wI:(List.range ops.size).filter (λk=>!ZE.getD k false)=[]:=List.eq_nil_of_length_eq_zero (by omega);have XO:Region.ready .any ops ZE=[]:=by
      cases qb:Region.ready .any ops ZE with
      |nil=>rfl
      |cons j l =>
       exfalso;have UI:j∈Region.ready .any ops ZE:=by rw[qb];simp
       rw[mem_ready]at UI;obtain⟨h1,o,h2,_⟩:=UI;rw[List.filter_eq_nil_iff]at wI;have Wc:=Zg h2;have:=wI j (by simpa using Wc);have QW:j<ZE.size:=by omega
       simp[Array.getD,QW]at h1 this;rw[h1]at this;cases this
     exact⟨XO,fin ZE a' w' i' q hsz s XO⟩
    |succ fuel ih =>
     intro ZE a' w' i' q hsz s hQ lL;refine⟨λXO=>fin ZE a' w' i' q hsz s XO,λj UI=>?_⟩;rw[mem_ready]at UI;obtain⟨h1,o,hj,wH⟩:=UI;have Wc:=Zg hj;have QW:j<ZE.size:=by omega
     have uo:ZE.getD j false=false:=by simpa [Array.getD,QW]using h1
     have A2:∀m,m<ops.size->Yz b j m=true->ZE.getD m false=true:=by
      intro m wG hb;obtain⟨e',he',RG,h3⟩:=(F.tX j m Wc wG hb).2 o hj;have h4:=wH e' he' RG;rcases h3 with h3|h3
      .rw[<-h3];exact h4
      .exact s.D e'.on m h4 wG h3
     refine s.step hK F t hd hQ hj (by rw[uo];simp) A2 ?_ _ _ ?_
     .intro hl
      have hjw:(j,(List.range (wE ops b ord j+1)).filter λk=>decide (wD ops b ord j<=k))∈H0 ops b ord:=by
       unfold H0;exact List.mem_map.2 ⟨j,List.mem_filter.2 ⟨by simpa using Wc,by simp[WS,hj,hl]⟩,rfl⟩
      obtain⟨d,Sk,aG⟩:=look j _ hjw o hj;refine⟨d,Sk,?_⟩
      -- how many rO operations are behind
      have pj:((ord.take q).filter (WS ops Y7)).length=(ord.filter λk=>WS ops Y7 k&&ZE.getD k false).length:=by
       refine (Nz ord q λp x hx hf=>?_).symm;have Kt:=(List.getElem?_eq_some_iff.1 hx).1;exact s.hq p x Kt (by simp[VU,hx,hf]) hx
      have hlo:wD ops b ord j<=((ord.take q).filter (WS ops Y7)).length:=by
       rw[pj];refine filter_le ord λx hx hf=>?_;simp only[Bool.and_eq_true]at hf ⊢;obtain⟨p,hp⟩:=List.getElem?_of_mem hx;exact⟨hf.1,A2 x (posOf F hp).2 hf.2⟩
      have hhi:((ord.take q).filter (WS ops Y7)).length<=wE ops b ord j:=by
       rw[pj];refine filter_le ord λx hx hf=>?_;simp only[Bool.and_eq_true,Bool.not_eq_true']at hf ⊢;refine⟨hf.1,?_⟩;cases hb:Yz b x j with
       |false=>rfl
       |true=>have:=s.D x j hf.2 Wc hb;rw[uo]at this;cases this
      obtain⟨hx,lK,DJ⟩:=aG ((ord.take q).filter (WS ops Y7)).length (List.mem_filter.2 ⟨by simp;omega,by simpa using hlo⟩);have hHq:hx=Hh q:=by
       have h0:Hh 0=h:=e2;rcases hQ with rfl|⟨p,rfl,hv⟩
       .simp at lK;rw[h0];exact lK.symm
       .have Kt:p<ord.length:=by have:=s.pB;omega
        have hlen:((ord.take (p+1)).filter (WS ops Y7)).length=((List.range p).filter (VU ops ord)).length+1:=by
         rw[<-Pb (ops:=ops) ord (p+1) Kt,List.range_succ,List.filter_append];simp[hv]
        rw[hlen]at lK;have:=H4 (f:=VU ops ord) Kt hv;simp only[List.getElem?_cons_succ,List.getElem?_map,this,Option.map_some,Option.some.injEq]at lK;exact lK.symm
      rw[hHq]at DJ;exact DJ
     .intro a2 w2 i2 q2 s2 hQ2
      have hL':(λk=>ZE.getD k false=true\/k=j)=λk=>(ZE.setIfInBounds j true).getD k false=true:=by
       funext k
       by_cases e':k=j
       .subst e'
        simp[Array.getD,QW]
       .rw[getD_set_ne false (Ne.symm e')]
        simp[e']
      rw[hL']at s2;refine ih _ a2 w2 i2 q2 (by simpa using hsz) s2 hQ2 ?_;have:((List.range ops.size).filter λk=>!(ZE.setIfInBounds j true).getD k false).length<((List.range ops.size).filter λk=>!ZE.getD k false).length:=by
       have key:∀(l:List Nat),j∈l->(l.filter λk=>!(ZE.setIfInBounds j true).getD k false).length<(l.filter λk=>!ZE.getD k false).length:=by
        intro l
        induction l with
        |nil=>intro hm;simp at hm
        |cons x l ihl =>
         intro hm;have hle:(l.filter λk=>!(ZE.setIfInBounds j true).getD k false).length<=(l.filter λk=>!ZE.getD k false).length:=by
          refine filter_le l λy _ hy=>?_;by_cases e':y=j
          .subst e';simp[uo]
          .rw[getD_set_ne false (Ne.symm e')]at hy;exact hy
         simp only[List.filter_cons];by_cases e':x=j
         .subst e'
          have h5:(ZE.setIfInBounds x true).getD x false=true:=by simp[Array.getD,QW]
          rw[h5,uo];simp only[Bool.not_true,Bool.not_false,Bool.false_eq_true,if_false,if_true,List.length_cons];omega
         .rw[getD_set_ne false (Ne.symm e')]
          have:=ihl (by rcases List.mem_cons.1 hm with hm|hm;exact absurd hm.symm e';exact hm);split
          .simp only[List.length_cons];omega
          .exact this
       exact key _ (by simpa using Wc)
      omega
   -- the begin
   have hs0:sL ops S ord.length (λk=>(Array.replicate ops.size false).getD k false=true)=e.s keep:=by
    funext x
    unfold sL;rw[if_neg,e1];rintro⟨k,p,h1,h2,_⟩;have:=Zg h2;simp[Array.getD,this]at h1
   have JK:∀k,(Array.replicate ops.size false).getD k false=true->False:=by
    intro k hk;by_cases VW:k<ops.size<;>simp[Array.getD,VW]at hk
   have h0:Hh 0=h:=e2;refine main ops.size _ a _ i 0 (by simp) (Hw.mk (Nat.zero_le _) ?_ ?_ ?_ ?_ ?_ ?_ ?_ ?_ ?_ ?_ ?_ ?_ ?_ ?_) (.inl rfl) (by
    have:=List.length_filter_le (λk=>!(Array.replicate ops.size false).getD k false) (List.range ops.size);simpa using this)
   .intro p j _ _ _
    constructor
    .intro hk;exact (JK _ hk).elim
    .intro hk;omega
   .intro k m hk;exact (JK _ hk).elim
   .rw[h0];exact hr.heap rfl
   .rw[hs0];exact ha
   .rintro p ⟨_,_,⟨k,_,hk,_⟩,_⟩;exact (JK _ hk).elim
   .rintro p p' x x' ⟨_,_,⟨k,_,hk,_⟩,_⟩;exact (JK _ hk).elim
   .intro d h1 h2 h3
    rw[h0]at h1;exact absurd (hc d h1 h2) h3
   .intro d _;rfl
   .exact Nat.le_refl _
   .intro B _ _;rfl
   .intro d x h1 h2 _;rw[h0]at h1;exact⟨d,x,by rw[h0];exact h1,h2,rfl⟩
   .intro d x h1 h2 _;rw[h0]at h1;exact⟨d,x,by rw[h0];exact h1,h2,rfl⟩
   .exact⟨rfl,rfl⟩
   .rfl
  .cases hp
end Go.Zf
