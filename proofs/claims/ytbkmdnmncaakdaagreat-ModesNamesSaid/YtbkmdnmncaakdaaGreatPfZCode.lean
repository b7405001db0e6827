import Derived.Test.YtbkmdnmncaakdaaGreatPfZOpsH
import Derived.Control
import Derived.Calls
import Derived.Scope
import Derived.LoopN
set_option linter.unusedVariables false
set_option linter.unusedSimpArgs false
namespace Go.Zf
variable{P:Program}
def ak(i:YJ):Rv->Ending->Prop
 |.ret v,e=>∃u,e=.returned u/\ZK i v u
 |.MZ v,e=>∃u,e=.panicked [{v:=u,recovered:=false}]/\ZK i v u
def HU(P:Program)(f:FuncId)(args:List V)(h:H)(r:Rv)(h':H):Prop :=
 ∀(i:YJ) (w:World) (us:List Value),Zb i h w->ZA i args us->i.clear h.n h'.n ->
  Calls P f us.toArray w λe w'=>∃i',Zb i' h' w'/\Fr i h w i' h' w'/\ak i' r e
def vX(P:Program)(f:FuncId):Prop:=∃fn,P.funcs[f]?=some fn/\fn.body.isNone=false/\(fn.name=="runtime.NumGoroutine")=false
structure FC(P:Program)(K:Zs):Prop where
 ok:∀f args h r h',K f args h=some (r,h')->HU P f args h r h'
 enters:∀f args h r h',K f args h=some (r,h')->vX P f
 n:∀f args h r h',K f args h=some (r,h')->h.n<=h'.n
def YA(P:Program)(K:Zs)(ops:Array Oper)(o:Oper)(s:Nat->V)(h:H):Option (Rv×H) :=
 match kind o.op with
 |.light=>bd (Yq P (Zm ops s o) s h o.op) λv=>some (.ret v,h)
 |.fresh=>bf (Qi P (Zm ops s o) s h o.op) λv h=>some (.ret v,h)
 |.WT=>bf (Qh P (Zm ops s o) s h o.op) λv h=>some (.ret v,h)
 |.call=>QM K (Zm ops s o) s h o.op
 |.none=>none
theorem VT(P:Program)(K:Zs)(ops:Array Oper)(o:Oper)(s:Nat->V)(h:H){β:Type}(pn:V->H->Option β)(k:(Nat->V)->H->Option β):
  tP P K ops o s h pn k=bk (YA P K ops o s h) pn λv h=>k (WW s o.dst v) h:=by
 unfold tP YA;cases kind o.op<;>simp only[]
 .cases Yq P (Zm ops s o) s h o.op<;>rfl
 .cases Qi P (Zm ops s o) s h o.op<;>rfl
 .cases Qh P (Zm ops s o) s h o.op<;>rfl
 .rfl
variable{h h':H}
theorem CH{b o:Nat}{vs:List V}(e:h.X4 b o vs=some h'):h'.n=h.n:=by
 unfold H.X4 at e;split at e
 .split at e
  .cases e;rfl
  .cases e
 .cases e
variable{s:Nat->V}{v:V}
theorem H8{o:Op}(e:fresh P s h o=some (v,h')):h'.n=h.n+1:=by
 cases o<;>simp only[fresh,reduceCtorEq]at e
 case alloc=>replace e:=ZT e;obtain⟨_,_,e⟩:=e;cases e;rfl
 case box=>replace e:=ZT e;obtain⟨_,_,e⟩:=e;cases e;rfl
 case buildSlice =>
  replace e:=ZT e;obtain⟨_,_,e⟩:=e;replace e:=ZT e;obtain⟨_,_,e⟩:=e;split at e
  .cases e
  .replace e:=ZT e;obtain⟨_,_,e⟩:=e
   replace e:=ZT e;obtain⟨_,_,e⟩:=e;cases e;rfl
 case makeSlice =>
  replace e:=ZT e;obtain⟨_,_,e⟩:=e;replace e:=ZT e;obtain⟨_,_,e⟩:=e;replace e:=ZT e;obtain⟨_,_,e⟩:=e;split at e
  .split at e
   .replace e:=ZT e;obtain⟨_,_,e⟩:=e
    cases e;rfl
   .cases e
  .cases e
variable{n:Nat}{x:V}
theorem o6{e size bytes:Nat}{new:List V}(e:Iu e size bytes h x n new=some (v,h')):h.n<=h'.n:=by
 unfold Iu at e;split at e
 .split at e
  .cases e;exact Nat.le_refl _
  .split at e
   .cases e;simp[H.ZP]
   .cases e
 .split at e
  .replace e:=ZT e;obtain⟨_,e1,e⟩:=e
   cases e;exact Nat.le_of_eq (CH e1).symm
  .split at e
   .replace e:=ZT e;obtain⟨_,_,e⟩:=e
    cases e;simp[H.ZP]
   .cases e
 .split at e
  .cases e
  .split at e
   .cases e;exact Nat.le_refl _
   .split at e
    .split at e
     .split at e
      .cases e;simp[H.ZP,H.ZJ]
      .cases e
     .cases e
    .cases e
 .cases e
variable{t:TypeId}{m k:V}
theorem aj{ok:Bool}(e:ai P h t m k ok=some (v,h')):h'=h:=by
 unfold ai at e;replace e:=ZT e;obtain⟨_,_,e⟩:=e;replace e:=ZT e;obtain⟨_,_,e⟩:=e;unfold oe at e;split at e
 .split at e
  .split at e
   .replace e:=ZT e;obtain⟨r,_,e⟩:=e
    cases r<;>cases e<;>rfl
   .cases e
  .cases e
 .cases e
theorem oZ(e:af P h t m k x=some (v,h')):h.n<=h'.n:=by
 unfold af at e;replace e:=ZT e;obtain⟨_,_,e⟩:=e;unfold km at e;split at e
 .split at e
  .split at e
   .replace e:=ZT e;obtain⟨r,_,e⟩:=e
    cases r<;>cases e<;>simp[H.ZJ]
   .cases e
  .cases e
 .cases e
theorem qX{o:Op}(e:WT P s h o=some (v,h')):h.n<=h'.n:=by
 cases o<;>simp only[WT,reduceCtorEq]at e
 case makeMap t r =>
  cases r with
  |some r=>simp at e
  |none =>
   simp only[fy,Option.some.injEq,Prod.mk.injEq]at e;obtain⟨_,rfl⟩:=e;simp[H.ZP]
 case lookup t m k ok=>rw[aj e];exact Nat.le_refl _
 case mapUpdate t m k x=>exact oZ e
 case insert t m k x=>exact oZ e
 case store t a x =>
  unfold stV at e;replace e:=ZT e;obtain⟨_,_,e⟩:=e;unfold Zx at e;split at e
  .split at e
   .split at e
    .replace e:=ZT e;obtain⟨_,e1,e⟩:=e
     cases e;exact Nat.le_of_eq (CH e1).symm
    .cases e
   .cases e
   .cases e
   .split at e
    .replace e:=ZT e;obtain⟨_,e1,e⟩:=e
     rw[vW]at e1;cases e;exact Nat.le_of_eq (CH e1).symm
    .cases e
  .cases e
 case call c =>
  split at e
  .split at e
   .split at e
    .unfold qW at e
     replace e:=ZT e;obtain⟨_,_,e⟩:=e;replace e:=ZT e;obtain⟨_,_,e⟩:=e;replace e:=ZT e;obtain⟨_,_,e⟩:=e;split at e
     .cases e
     .replace e:=ZT e;obtain⟨_,_,e⟩:=e
      unfold apM at e;split at e
      .split at e
       .exact o6 e
       .cases e
      .cases e
    .cases e
    .unfold apV at e
     replace e:=ZT e;obtain⟨_,_,e⟩:=e;replace e:=ZT e;obtain⟨_,_,e⟩:=e;replace e:=ZT e;obtain⟨_,_,e⟩:=e;split at e
     .cases e
     .unfold Vk at e
      replace e:=ZT e;obtain⟨_,_,e⟩:=e;replace e:=ZT e;obtain⟨_,_,e⟩:=e;exact o6 e
   .cases e
  .split at e
   .unfold copyV at e
    replace e:=ZT e;obtain⟨_,_,e⟩:=e;replace e:=ZT e;obtain⟨_,_,e⟩:=e;unfold cpZ at e;replace e:=ZT e;obtain⟨_,_,e⟩:=e;split at e
    .cases e;exact Nat.le_refl _
    .replace e:=ZT e;obtain⟨_,_,e⟩:=e
     replace e:=ZT e;obtain⟨_,e1,e⟩:=e;cases e;exact Nat.le_of_eq (CH e1).symm
    .cases e
   .cases e
  .cases e
variable{c:V}{want:Bool}
theorem H6{x:Option V}(e:gl c want x=some v):(WK c want=some true/\x=some v)\/(WK c want=some false/\v=.Wz):=by
 unfold gl at e;split at e
 .rename_i h;exact .inl ⟨h,e⟩
 .rename_i h;cases e;exact .inr ⟨h,rfl⟩
 .cases e
theorem CG{x:Option (V×H)}{r:V×H}(e:gf c want h x=some r):(WK c want=some true/\x=some r)\/(WK c want=some false/\r=(.Wz,h)):=by
 unfold gf at e;split at e
 .rename_i h;exact .inl ⟨h,e⟩
 .rename_i h;cases e;exact .inr ⟨h,rfl⟩
 .cases e
theorem qV{x:Option (Rv×H)}{r:Rv×H}(e:gk c want h x=some r):(WK c want=some true/\x=some r)\/(WK c want=some false/\r=(.ret .Wz,h)):=by
 unfold gk at e;split at e
 .rename_i h;exact .inl ⟨h,e⟩
 .rename_i h;cases e;exact .inr ⟨h,rfl⟩
 .cases e
def Uv(P:Program)(K:Zs)(o:Oper)(s:Nat->V)(h:H):Option (Rv×H) :=
 match kind o.op with
 |.light=>bd (light P s h o.op) λv=>some (.ret v,h)
 |.fresh=>bf (fresh P s h o.op) λv h=>some (.ret v,h)
 |.WT=>bf (WT P s h o.op) λv h=>some (.ret v,h)
 |.call=>SO K s h o.op
 |.none=>none
variable{K:Zs}{o:Oper}
theorem Uu{ops:Array Oper}{r:Rv×H}(e:YA P K ops o s h=some r):
  (Zm ops s o=none/\Uv P K o s h=some r) \/
  ∃c want,Zm ops s o=some (c,want)/\(WK c want=some true/\Uv P K o s h=some r\/WK c want=some false/\r=(.ret .Wz,h)):=by
 unfold YA at e;unfold Uv;cases hg:Zm ops s o with
 |none =>
  rw[hg]at e;simp only[Yq,Qi,Qh,QM]at e;exact .inl ⟨rfl,e⟩
 |some p =>
  obtain⟨c,want⟩:=p;rw[hg]at e;simp only[Yq,Qi,Qh,QM]at e;right;cases hk:kind o.op<;>rw[hk]at e<;>simp only[]at e
  .cases hl:gl c want (light P s h o.op)with
   |none=>rw[hl]at e;cases e
   |some v =>
    rw[hl]at e;simp only[bd,Option.some.injEq]at e;have hb:=H6 hl;refine⟨c,want,rfl,?_⟩;rcases hb with ⟨h1,h2⟩|⟨h1,h2⟩
    .exact .inl ⟨h1,by rw[h2];simp[bd,e]⟩
    .subst h2;exact .inr ⟨h1,e.symm⟩
  .cases hl:gf c want h (fresh P s h o.op)with
   |none=>rw[hl]at e;cases e
   |some v =>
    obtain⟨v,h'⟩:=v;rw[hl]at e;simp only[bf,Option.some.injEq]at e;have hb:=CG hl;refine⟨c,want,rfl,?_⟩;rcases hb with ⟨h1,h2⟩|⟨h1,h2⟩
    .exact .inl ⟨h1,by rw[h2];simp[bf,e]⟩
    .cases h2;exact .inr ⟨h1,e.symm⟩
  .cases hl:gf c want h (WT P s h o.op)with
   |none=>rw[hl]at e;cases e
   |some v =>
    obtain⟨v,h'⟩:=v;rw[hl]at e;simp only[bf,Option.some.injEq]at e;have hb:=CG hl;refine⟨c,want,rfl,?_⟩;rcases hb with ⟨h1,h2⟩|⟨h1,h2⟩
    .exact .inl ⟨h1,by rw[h2];simp[bf,e]⟩
    .cases h2;exact .inr ⟨h1,e.symm⟩
  .exact⟨c,want,rfl,qV e⟩
  .cases e
variable{r:Rv}
theorem vV(hK:FC P K)(e:Uv P K o s h=some (r,h')):h.n<=h'.n:=by
 unfold Uv at e;split at e
 .cases hl:light P s h o.op with
  |none=>rw[hl]at e;cases e
  |some v=>rw[hl]at e;cases e;exact Nat.le_refl _
 .cases hl:fresh P s h o.op with
  |none=>rw[hl]at e;cases e
  |some v=>obtain⟨v,h1⟩:=v;rw[hl]at e;cases e;have:=H8 hl;omega
 .cases hl:WT P s h o.op with
  |none=>rw[hl]at e;cases e
  |some v=>obtain⟨v,h1⟩:=v;rw[hl]at e;cases e;exact qX hl
 .unfold SO at e
  split at e
  .unfold TB at e
   split at e
   .split at e
    .exact hK.n _ _ _ _ _ e
    .cases e
   .cases e
  .unfold lz at e
   split at e
   .cases e;exact Nat.le_refl _
   .cases e
  .cases e
 .cases e
theorem Lz(hK:FC P K){ops:Array Oper}(e:YA P K ops o s h=some (r,h')):h.n<=h'.n:=by
 rcases Uu e with ⟨_,e⟩|⟨b,want,_,⟨_,e⟩|⟨_,e⟩⟩
 .exact vV hK e
 .exact vV hK e
 .cases e;exact Nat.le_refl _
variable{i:YJ}
theorem Pd{ops:Array Oper}{a:Act}(hs:Q8 i s a.tmps):
  (Zm ops s o=none->Region.wanted o (yielded ops a.tmps)=true) /\
  (∀c want r,Zm ops s o=some (c,want)->WK c want=some r->Region.wanted o (yielded ops a.tmps)=r):=by
 unfold Zm Region.wanted;cases hg:o.guard with
 |none=>simp
 |some p =>
  obtain⟨j,want⟩:=p;simp only[];cases hd:(ops[j]?).bind (·.dst)with
  |none =>
   refine⟨λh=>by simp at h,?_⟩;intro c Pc r h hw;simp only[Option.some.injEq,Prod.mk.injEq]at h;obtain⟨rfl,rfl⟩:=h;simp[WK]at hw
  |some d =>
   refine⟨λh=>by simp at h,?_⟩;intro c Pc r h hw;simp only[Option.some.injEq,Prod.mk.injEq]at h;obtain⟨h1,rfl⟩:=h;have PU:=hs d;rw[h1]at PU;unfold WK at hw;split at hw
   .rename_i b
    cases hw;have ht:a.tmps.getD d undef=.bool b:=by
     generalize a.tmps.getD d undef=u at PU;cases PU;rfl
    have ht':a.tmps[d]?=some (.bool b):=by
     by_cases Tm:d<a.tmps.size
     .simp[Array.getD,Tm]at ht;simp[Tm,ht]
     .simp[Array.getD,Tm,undef]at ht
    unfold yielded;rw[hd,Option.bind_some,ht'];cases b<;>cases want<;>rfl
   .cases hw
    have ht:a.tmps.getD d undef=.tuple #[]:=by
     generalize a.tmps.getD d undef=u at PU;cases PU with
     |Zt h=>cases h;rfl
    have hy:yielded ops a.tmps j=none:=by
     unfold yielded;rw[hd,Option.bind_some];by_cases Tm:d<a.tmps.size
     .simp[Array.getD,Tm]at ht;simp[Tm,ht]
     .simp[Tm]
    rw[hy];rfl
   .cases hw
variable{w:World}
theorem Qe(hK:FC P K)(hr:Zb i h w){a:Act}(hs:Q8 i s a.tmps)(e:Uv P K o s h=some (r,h'))
  (hc:i.clear h.n h'.n) (next:Act->World->Prop) (Q:Exit->Act->World->Prop)
  (vU:∀v u i' w',r=.ret v->Zb i' h' w'->Fr i h w i' h' w'->ZK i' v u->next (a.put o.dst u) w')
  (ae:∀v u i' w',r=.MZ v->Zb i' h' w'->Fr i h w i' h' w'->ZK i' v u->Q (.panic [{v:=u,recovered:=false}]) a w') :
  o.wp P a w next Q:=by
 have wL:∀x,ZK i (ev s x) (a.eval x):=ZK.ev hs;unfold Uv at e;unfold Oper.wp;split at e
 .cases hl:light P s h o.op with
  |none=>rw[hl]at e;cases e
  |some v =>
   rw[hl]at e;cases e;obtain⟨u,h1,h2⟩:=RW (P:=P) hr wL o hl;rw[h1];exact vU v u i w rfl hr (Fr.refl _ _ _) h2
 .cases hl:fresh P s h o.op with
  |none=>rw[hl]at e;cases e
  |some v =>
   obtain⟨v,h1⟩:=v;rw[hl]at e;cases e;have hn:=H8 hl;obtain⟨u,w',x,g1,g2,g3,g4⟩:=F8 (P:=P) hr (hc _ (Nat.le_refl _) (by omega)) wL o hl;rw[g1];exact vU v u _ w' rfl g3 g4 g2
 .cases hl:WT P s h o.op with
  |none=>rw[hl]at e;cases e
  |some v =>
   obtain⟨v,h1⟩:=v;rw[hl]at e;cases e;obtain⟨r,w',i',g1,g2,g3,g4⟩:=F7 (P:=P) hr wL o hl hc;rw[g1];rcases g2 with ⟨rfl,rfl⟩|⟨u,rfl,g2⟩
   .exact vU _ undef i' w' rfl g3 g4 ZK.Wz
   .exact vU _ u i' w' rfl g3 g4 g2
 .unfold SO at e
  split at e
  .rename_i c ho
   unfold TB at e;split at e
   .rename_i f hf
    split at e
    .rename_i g first captured hg
     obtain⟨fn,jj,Bq9,CF⟩:=hK.enters _ _ _ _ _ e;have hfv:=wL f;rw[hg]at hfv;generalize hfu:a.eval f=fu at hfv;cases hfv with
     |@fn _ _ _ us vs hx hy =>
      have QS:(execOp a.eval o).run P w=.ok (.enter g (us++(c.args.toList.map a.eval++vs)).toArray) w:=by
       simp only[execOp,ho,Sem.run_bind,resolve,hf,hfu,Deferred.ofValue,Sem.run_pure,Result.andThen,invoke,callFunc,run_program,jj,CF,Bq9];simp
      rw[QS];have Oo:=hx.append ((ZA.ops wL c.args.toList).append hy);refine (hK.ok _ _ _ _ _ e i w _ hr Oo hc).mono ?_;rintro en w' ⟨i',g1,g2,g3⟩;cases r with
      |ret v =>
       obtain⟨u,rfl,g4⟩:=g3;exact vU v u i' w' rfl g1 g2 g4
      |MZ v =>
       obtain⟨u,rfl,g4⟩:=g3;exact ae v u i' w' rfl g1 g2 g4
    .cases e
   .cases e
  .rename_i x ho
   unfold lz at e;split at e
   .rename_i t v hx
    cases e;have hxv:=wL x;rw[hx]at hxv;generalize hfu:a.eval x=fu at hxv;cases hxv with
    |@iface _ _ u0 hv =>
     have QS:(execOp a.eval o).run P w=.halt (.panic (.iface t u0)) w:=by
      simp only[execOp,ho,Sem.run_bind,hfu];rfl
     rw[QS];exact ae _ _ i w rfl hr (Fr.refl _ _ _) (.iface hv)
   .cases e
  .cases e
 .cases e
structure U9(i:YJ)(s:Nat->V)(n:Nat)(ds:List Deferred)(a:Act):Prop where
 s:Q8 i s a.tmps
 n:a.tmps.size=n
 d:a.defers=ds
variable{j:YJ}
theorem U9.put{ds:List Deferred}{a:Act}(h:U9 i s n ds a)(Ud:i.le j){d:Option Nat}{u:Value}(hv:ZK j v u)(hd:∀t,d=some t->t<n):U9 j (WW s d v) n ds (a.put d u) where
 s:=(h.s.mono Ud).put hv λt ht=>by have:=hd t ht;rw[h.n];exact this
 n:=by cases d<;>simp[Act.put,h.n]
 d:=by cases d<;>simp[Act.put,h.d]
theorem Ec{ds:List Deferred}(hK:FC P K)(all:Array Oper)(n:Nat)(hd:∀o∈all.toList,∀t,o.dst=some t->t<n)(pn:V->H->Out)(fin:(Nat->V)->H->Out)(st:St)(wK:∀v h,pn v h=some st->st.h=h)(S9:∀s h,fin s h=some st->st.h=h)
  (Q:Exit->Act->World->Prop) (i0:YJ) (h0:H) (w0:World) (s0:Nat->V) (eJ:i0.clear h0.n st.h.n)
  (hq:∀s h i a w,fin s h=some st->Zb i h w->Fr i0 h0 w0 i h w->U9 i s n ds a->Q .normal a w)
  (hp:∀s h i a w v u,pn v h=some st->(∀t,(∀o∈all.toList,o.dst≠some t)->s t=s0 t)->Zb i h w->Fr i0 h0 w0 i h w->U9 i s n ds a->ZK i v u->Q (.panic [{v:=u,recovered:=false}]) a w) :
  ∀(l:List Oper) (k:Nat),(∀j,l[j]?=all[k+j]?)->∀(s:Nat->V) (h:H) (i:YJ) (a:Act) (w:World),(∀t,(∀o∈all.toList,o.dst≠some t)->s t=s0 t)->QR P K all pn fin l s h=some st->Zb i h w->Fr i0 h0 w0 i h w->U9 i s n ds a ->
   wpOps P all Q (List.range' k l.length) a w:=by
 have Bq8:∀(l:List Oper) (s:Nat->V) (h:H),QR P K all pn fin l s h=some st->h.n<=st.h.n:=by
  intro l
  induction l with
  |nil=>intro s h e;rw[S9 _ _ e];exact Nat.le_refl _
  |cons o l ih =>
   intro s h e;simp only[QR,VT]at e;cases hs:YA P K all o s h with
   |none=>rw[hs]at e;cases e
   |some r =>
    obtain⟨r,h1⟩:=r;have:=Lz hK hs;rw[hs]at e;cases r with
    |ret v=>exact Nat.le_trans this (ih _ _ e)
    |MZ v=>have h2:=wK _ _ e;rw[h2];exact this
 intro l
 induction l with
 |nil=>intro k hk s h i a w _ e hr hf ha;exact hq s h i a w e hr hf ha
 |cons o l ih =>
  intro k hk s h i a w WY e hr hf ha;have ho:all[k]?=some o:=by have:=hk 0;simpa using this.symm
  have UI:o∈all.toList:=by have:=Array.mem_of_getElem? ho;simpa using this
  have Bq7:∀v t,(∀o∈all.toList,o.dst≠some t)->WW s o.dst v t=s0 t:=by
   intro v t ht;have:=ht o UI;rw[<-WY t ht];cases Sk:o.dst with
   |none=>rfl
   |some d=>simp only[WW];rw[if_neg];intro e';subst e';exact this Sk
  simp only[List.length_cons,List.range'_succ,wpOps,ho];simp only[QR,VT]at e;cases hs:YA P K all o s h with
  |none=>rw[hs]at e;cases e
  |some r =>
   obtain⟨r,h1⟩:=r;rw[hs]at e;have PQ:∀j,l[j]?=all[k+1+j]?:=λj=>by have:=hk (j+1);simpa [Nat.add_assoc,Nat.add_comm 1 j]using this
   have lS:=Pd (ops:=all) (o:=o) ha.s
   -- the operation runs
   have runs:Uv P K o s h=some (r,h1)->o.wp P a w (wpOps P all Q (List.range' (k+1) l.length)) Q:=by
    intro hb;have hle:h1.n<=st.h.n:=by
     cases r with
     |ret v=>exact Bq8 _ _ _ e
     |MZ v=>rw[wK _ _ e];exact Nat.le_refl _
    have V3:i.clear h.n h1.n:=YJ.OJ (hf.clear eJ) hle;refine Qe hK hr ha.s hb V3 _ Q ?_ ?_
    .intro v u i' w' hrv g1 g2 g3
     subst hrv;exact ih (k+1) PQ _ _ i' _ w' (Bq7 v) e g1 (hf.trans g2) (ha.put (g2.le V3) g3 (hd o UI))
    .intro v u i' w' hrv g1 g2 g3
     subst hrv;exact hp s h1 i' a w' v u e WY g1 (hf.trans g2) ⟨ha.s.mono (g2.le V3),ha.n,ha.d⟩ g3
   rcases Uu hs with ⟨hg,hb⟩|⟨b,want,hg,⟨hw,hb⟩|⟨hw,hb⟩⟩
   .rw[if_pos (lS.1 hg)]
    exact .inl (runs hb)
   .rw[if_pos (lS.2 _ _ _ hg hw)]
    exact .inl (runs hb)
   .rw[if_neg (by rw[lS.2 _ _ _ hg hw];simp)]
    cases hb;exact ih (k+1) PQ _ _ i _ w (Bq7 .Wz) e hr hf (ha.put (λ_ _ h=>h) ZK.Wz (hd o UI))
theorem Bq6(ds keep:List Nat)(l:List V)(t:Nat):zZ keep (fgL ds keep l) t=.any\/(ds.contains t=false/\zZ keep (fgL ds keep l) t=zZ keep l t):=by
 induction keep generalizing l with
 |nil=>exact .inl rfl
 |cons k keep ih =>
  cases l with
  |nil=>exact .inl rfl
  |cons v l =>
   simp only[fgL,zZ];by_cases h:t=k
   .subst h
    simp only[if_true];cases hc:ds.contains t<;>simp
   .simp only[h,if_false]
    exact ih l
theorem pA(keep ds:List Nat)(e:E)(t:Nat):(Uc keep ds e).s keep t=.any\/(ds.contains t=false/\(Uc keep ds e).s keep t=e.s keep t):=by
 unfold E.s Uc;by_cases h:t=e.lt
 .simp only[h,if_true]
  cases hc:ds.contains e.lt<;>simp
 .simp only[h,if_false]
  exact Bq6 ds keep e.l t
theorem qU(keep:List Nat)(s:Nat->V)(t:Nat):zZ keep (keep.map s) t=s t\/zZ keep (keep.map s) t=.any:=by
 induction keep with
 |nil=>exact .inr rfl
 |cons k keep ih =>
  simp only[List.map_cons,zZ];split
  .rename_i h;subst h;exact .inl rfl
  .exact ih
theorem qT(keep:List Nat)(last:Nat)(s:Nat->V)(t:Nat):(SN keep last s).s keep t=s t\/(SN keep last s).s keep t=.any:=by
 unfold E.s SN;split
 .rename_i h;subst h;exact .inl rfl
 .exact qU keep s t
theorem Q8.keep{tmps:Array Value}(h:Q8 i s tmps)(keep:List Nat)(last:Nat):Q8 i ((SN keep last s).s keep) tmps:=by
 intro t;rcases qT keep last s t with e|e
 .rw[e];exact h t
 .rw[e];exact .any _
def F6(i:YJ):Ex->Exit->Prop
 |.nm,e=>e=.normal
 |.ex id,e=>e=.exit id
 |.rt,e=>e=.ret
 |.pn v,e=>∃u,e=.panic [{v:=u,recovered:=false}]/\ZK i v u
def Yn(i:YJ)(h:H)(w:World)(keep:List Nat)(n:Nat)(ds:List Deferred)(st:St):Exit->Act->World->Prop :=
 λex a' w'=>∃i',Zb i' st.h w'/\Fr i h w i' st.h w'/\U9 i' (st.e.s keep) n ds a'/\F6 i' st.x ex
def H2(P:Program):Prop:=∀(K:Zs),FC P K->∀(keep:List Nat) (id:Nat) (ops:Array Oper) (n:Nat) (ds:List Deferred) (_:∀o∈ops.toList,∀t,o.dst=some t->t<n) (e:E) (h:H) (st:St) (i:YJ) (a:Act) (w:World),
 FB P K keep ops true e h=some st->Zb i h w->U9 i (e.s keep) n ds a->i.clear h.n st.h.n->h.n<=st.h.n/\(Code.region id ops true).wp P (Yn i h w keep n ds st) a w
variable{st:St}
theorem ly(hK:FC P K)(all:Array Oper){fin:(Nat->V)->H->List H->Out}(S9:∀s h hs,fin s h hs=some st->st.h=h):
  ∀(l:List Nat) (s:Nat->V) (h:H) (hs:List H),QT P K all fin l s h hs=some st->h.n<=st.h.n:=by
 intro l
 induction l with
 |nil=>intro s h hs e;rw[S9 _ _ _ e];exact Nat.le_refl _
 |cons k l ih =>
  intro s h hs e;simp only[QT]at e;split at e
  .cases e
  .rename_i o ho
   rw[VT]at e;cases WY:YA P K all o s h with
   |none=>rw[WY]at e;cases e
   |some r =>
    obtain⟨r,h1⟩:=r;have:=Lz hK WY;rw[WY]at e;cases r with
    |ret v=>exact Nat.le_trans this (ih _ _ _ e)
    |MZ v=>cases e
theorem Ge{all:Array Oper}{hs:List H}:∀{l:List (Nat×List Nat)} {k:Out} {st:St},lO P all s hs l k=some st->k=some st:=by
 intro l
 induction l with
 |nil=>intro k st e;exact e
 |cons p l ih =>
  obtain⟨j,ks⟩:=p;intro k st e;simp only[lO]at e;split at e
  .cases e
  .split at e
   .cases e
   .rename_i _ o _ _ d _
    have key:∀(ks:List Nat) (m:Out),ks.foldr (λn k=>match hs[n]? with
      |some h=>ck (Yq P (Zm all s o) s h o.op) (s d) k
      |none=>none) m=some st->m=some st:=by
     intro ks
     induction ks with
     |nil=>intro m e;exact e
     |cons q ks lN =>
      intro m e;simp only[List.foldr_cons]at e;split at e
      .unfold ck at e
       split at e
       .split at e
        .exact lN _ e
        .cases e
       .cases e
      .cases e
    exact ih (key ks _ e)
structure aH(P:Program)(all:Array Oper)(sk:Nat->Bool)(j:Nat)(h:H)(l:List Nat)(S:Nat->Nat->V)(val:Nat->V):Prop where
 step:∀p,p<l.length->∃i o,l[p]?=some i/\all[i]?=some o/\S (p+1)=WW (S p) o.dst (val p)/\(i≠j->sk i=false->Yq P (Zm all (S p) o) (S p) h o.op=some (val p))
theorem MI{all:Array Oper}{sk:Nat->Bool}{j:Nat}{out:V->H->Out}{k:Out}:∀(l:List Nat) (s:Nat->V) (r:Option (V×H)),prun P K all sk j out h l s r k=some st ->
  k=some st\/∃S val v h',S 0=s/\aH P all sk j h l S val/\out v h'=some st/\(r=some (v,h')\/∃p o,l[p]?=some j/\all[j]?=some o/\YA P K all o (S p) h=some (.MZ v,h'))
 |[],s,r,e=>by
  simp only[prun]at e;split at e
  .rename_i v h'
   exact .inr ⟨λ_=>s,λ_=>.Wz,v,h',rfl,⟨λp hp=>by simp at hp⟩,e,.inl rfl⟩
  .cases e
 |i::l,s,r,e=>by
  have cons:∀(o:Oper) (v0:V),all[i]?=some o->(i≠j->sk i=false->Yq P (Zm all s o) s h o.op=some v0)->∀(S:Nat->Nat->V) (val:Nat->V),S 0=WW s o.dst v0->aH P all sk j h l S val ->
    aH P all sk j h (i::l) (λp=>match p with|0=>s|p+1=>S p) (λp=>match p with|0=>v0|p+1=>val p):=by
   intro o v0 ho hl S val h0 t;refine⟨λp hp=>?_⟩;cases p with
   |zero=>exact⟨i,o,rfl,ho,h0,hl⟩
   |succ p =>
    obtain⟨i',o',a1,a2,a3,a4⟩:=t.step p (by simpa using hp);exact⟨i',o',by simpa using a1,a2,a3,a4⟩
  simp only[prun]at e;split at e
  .cases e
  .rename_i o ho
   split at e
   .rename_i Ud
    subst Ud;split at e
    .cases e
    .rw[VT]at e
     cases WY:YA P K all o s h with
     |none=>rw[WY]at e;cases e
     |some x =>
      obtain⟨x,h1⟩:=x;rw[WY]at e;cases x with
      |ret v=>exact .inl e
      |MZ v =>
       rcases MI l _ _ e with e|⟨S,val,v',h',a1,a2,a3,a4⟩
       .exact .inl e
       .refine .inr ⟨_,_,v',h',rfl,cons o .any ho (λhn=>absurd rfl hn) S val a1 a2,a3,.inr ?_⟩
        rcases a4 with a4|⟨p,o',b1,b2,b3⟩
        .cases a4
         exact⟨0,o,rfl,ho,WY⟩
        .exact⟨p+1,o',by simpa using b1,b2,b3⟩
   .rename_i Ud
    split at e
    .rename_i CD
     rcases MI l _ _ e with e|⟨S,val,v',h',a1,a2,a3,a4⟩
     .exact .inl e
     .refine .inr ⟨_,_,v',h',rfl,cons o .any ho (λ_ hn=>by rw[CD]at hn;cases hn) S val a1 a2,a3,?_⟩
      rcases a4 with a4|⟨p,o',b1,b2,b3⟩
      .exact .inl a4
      .exact .inr ⟨p+1,o',by simpa using b1,b2,b3⟩
    .cases hl:Yq P (Zm all s o) s h o.op with
     |none=>rw[hl]at e;cases e
     |some v0 =>
      rw[hl]at e;rcases MI l _ _ e with e|⟨S,val,v',h',a1,a2,a3,a4⟩
      .exact .inl e
      .refine .inr ⟨_,_,v',h',rfl,cons o v0 ho (λ_ _=>hl) S val a1 a2,a3,?_⟩
       rcases a4 with a4|⟨p,o',b1,b2,b3⟩
       .exact .inl a4
       .exact .inr ⟨p+1,o',by simpa using b1,b2,b3⟩
variable{e:E}
theorem Lx{keep:List Nat}{ops:Array Oper}{p:vT}{k:Out}(hs:Ks P K keep ops p e h k=some st):
  k=some st\/∃(j:Nat) (S:Nat->Nat->V) (val:Nat->V) (o:Oper) (v:V) (h':H),Gf ops (Region.before ops) p.ord=some j/\(S 0=e.s keep/\aH P ops (λi=>Yz (Region.before ops) i j) j h p.ord S val)/\ops[j]?=some o /\
   (∃q,p.ord[q]?=some j/\True/\YA P K ops o (S q) h=some (.MZ v,h'))/\st=⟨.pn v,Uc keep (RU ops.toList) e,h'⟩:=by
 unfold Ks at hs;split at hs
 .exact .inl hs
 .rename_i j hj
  rcases MI _ _ _ hs with hs|⟨S,val,v,h',a1,a2,a3,a4⟩
  .exact .inl hs
  .rcases a4 with a4|⟨q,o,b1,b2,b3⟩
   .cases a4
   .cases a3
    exact .inr ⟨j,S,val,o,v,h',hj,⟨a1,a2⟩,b2,⟨q,b1,trivial,b3⟩,rfl⟩
theorem po(hK:FC P K){keep:List Nat}{ops:Array Oper}{draw:Bool}(hs:FB P K keep ops draw e h=some st):h.n<=st.h.n:=by
 unfold FB at hs;split at hs
 .split at hs
  .cases hs
  .rename_i p _
   rcases Lx hs with hs|⟨j,S,val,o,v,h',f,hj,ho,hp,rfl⟩
   .refine ly hK ops ?_ _ _ _ _ hs
    intro s h Hs e';have:=Ge e';cases this;rfl
   .obtain⟨_,_,_,g⟩:=hp
    exact Lz hK g
 .have:∀(l:List Oper) (s:Nat->V) (h:H),QR P K ops (λv h=>some ⟨.pn v,Uc keep (RU ops.toList) e,h⟩) (λs h=>some ⟨.nm,SN keep (Lw ops.toList) s,h⟩) l s h=some st->h.n<=st.h.n:=by
   intro l
   induction l with
   |nil=>intro s h e;cases e;exact Nat.le_refl _
   |cons o l ih =>
    intro s h e;simp only[QR,VT]at e;cases WY:YA P K ops o s h with
    |none=>rw[WY]at e;cases e
    |some r =>
     obtain⟨r,h1⟩:=r;have:=Lz hK WY;rw[WY]at e;cases r with
     |ret v=>exact Nat.le_trans this (ih _ _ e)
     |MZ v=>cases e;exact this
  exact this _ _ _ hs
theorem T4{x:Out}{k:E->H->Out}(e:sq x k=some st):
  (∃e1 h1,x=some ⟨.nm,e1,h1⟩/\k e1 h1=some st)\/(x=some st/\∀y z,st≠⟨.nm,y,z⟩):=by
 unfold sq at e;split at e
 .rename_i e1 h1;exact .inl ⟨e1,h1,rfl,e⟩
 .rename_i r hr
  cases e;exact .inr ⟨rfl,λy z hh=>hr y z hh⟩
 .cases e
def F5(L:Yy):Prop:=∀(f:E->H->Out),(∀e h st,f e h=some st->h.n<=st.h.n)->∀e h st,L f e h=some st->h.n<=st.h.n
theorem Ut(m:Nat):F5 (XR m):=by
 intro f hf
 induction m with
 |zero=>intro e h st hs;cases hs
 |succ m ih =>
  intro e h st hs;simp only[XR]at hs;rcases T4 hs with ⟨e1,h1,hx,hs⟩|⟨hx,_⟩
  .exact Nat.le_trans (hf _ _ _ hx) (ih _ _ _ hs)
  .exact hf _ _ _ hx
theorem CB(hK:FC P K){L:Yy}(hL:F5 L)(keep:List Nat)(c:Code):∀(e:E) (h:H) (st:St),den P K L keep c e h=some st->h.n<=st.h.n:=by
 induction c with
 |skip=>intro e h st hs;cases hs;exact Nat.le_refl _
 |region id ops draw=>intro e h st hs;exact po hK hs
 |seq a b F4 Eb =>
  intro e h st hs;simp only[den]at hs;rcases T4 hs with ⟨e1,h1,hx,hs⟩|⟨hx,_⟩
  .exact Nat.le_trans (F4 _ _ _ hx) (Eb _ _ _ hs)
  .exact F4 _ _ _ hx
 |cond c a b F4 Eb =>
  intro e h st hs;simp only[den,br]at hs;split at hs
  .exact F4 _ _ _ hs
  .exact Eb _ _ _ hs
  .cases hs
 |block id c ih =>
  intro e h st hs;simp only[den,Y9]at hs;split at hs
  .rename_i hx
   split at hs
   .cases hs;have:=ih _ _ _ hx;exact this
   .cases hs;have:=ih _ _ _ hx;exact this
  .exact ih _ _ _ hs
 |loop c ih =>
  intro e h st hs;exact hL _ (λe h st hs=>ih e h st hs) e h st hs
 |exit id=>intro e h st hs;cases hs;exact Nat.le_refl _
 |scope c ih=>intro e h st hs;exact ih e h st hs
 |label l=>intro e h st hs;cases hs;exact Nat.le_refl _
 |ret=>intro e h st hs;cases hs;exact Nat.le_refl _
 |rangeFunc _ _ _ _ _ _=>intro e h st hs;cases hs
 |goto _=>intro e h st hs;cases hs
 |refuse _=>intro e h st hs;cases hs
variable{w':World}
theorem Yn.nm{ds:List Deferred}{keep:List Nat}{ex:Exit}{a':Act}(hp:Yn i h w keep n ds ⟨.nm,e,h'⟩ ex a' w'):
  ex=.normal/\∃i',Zb i' h' w'/\Fr i h w i' h' w'/\U9 i' (e.s keep) n ds a':=by
 obtain⟨i',h1,h2,h3,h4⟩:=hp;exact⟨h4,i',h1,h2,h3⟩
theorem Yn.trans{ds:List Deferred}{h1:H}{w1:World}{keep:List Nat}{ex:Exit}{a':Act}(hf:Fr i h w j h1 w1)(hp:Yn j h1 w1 keep n ds st ex a' w'):Yn i h w keep n ds st ex a' w':=by
 obtain⟨i',g1,g2,g3,g4⟩:=hp;exact⟨i',g1,hf.trans g2,g3,g4⟩
theorem AT(hD:H2 P)(hK:FC P K)(m:Nat)(keep:List Nat)(n:Nat)(ds:List Deferred)(c:Code)(hd:Vo n c=true):
  ∀(e:E) (h:H) (st:St) (i:YJ) (a:Act) (w:World),den P K (XR m) keep c e h=some st->Zb i h w->U9 i (e.s keep) n ds a->i.clear h.n st.h.n->c.wp P (Yn i h w keep n ds st) a w:=by
 induction c with
 |skip=>intro e h st i a w hs hr ha hc;cases hs;exact wp_skip ⟨i,hr,Fr.refl _ _ _,ha,rfl⟩
 |region id ops draw =>
  intro e h st i a w hs hr ha hc;have qS:∀o∈ops.toList,∀t,o.dst=some t->t<n:=by
   simp only[Vo,List.all_eq_true]at hd;intro o ho t ht;have:=hd o ho;rw[ht]at this;simpa using this
  cases draw with
  |true=>exact (hD K hK keep id ops n ds qS e h st i a w hs hr ha hc).2
  |false =>
   simp only[den,FB,Bool.false_eq_true,if_false]at hs;refine wp_region ?_;rw[List.range_eq_range',<-Array.length_toList];refine Ec hK ops n qS _ _ st (λv h e=>by cases e;rfl) (λs h e=>by cases e;rfl) _ i h w (e.s keep) hc ?_ ?_ ops.toList 0 (λj=>by simp) (e.s keep) h i a w (λ_ _=>rfl) hs hr (Fr.refl _ _ _) ha
   .intro s h' i' a' w' e' g1 g2 g3
    cases e';exact⟨i',g1,g2,⟨g3.s.keep keep _,g3.n,g3.d⟩,rfl⟩
   .intro s h' i' a' w' v u e' WY g1 g2 g3 g4
    cases e';refine⟨i',g1,g2,⟨?_,g3.n,g3.d⟩,u,rfl,g4⟩;intro t;rcases pA keep (RU ops.toList) e t with h1|⟨h1,h2⟩
    .rw[h1];exact .any _
    .rw[h2,<-WY t ?_]
     .exact g3.s t
     .intro o ho hd
      have:t∈RU ops.toList:=List.mem_filterMap.2 ⟨o,ho,hd⟩;simp[this]at h1
 |seq x y ihx ihy =>
  intro e h st i a w hs hr ha hc;simp only[Vo,Bool.and_eq_true]at hd;simp only[den]at hs;refine wp_seq ?_;rcases T4 hs with ⟨e1,h1,hx,hs⟩|⟨hx,Wp⟩
  .have Uo:=CB hK (Ut m) keep x _ _ _ hx
   have U0:=CB hK (Ut m) keep y _ _ _ hs;refine wp_mono (ihx hd.1 e h _ i a w hx hr ha (YJ.OJ hc U0)) ?_;intro ex a' w' hp;obtain⟨rfl,i',g1,g2,g3⟩:=hp.nm;exact wp_mono (ihy hd.2 e1 h1 st i' a' w' hs g1 g3 (g2.clear hc)) λex a' w' hp=>hp.trans g2
  .refine wp_mono (ihx hd.1 e h _ i a w hx hr ha hc) ?_
   intro ex a' w' hp;have:ex≠.normal:=by
    obtain⟨i',g1,g2,g3,g4⟩:=hp;intro he;subst he;obtain⟨sx,se,sh⟩:=st;cases sx<;>simp[F6]at g4;exact Wp se sh rfl
   cases ex<;>first|exact absurd rfl this|exact hp
 |cond c x y ihx ihy =>
  intro e h st i a w hs hr ha hc;simp only[Vo,Bool.and_eq_true]at hd;simp only[den,br]at hs;have GJ:=ZK.ev ha.s c;split at hs
  .rename_i hb
   rw[hb]at GJ;generalize hu:a.eval c=u at GJ;cases GJ;exact wp_cond hu (ihx hd.1 e h st i a w hs hr ha hc)
  .rename_i hb
   rw[hb]at GJ;generalize hu:a.eval c=u at GJ;cases GJ;exact wp_cond hu (ihy hd.2 e h st i a w hs hr ha hc)
  .cases hs
 |block id c ih =>
  intro e h st i a w hs hr ha hc;simp only[den,Y9]at hs;refine wp_block ?_;split at hs
  .rename_i j e1 h1 hx
   have WY:st.h=h1:=by split at hs<;>cases hs<;>rfl
   refine wp_mono (ih hd e h _ i a w hx hr ha (by rw[WY]at hc;exact hc)) ?_;intro ex a' w' hp;obtain⟨i',g1,g2,g3,g4⟩:=hp;have g4:ex=.exit j:=g4;subst g4;simp only[Exit.inBlock];split at hs
   .rename_i hj;cases hs;rw[if_pos hj];exact⟨i',g1,g2,g3,rfl⟩
   .rename_i hj;cases hs;rw[if_neg hj];exact⟨i',g1,g2,g3,rfl⟩
  .rename_i Wp
   refine wp_mono (ih hd e h _ i a w hs hr ha hc) ?_;intro ex a' w' hp;have:∀j,ex≠.exit j:=by
    obtain⟨i',g1,g2,g3,g4⟩:=hp;intro j he;subst he;obtain⟨sx,se,sh⟩:=st;cases sx<;>simp[F6]at g4;subst g4;exact Wp _ se sh hs
   cases ex<;>first|exact absurd rfl (this _)|exact hp
 |loop c ih =>
  intro e h st i a w hs hr ha hc;simp only[den]at hs;have key:∀(k:Nat) (e:E) (h:H) (i:YJ) (a:Act) (w:World),XR k (λe h=>den P K (XR m) keep c e h) e h=some st->Zb i h w->U9 i (e.s keep) n ds a->i.clear h.n st.h.n ->
    Code.rounds P c (Yn i h w keep n ds st) k a w:=by
   intro k
   induction k with
   |zero=>intro e h i a w hs;cases hs
   |succ k lN =>
    intro e h i a w hs hr ha hc;rw[rounds_succ];simp only[XR]at hs;have mono:∀{j:YJ} {h1:H} {w1:World},Fr i h w j h1 w1->∀k a w2,Code.rounds P c (Yn j h1 w1 keep n ds st) k a w2->Code.rounds P c (Yn i h w keep n ds st) k a w2:=by
     intro j h1 w1 hf k
     induction k with
     |zero=>intro a w hh;exact hh
     |succ k ihm =>
      intro a w hh;rw[rounds_succ]at hh ⊢;refine wp_mono hh ?_;intro ex a' w' hq;cases ex<;>first|exact ihm _ _ hq|exact Yn.trans hf hq
    rcases T4 hs with ⟨e1,h1,hx,hs⟩|⟨hx,Wp⟩
    .have U0:=Ut k _ (λe h st hs=>CB hK (Ut m) keep c e h st hs) _ _ _ hs
     refine wp_mono (ih hd e h _ i a w hx hr ha (YJ.OJ hc U0)) ?_;intro ex a' w' hp;obtain⟨rfl,i',g1,g2,g3⟩:=hp.nm;exact mono g2 _ _ _ (lN e1 h1 i' a' w' hs g1 g3 (g2.clear hc))
    .refine wp_mono (ih hd e h _ i a w hx hr ha hc) ?_
     intro ex a' w' hp;have:ex≠.normal:=by
      obtain⟨i',g1,g2,g3,g4⟩:=hp;intro he;subst he;obtain⟨sx,se,sh⟩:=st;cases sx<;>simp[F6]at g4;exact Wp se sh rfl
     cases ex<;>first|exact absurd rfl this|exact hp
  exact wp_loop_rounds m (key m e h i a w hs hr ha hc)
 |exit id=>intro e h st i a w hs hr ha hc;cases hs;exact wp_exit ⟨i,hr,Fr.refl _ _ _,ha,rfl⟩
 |scope c ih =>
  intro e h st i a w hs hr ha hc;refine wp_scope_straight (wp_mono (ih hd e h st i a w hs hr ha hc) ?_);intro ex a' w' hp;cases ex<;>first|exact hp|skip
  obtain⟨i',g1,g2,g3,g4⟩:=hp;obtain⟨sx,se,sh⟩:=st;cases sx<;>simp[F6]at g4
 |label l=>intro e h st i a w hs hr ha hc;cases hs;exact wp_label ⟨i,hr,Fr.refl _ _ _,ha,rfl⟩
 |ret=>intro e h st i a w hs hr ha hc;cases hs;exact wp_ret ⟨i,hr,Fr.refl _ _ _,ha,rfl⟩
 |rangeFunc _ _ _ _ _ _=>intro e h st i a w hs;cases hs
 |goto _=>intro e h st i a w hs;cases hs
 |refuse _=>intro e h st i a w hs;cases hs
theorem T7{α β:Type}{x:Option α}{k:α->Option β}{r:β}(e:bd x k=some r):∃v,x=some v/\k v=some r:=by
 cases x with
 |none=>cases e
 |some v=>exact⟨v,rfl,e⟩
def HT(tmps:Array Value):ResultVar->Sem Value
 |.tmp t=>pure (tmps.getD t undef)
 |.cell a t=>do loadVar t (<-asAddr (tmps.getD a undef))
theorem Ea(fn:Func)(tmps:Array Value):results fn tmps=(do let vs <-fn.results.mapM (HT tmps);pure (if h:vs.size=1 then vs[0]else .tuple vs)):=by
 unfold results
 congr 1
theorem F3(hr:Zb i h w){tmps:Array Value}(hs:Q8 i s tmps):∀(rs:List ResultVar) {vs:List V},SQ P s h rs=some vs ->
  ∃us,ZA i vs us/\(rs.mapM (HT tmps)).run P w=.ok us w:=by
 intro rs
 induction rs with
 |nil=>intro vs e;cases e;exact⟨[],.nil,rfl⟩
 |cons r rs ih =>
  intro vs e;simp only[SQ]at e;obtain⟨v,hv,e⟩:=T7 e;obtain⟨vs',Oo,e⟩:=T7 e;cases e;obtain⟨us,g1,g2⟩:=ih Oo;cases r with
  |tmp t =>
   cases hv;exact⟨_,.cons (hs t) g1,by simp only[List.mapM_cons,HT,Sem.run_bind,Sem.run_pure,g2,Result.andThen]⟩
  |cell b t =>
   simp only[Bq5]at hv;have hb:=hs b;obtain⟨u',h1,h2⟩:=F2 (P:=P) hr hb hv;refine⟨_,.cons h2 g1,?_⟩;generalize hub:tmps.getD b undef=ub at hb h1;have:∃p,ub=.pointer (some p):=by
    unfold KP at hv;split at hv
    .rename_i hp;rw[hp]at hb;cases hb;exact⟨_,rfl⟩
    .cases hv
   obtain⟨p,rfl⟩:=this;have Tt:(loadVar t p).run P w=.ok u' w:=by simpa [Instr.loadAt,Instr.sureAddr,Result.andThen]using h1
   simp only[List.mapM_cons,HT,Sem.run_bind,hub,asAddr,Sem.run_pure,Result.andThen,Tt,g2]
theorem Qb(hD:H2 P)(kp:FuncId->List Nat)(hK:FC P K)(m:Nat){f:FuncId}{args:List V}(e:Nd P kp K (XR m) f args h=some (r,h')):
  HU P f args h r h'/\vX P f/\h.n<=h'.n:=by
 unfold Nd at e;split at e
 .rename_i fn jj
  split at e
  .rename_i c hc
   split at e
   .rename_i tW
    have CF:(fn.name=="runtime.NumGoroutine")=false/\Vo fn.ntmps c=true:=by
     simp only[lx,hc,Bool.and_eq_true,bne,Bool.not_eq_true']at tW;exact tW
    have S9:∃st,den P K (XR m) (kp f) c (VC (kp f) args) h=some st/\fin P (kp f) fn.results.toList (some st)=some (r,h'):=by
     cases vS:den P K (XR m) (kp f) c (VC (kp f) args) h with
     |none=>rw[vS]at e;cases e
     |some st=>rw[vS]at e;exact⟨st,rfl,e⟩
    obtain⟨st,vS,hf⟩:=S9;have hh:st.h=h':=by
     unfold fin at hf;split at hf
     .rename_i e1;cases e1;obtain⟨_,_,hf⟩:=T7 hf;cases hf;rfl
     .rename_i e1;cases e1;obtain⟨_,_,hf⟩:=T7 hf;cases hf;rfl
     .rename_i e1;cases e1;cases hf;rfl
     .cases hf
    have hn:=CB hK (Ut m) (kp f) c _ _ _ vS;refine⟨?_,⟨fn,jj,by rw[hc];rfl,CF.1⟩,by rw[<-hh];exact hn⟩;intro i w us hr hv V3;refine calls_of_wp jj hc ?_;have hlen:=hv.length;have yqY:U9 i ((VC (kp f) args).s (kp f)) (us.toArray++Array.replicate (fn.ntmps-us.toArray.size) undef).size [] {tmps:=us.toArray++Array.replicate (fn.ntmps-us.toArray.size) undef,defers:=[]}:=by
     refine⟨?_,rfl,rfl⟩;refine Q8.keep (s:=AQ args) ?_ _ _;intro t;unfold AQ;split
     .rename_i Tm
      have Ij:=hv.get (k:=t) (v:=args[t]) (List.getElem?_eq_getElem Tm);obtain⟨u,hu,hvu⟩:=Ij;have hut:t<us.length:=by omega
      have:(us.toArray++Array.replicate (fn.ntmps-us.toArray.size) undef).getD t undef=u:=by
       have h2:us[t]=u:=by rw[List.getElem?_eq_getElem hut]at hu;exact Option.some.inj hu
       have yqX:t<us.length+(fn.ntmps-us.length):=by omega
       simp[Array.getD,yqX,Array.getElem_append,hut,h2]
      rw[this];simpa [List.getD,List.getElem?_eq_getElem Tm]using hvu
     .rename_i Tm
      have:(us.toArray++Array.replicate (fn.ntmps-us.toArray.size) undef).getD t undef=undef:=by
       rw[Array.getD_eq_getD_getElem?,Array.getElem?_append_right (by simp;omega),Array.getElem?_replicate];split<;>rfl
      rw[this];exact ZK.Wz
    have qS:Vo (us.toArray++Array.replicate (fn.ntmps-us.toArray.size) undef).size c=true:=by
     have mono:∀(x y:Nat) (_:x<=y) (c:Code),Vo x c=true->Vo y c=true:=by
      intro x y hxy c
      induction c with
      |region id ops draw =>
       simp only[Vo,List.all_eq_true];intro hh o ho;have:=hh o ho;cases Sk:o.dst with
       |none=>rfl
       |some d =>
        rw[Sk]at this;have h1:d<x:=by simpa using this
        simpa using Nat.lt_of_lt_of_le h1 hxy
      |seq a b ha hb=>simp only[Vo,Bool.and_eq_true];exact λhh=>⟨ha hh.1,hb hh.2⟩
      |cond c a b ha hb=>simp only[Vo,Bool.and_eq_true];exact λhh=>⟨ha hh.1,hb hh.2⟩
      |block id c ih=>exact ih
      |loop c ih=>exact ih
      |scope c ih=>exact ih
      |_=>exact λ_=>rfl
     exact mono _ _ (by simp;omega) c CF.2
    refine wp_mono (AT hD hK m (kp f) _ _ c qS _ h st i _ w vS hr yqY (by rw[hh];exact V3)) ?_;intro ex a' w' hp;obtain⟨i',g1,g2,g3,g4⟩:=hp;have Bq4:∀vs,SQ P (st.e.s (kp f)) st.h fn.results.toList=some vs->∃u,(results fn a'.tmps).run P w'=.ok u w'/\ZK i' (Ib vs) u:=by
     intro vs Oo;obtain⟨ur,k1,k2⟩:=F3 (P:=P) g1 g3.s _ Oo;refine⟨if h:ur.toArray.size=1 then ur.toArray[0]else .tuple ur.toArray,?_,?_⟩
     .rw[Ea,Sem.run_bind,Array.mapM_eq_mapM_toList,Sem.run_map,k2]
      rfl
     .cases k1 with
      |nil=>exact .Zt .nil
      |cons q1 q2 =>
       cases q2 with
       |nil=>simpa [Ib]using q1
       |cons q2 q3 =>
        have:=ZK.Zt (.cons q1 (.cons q2 q3));simpa [Ib]using this
    unfold fin at hf;split at hf
    .rename_i e1
     cases e1;obtain⟨vs,Oo,hf⟩:=T7 hf;cases hf;have g4:ex=.normal:=g4;subst g4;obtain⟨u,k1,k2⟩:=Bq4 vs Oo;exact⟨g3.d,u,k1,i',g1,g2,u,rfl,k2⟩
    .rename_i e1
     cases e1;obtain⟨vs,Oo,hf⟩:=T7 hf;cases hf;have g4:ex=.ret:=g4;subst g4;obtain⟨u,k1,k2⟩:=Bq4 vs Oo;exact⟨g3.d,u,k1,i',g1,g2,u,rfl,k2⟩
    .rename_i e1
     cases e1;cases hf;obtain⟨u,rfl,g4⟩:=g4;exact⟨g3.d,i',g1,g2,u,rfl,g4⟩
    .cases hf
   .cases e
  .cases e
 .cases e
theorem CA(hD:H2 P)(kp:FuncId->List Nat):∀n,FC P (Uj P kp n)
 |0=>⟨λ_ _ _ _ _ e=>(by cases e),λ_ _ _ _ _ e=>(by cases e),λ_ _ _ _ _ e=>(by cases e)⟩
 |n+1=>by
  have ih:=CA hD kp n;exact⟨λf args h r h' e=>(Qb hD kp ih (n+1) e).1,λf args h r h' e=>(Qb hD kp ih (n+1) e).2.1,λf args h r h' e=>(Qb hD kp ih (n+1) e).2.2⟩
end Go.Zf
