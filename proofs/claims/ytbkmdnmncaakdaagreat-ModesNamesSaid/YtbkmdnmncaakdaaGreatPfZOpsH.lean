import Derived.Test.YtbkmdnmncaakdaaGreatPfZOpsL
import Derived.Laws.Append
import Derived.Laws.AppendOwn
import Derived.Laws.CopyRow
import Derived.MapKept
set_option linter.unusedVariables false
set_option linter.unusedSimpArgs false
namespace Go.Zf
variable{P:Program}{i:YJ}{h:H}{w:World}
variable{w':World}
theorem Zb.heap(hr:Zb i h w)(e:w'.heap=w.heap):Zb i h w' where
 Y9:=λb x hb=>by
  have:=hr.Y9 b x hb;cases x with
  |dead=>trivial
  |cells c e' ro=>simpa only[Tj,e]using this
  |map es=>simpa only[Tj,e]using this
 inj:=hr.inj
 bound:=λb x hb=>by rw[e];exact hr.bound b x hb
def YJ.set(i:YJ)(b:Nat)(x:NV):YJ:=λc=>if c=b then some x else i c
variable{i:YJ}{b:Nat}
theorem YJ.YK{x:NV}:i.set b x b=some x:=by simp[YJ.set]
theorem YJ.YB{c:Nat}{x:NV}(h:c≠b):i.set b x c=i c:=by simp[YJ.set,h]
theorem YJ.H5{x:NV}(h:i b=none):i.le (i.set b x):=by
 intro c y hc;by_cases e:c=b
 .subst e;rw[h]at hc;cases hc
 .rw[YJ.YB e];exact hc
theorem Tj.mono{j:YJ}(Ud:i.le j){w:World}{x:WI}(hb:Tj i w b x)(hw:∀y,i b=some y->w'.heap[y.B]?=w.heap[y.B]?):Tj j w' b x:=by
 cases x with
 |dead=>trivial
 |cells c e ro =>
  obtain⟨y,C,fr,h1,h2,h3,h4,h5,h6,h7⟩:=hb;refine⟨y,C,fr,Ud _ _ h1,h2,by rw[hw y h1];exact h3,h4,h5,h6,λk v hk=>?_⟩;obtain⟨a,u,b,c⟩:=h7 k v hk;exact⟨a,u,b,c.mono Ud⟩
 |map es =>
  obtain⟨y,E,B0,h1,h2,h3,h4,h5⟩:=hb;exact⟨y,E,B0,Ud _ _ h1,h2,by rw[hw y h1];exact h3,h4.mono Ud,h5.mono Ud⟩
variable{X:WI}
theorem Zb.vC(hr:Zb i h w)(hn:i h.n=none){N:Nat}{o:Obj}
  {w':World} (hw:w'.heap=w.heap.push o) (ho:w'.os=w.os/\w'.tape=w.tape) (hu:w'.output=w.output) (hX:Tj (i.set h.n ⟨w.heap.size,0,N,false⟩) w' h.n X) :
  Zb (i.set h.n ⟨w.heap.size,0,N,false⟩) (h.new X) w' /\
  Fr i h w (i.set h.n ⟨w.heap.size,0,N,false⟩) (h.new X) w':=by
 have hle:i.le (i.set h.n ⟨w.heap.size,0,N,false⟩):=YJ.H5 hn;have hsz:w'.heap.size=w.heap.size+1:=by rw[hw];simp
 have hold:∀B,B<w.heap.size->w'.heap[B]?=w.heap[B]?:=λB hB=>by rw[hw,Array.getElem?_push,if_neg (Nat.ne_of_lt hB)]
 have Wp:∀b x,h.get b=some x->b≠h.n:=λb x hb=>by have:=H.ZW hb;omega
 refine⟨⟨?_,?_,?_⟩,⟨?_,?_,?_,?_,?_,?_,ho,hu⟩⟩
 .intro b x hb
  rw[H.Xo]at hb;split at hb
  .rename_i e'
   subst e';cases hb;exact hX
  .exact (hr.Y9 b x hb).mono hle λy hy=>hold _ (hr.bound _ _ hy)
 .intro b c' x y p q hb SV hx hy ze hp hq Og
  rw[H.Xo]at hb SV;split at hb
  .rename_i e1
   split at SV
   .rename_i e2;exact absurd (e1.trans e2.symm) ze
   .rename_i e2
    subst e1;rw[YJ.YK]at hp;rw[YJ.YB e2]at hq;cases hp;have:=hr.bound _ _ hq;simp;omega
  .rename_i e1
   split at SV
   .rename_i e2
    subst e2;rw[YJ.YK]at hq;rw[YJ.YB e1]at hp;cases hq;have:=hr.bound _ _ hp;simp;omega
   .rename_i e2
    rw[YJ.YB e1]at hp;rw[YJ.YB e2]at hq;exact hr.inj b c' x y p q hb SV hx hy ze hp hq Og
 .intro b x hb
  by_cases e':b=h.n
  .subst e';rw[YJ.YK]at hb;cases hb;simp[hsz]
  .rw[YJ.YB e']at hb;have:=hr.bound _ _ hb;omega
 .simp[H.ZP]
 .omega
 .intro B hB _;exact hold B hB
 .intro b x hb hx Tm
  obtain⟨y,hy,hyo⟩:=hb;rw[H.Xo]at hy;split at hy
  .rename_i e1
   subst e1;rw[YJ.YK]at hx;cases hx;simp at Tm
  .rename_i e1
   rw[YJ.YB e1]at hx;exact⟨b,x,⟨y,hy,hyo⟩,hx,rfl⟩
 .intro b x hb hx Tm
  obtain⟨y,hy,hyo⟩:=hb;rw[H.Xo]at hy;split at hy
  .rename_i e1
   subst e1;rw[YJ.YK]at hx;cases hx;simp at Tm
  .rename_i e1
   rw[YJ.YB e1]at hx;exact⟨b,x,⟨y,hy,hyo⟩,hx,rfl⟩
 .intro b hb
  rw[H.ZP]at hb;exact YJ.YB (by omega)
variable{c:List V}{e:TypeId}
theorem Zb.alloc(hr:Zb i h w)(hn:i h.n=none){C:Array Value}
  (hc:∀(k:Nat) (v:V),c[k]?=some v->v.Zr=true/\∃u,C[k]?=some u/\ZK i v u) (hl:c.length<=C.size)
  {w':World} (hw:w'.heap=w.heap.push (.cells C e)) (ho:w'.os=w.os/\w'.tape=w.tape) (hu:w'.output=w.output) :
  Zb (i.set h.n ⟨w.heap.size,0,C.size,false⟩) (h.new (.cells c e false)) w' /\
  Fr i h w (i.set h.n ⟨w.heap.size,0,C.size,false⟩) (h.new (.cells c e false)) w':=by
 have Md:w'.heap[w.heap.size]?=some (.cells C e):=by rw[hw];simp
 refine hr.vC hn hw ho hu ⟨_,C,(0,0),YJ.YK,rfl,Md,rfl,by simpa using hl,λ_=>rfl,λk v hk=>?_⟩;obtain⟨a,u,b,c⟩:=hc k v hk;exact⟨a,u,by simpa using b,c.mono (YJ.H5 hn)⟩
theorem Zb.D1(hr:Zb i h w){X':WI}(hb:h.get b=some X)(hX:X.own=true){x:NV}(hx:i b=some x)(hX':X'.own=true)
  {w':World} (hB:Tj i w' b X') (oQ:∀B,B≠x.B->w'.heap[B]?=w.heap[B]?) (hsz:w'.heap.size=w.heap.size) (ho:w'.os=w.os/\w'.tape=w.tape) (hu:w'.output=w.output) :
  Zb i (h.put b X') w'/\Fr i h w i (h.put b X') w':=by
 have oX:X.live=true:=by cases X<;>simp_all[WI.own,WI.live]
 refine⟨⟨?_,?_,?_⟩,⟨?_,?_,?_,?_,?_,?_,ho,hu⟩⟩
 .intro d y hd
  rw[H.WN]at hd;split at hd
  .rename_i e1
   obtain⟨e1,_⟩:=e1;subst e1;cases hd;exact hB
  .rename_i e1
   have xK:d≠b:=λe2=>e1 ⟨e2,H.ZW hb⟩;cases y with
   |dead=>trivial
   |cells c2 e2 ro2 =>
    refine (hr.Y9 d _ hd).mono (λ_ _ h=>h) λy hy=>oQ _ ?_;exact hr.inj d b _ _ _ _ hd hb rfl oX xK hy hx (.inr hX)
   |map es =>
    refine (hr.Y9 d _ hd).mono (λ_ _ h=>h) λy hy=>oQ _ ?_;exact hr.inj d b _ _ _ _ hd hb rfl oX xK hy hx (.inr hX)
 .intro d d' y y' p q hd PU hy BZ Wp hp hq Og
  have key:∀d y,(h.put b X').get d=some y->y.live=true->∃y',h.get d=some y'/\y'.live=true/\y'.own=y.own:=by
   intro d0 y0 hd0 hy0;rw[H.WN]at hd0;split at hd0
   .rename_i e1;obtain⟨e1,_⟩:=e1;cases hd0;exact⟨X,by rw[e1];exact hb,oX,by rw[hX,hX']⟩
   .exact⟨y0,hd0,hy0,rfl⟩
  obtain⟨z,uD,HD,aU⟩:=key d y hd hy;obtain⟨z',yqq,yqp,yqo⟩:=key d' y' PU BZ;exact hr.inj d d' z z' p q uD yqq HD yqp Wp hp hq (by rw[aU,yqo];exact Og)
 .intro d y hd;rw[hsz];exact hr.bound d y hd
 .simp[H.ZJ]
 .omega
 .intro B hB MW
  refine oQ B ?_;intro e1;exact MW b x ⟨_,hb,hX⟩ hx e1.symm
 .intro d y hd hy _
  obtain⟨z,hz,Kq⟩:=hd;rw[H.WN]at hz;split at hz
  .rename_i e1;obtain⟨e1,_⟩:=e1;subst e1;exact⟨d,y,⟨_,hb,hX⟩,hy,rfl⟩
  .exact⟨d,y,⟨z,hz,Kq⟩,hy,rfl⟩
 .intro d y hd hy _
  obtain⟨z,hz,Kq⟩:=hd;rw[H.WN]at hz;split at hz
  .rename_i e1;obtain⟨e1,_⟩:=e1;subst e1;exact⟨d,y,⟨_,hb,oX⟩,hy,rfl⟩
  .exact⟨d,y,⟨z,hz,Kq⟩,hy,rfl⟩
 .intro _ _;rfl
variable{c':List V}
theorem Zb.write(hr:Zb i h w)(hb:h.get b=some (.cells c e false)){x:NV}(hx:i b=some x){C':Array Value}
  (hs:C'.size=x.N) (hl:x.s+c'.length<=x.N) (hc:∀(k:Nat) (v:V),c'[k]?=some v->v.Zr=true/\∃u,C'[x.s+k]?=some u/\ZK i v u)
  {w':World} (hw:w'.heap[x.B]?=some (.cells C' e (0,0))) (oQ:∀B,B≠x.B->w'.heap[B]?=w.heap[B]?) (hsz:w'.heap.size=w.heap.size) (ho:w'.os=w.os/\w'.tape=w.tape) (hu:w'.output=w.output) :
  Zb i (h.put b (.cells c' e false)) w'/\Fr i h w i (h.put b (.cells c' e false)) w':=by
 obtain⟨C,fr,h2,h3,h4,h5,h6,h7⟩:=hr.ent hb hx;exact hr.D1 hb rfl hx rfl ⟨x,C',(0,0),hx,h2,hw,hs,hl,λ_=>rfl,hc⟩ oQ hsz ho hu
theorem Zb.kill(hr:Zb i h w)(b:Nat):Zb i (h.put b .dead) w/\Fr i h w i (h.put b .dead) w:=by
 have key:∀d y,(h.put b .dead).get d=some y->y.live=true->h.get d=some y:=by
  intro d y hd hy;rw[H.WN]at hd;split at hd
  .cases hd;simp[WI.live]at hy
  .exact hd
 refine⟨⟨?_,?_,hr.bound⟩,⟨?_,Nat.le_refl _,λ_ _ _=>rfl,?_,?_,λ_ _=>rfl,⟨rfl,rfl⟩,rfl⟩⟩
 .intro d y hd
  rw[H.WN]at hd;split at hd
  .cases hd;trivial
  .exact hr.Y9 d y hd
 .intro d d' y y' p q hd PU hy BZ
  exact hr.inj d d' y y' p q (key _ _ hd hy) (key _ _ PU BZ) hy BZ
 .simp[H.ZJ]
 .intro d y hd hy _
  obtain⟨z,hz,Kq⟩:=hd;have:z.live=true:=by cases z<;>simp_all[WI.own,WI.live]
  exact⟨d,y,⟨z,key _ _ hz this,Kq⟩,hy,rfl⟩
 .intro d y hd hy _
  obtain⟨z,hz,Kq⟩:=hd;exact⟨d,y,⟨z,key _ _ hz Kq,Kq⟩,hy,rfl⟩
variable{o:Nat}
theorem Zb.move(hr:Zb i h w)(hn:i h.n=none)(hb:h.get b=some (.cells c e false)){x:NV}(hx:i b=some x){C':Array Value}
  (hs:C'.size=x.N) (hl:x.s+o+c'.length<=x.N) (hc:∀(k:Nat) (v:V),c'[k]?=some v->v.Zr=true/\∃u,C'[x.s+o+k]?=some u/\ZK i v u)
  {w':World} (hw:w'.heap[x.B]?=some (.cells C' e (0,0))) (oQ:∀B,B≠x.B->w'.heap[B]?=w.heap[B]?) (hsz:w'.heap.size=w.heap.size) (ho:w'.os=w.os/\w'.tape=w.tape) (hu:w'.output=w.output) :
  Zb (i.set h.n ⟨x.B,x.s+o,x.N,false⟩) ((h.put b .dead).new (.cells c' e false)) w' /\
  Fr i h w (i.set h.n ⟨x.B,x.s+o,x.N,false⟩) ((h.put b .dead).new (.cells c' e false)) w':=by
 have hle:i.le (i.set h.n ⟨x.B,x.s+o,x.N,false⟩):=YJ.H5 hn;have wR:=H.ZW hb;have key:∀d y,((h.put b .dead).new (.cells c' e false)).get d=some y->y.live=true ->
   (d=h.n/\y=.cells c' e false)\/(d≠h.n/\d≠b/\h.get d=some y):=by
  intro d y hd hy;rw[H.Xo,H.WN,H.ZJ]at hd;split at hd
  .rename_i e1;cases hd;exact .inl ⟨e1,rfl⟩
  .rename_i e1
   split at hd
   .cases hd;simp[WI.live]at hy
   .rename_i e2;exact .inr ⟨e1,λe3=>e2 ⟨e3,wR⟩,hd⟩
 have kN:∀d y q,h.get d=some y->y.live=true->d≠b->i d=some q->q.B≠x.B:=λd y q hd hy Wp hq =>
  hr.inj d b y _ q x hd hb hy rfl Wp hq hx (.inr rfl)
 refine⟨⟨?_,?_,?_⟩,⟨?_,?_,?_,?_,?_,?_,ho,hu⟩⟩
 .intro d y hd
  by_cases hy:y.live=true
  .rcases key d y hd hy with ⟨rfl,rfl⟩|⟨h1,h2,h3⟩
   .refine⟨_,C',(0,0),YJ.YK,rfl,hw,hs,hl,λ_=>rfl,λk v hk=>?_⟩
    obtain⟨a,u,b,c⟩:=hc k v hk;exact⟨a,u,b,c.mono hle⟩
   .exact (hr.Y9 d y h3).mono hle λq hq=>oQ _ (kN d y q h3 hy h2 hq)
  .cases y<;>simp_all[WI.live,Tj]
 .intro d d' y y' p q hd PU hy BZ Wp hp hq Og
  rcases key d y hd hy with ⟨rfl,rfl⟩|⟨h1,h2,h3⟩
  .rcases key d' y' PU BZ with ⟨rfl,rfl⟩|⟨Tt,Eh,CQ⟩
   .exact absurd rfl Wp
   .rw[YJ.YK]at hp;cases hp
    rw[YJ.YB Tt]at hq;exact λe1=>kN d' y' q CQ BZ Eh hq e1.symm
  .rcases key d' y' PU BZ with ⟨rfl,rfl⟩|⟨Tt,Eh,CQ⟩
   .rw[YJ.YK]at hq;cases hq
    rw[YJ.YB h1]at hp;exact kN d y p h3 hy h2 hp
   .rw[YJ.YB h1]at hp
    rw[YJ.YB Tt]at hq;exact hr.inj d d' y y' p q h3 CQ hy BZ Wp hp hq Og
 .intro d y hd
  rw[hsz];by_cases e':d=h.n
  .subst e';rw[YJ.YK]at hd;cases hd;show x.B<_;exact hr.bound _ _ hx
  .rw[YJ.YB e']at hd;exact hr.bound _ _ hd
 .simp[H.ZP,H.ZJ]
 .omega
 .intro B hB MW
  exact oQ B λe1=>MW b x ⟨_,hb,rfl⟩ hx e1.symm
 .intro d y hd hy _
  obtain⟨z,hz,Kq⟩:=hd;have hzl:z.live=true:=by cases z<;>simp_all[WI.own,WI.live]
  rcases key d z hz hzl with ⟨rfl,rfl⟩|⟨h1,h2,h3⟩
  .rw[YJ.YK]at hy;cases hy
   exact⟨b,x,⟨_,hb,rfl⟩,hx,rfl⟩
  .rw[YJ.YB h1]at hy
   exact⟨d,y,⟨z,h3,Kq⟩,hy,rfl⟩
 .intro d y hd hy _
  obtain⟨z,hz,Kq⟩:=hd;rcases key d z hz Kq with ⟨rfl,rfl⟩|⟨h1,h2,h3⟩
  .rw[YJ.YK]at hy;cases hy
   exact⟨b,x,⟨_,hb,rfl⟩,hx,rfl⟩
  .rw[YJ.YB h1]at hy
   exact⟨d,y,⟨z,h3,Kq⟩,hy,rfl⟩
 .intro d hd
  rw[H.ZP,H.ZJ]at hd;exact YJ.YB (by omega)
variable{l:List V}{us:List Value}
theorem O2(h:ZA i l us)(hc:l.all V.Zr=true):∀(k:Nat) (v:V),l[k]?=some v->v.Zr=true/\∃u,us.toArray[k]?=some u/\ZK i v u:=by
 intro k v hk;rw[List.all_eq_true]at hc;obtain⟨u,hu,hv⟩:=h.get hk;exact⟨hc v (List.mem_of_getElem? hk),u,by simpa using hu,hv⟩
theorem RL(n:Nat)(z:List V):(Vu n z).length=n*z.length:=by
 induction n with
 |zero=>simp[Vu]
 |succ n ih=>simp[Vu,ih,Nat.add_mul,Nat.add_comm]
variable{n:Nat}{z:List V}
theorem Lc(hz:z.all V.Zr=true):(Vu n z).all V.Zr=true:=by
 induction n with
 |zero=>rfl
 |succ n ih=>simp[Vu,List.all_append,hz,ih]
theorem P9{Z:Array Value}(hz:ZA i z Z.toList):∀n,ZA i (Vu n z) ((List.range (n*Z.size)).map λk=>Z[k%Z.size]!):=by
 intro n;have hl:=hz.length;simp at hl;refine ZA.zh (by simp[RL,hl]) ?_
 induction n with
 |zero=>intro k v hk;simp[Vu]at hk
 |succ n ih =>
  intro k v hk;have Tm:=(List.getElem?_eq_some_iff.1 hk).1;rw[RL]at Tm;simp only[Vu]at hk;rw[List.getElem?_append]at hk;split at hk
  .rename_i h1
   obtain⟨u,hu,hv⟩:=hz.get hk;refine⟨u,?_,hv⟩;have h2:k<Z.size:=by omega
   have h3:k<(n+1)*Z.size:=by rw[hl];exact Tm
   simp[h3,Nat.mod_eq_of_lt h2,h2];simpa [h2]using hu
  .rename_i h1
   obtain⟨u,hu,hv⟩:=ih _ _ hk;refine⟨u,?_,hv⟩;have h3:k<(n+1)*Z.size:=by rw[hl];exact Tm
   have hu2:=(List.getElem?_eq_some_iff.1 hu).1;simp at hu2;rw[List.getElem?_map,List.getElem?_range hu2]at hu;rw[List.getElem?_map,List.getElem?_range h3];simp only[Option.map_some,Option.some.injEq]at hu ⊢;rw[<-hu,<-hl]
   congr 1
   have:z.length<=k:=by omega
   rw[Nat.mod_eq_sub_mod (a:=k) (by omega)]
variable{t:TypeId}{size:Nat}
theorem Nt(hz:VA P t size=true):∃Z x,P.info? t=some x/\x.zero=some Z/\Z.cells.size=size:=by
 unfold VA at hz;split at hz
 .rename_i Z hZ
  cases hi:P.info? t with
  |none=>simp[hi]at hZ
  |some x=>simp[hi]at hZ;exact⟨Z,x,rfl,hZ,by simpa using hz⟩
 .cases hz
theorem RK(hz:Ns P t=some z)(SI:VA P t size=true):
  ∃Z:Value,(∀w:World,(zeroValue t).run P w=.ok Z w)/\ZA i z Z.cells.toList/\z.all V.Zr=true/\Z.cells.size=size:=by
 obtain⟨Z,x,h1,h2,h3⟩:=Nt SI;obtain⟨Z',e1,e2,e3⟩:=P8 (P:=P) (i:=i) (w:=default) hz;have QS:∀w:World,(zeroValue t).run P w=.ok Z w:=λw=>by simp[zeroValue,typeInfo,h1,Result.andThen,h2]
 rw[QS]at e1;cases e1;exact⟨Z,QS,e2,e3,h3⟩
variable{s:Nat->V}{ρ:Operand->Value}{v:V}{h':H}
theorem Jt(hs:∀x,ZK i (Zf.ev s x) (ρ x))(o:Oper)(hv:fresh P s h o.op=some (v,h')):
  ∃u w' c e,∃C:Array Value,(execOp ρ o).run P w=.ok (.value u) w'/\h'=h.new (.cells c e false)/\w'.heap=w.heap.push (.cells C e)/\(w'.os=w.os/\w'.tape=w.tape)/\w'.output=w.output/\c.length<=C.size /\
   (∀(k:Nat) (v:V),c[k]?=some v->v.Zr=true/\∃u,C[k]?=some u/\ZK i v u) /\
   (∀j:YJ,j h.n=some ⟨w.heap.size,0,C.size,false⟩->ZK j v u):=by
 have fin:∀{c:List V} {us:List Value} {e:TypeId} {u:Value},ZA i c us->c.all V.Zr=true->(execOp ρ o).run P w=.ok (.value u) {w with heap:=w.heap.push (.cells us.toArray e)} ->
   h'=h.new (.cells c e false)->(∀j:YJ,j h.n=some ⟨w.heap.size,0,us.length,false⟩->ZK j v u) ->
   ∃u w' c e,∃C:Array Value,(execOp ρ o).run P w=.ok (.value u) w'/\h'=h.new (.cells c e false)/\w'.heap=w.heap.push (.cells C e)/\(w'.os=w.os/\w'.tape=w.tape)/\w'.output=w.output/\c.length<=C.size /\
    (∀(k:Nat) (v:V),c[k]?=some v->v.Zr=true/\∃u,C[k]?=some u/\ZK i v u)/\(∀j:YJ,j h.n=some ⟨w.heap.size,0,C.size,false⟩->ZK j v u):=by
  intro c us e u h1 h2 h3 h4 h5;exact⟨u,_,c,e,us.toArray,h3,h4,rfl,⟨rfl,rfl⟩,rfl,by simp[h1.length],O2 h1 h2,by simpa using h5⟩
 cases ho:o.op<;>rw[ho]at hv<;>simp only[fresh,reduceCtorEq]at hv
 case alloc e =>
  replace hv:=ZT hv;obtain⟨z,hz,hv⟩:=hv;cases hv;obtain⟨Z,e1,e2,e3⟩:=P8 (P:=P) (i:=i) (w:=w) hz;refine fin e2 e3 ?_ rfl (λj hj=>ZK.ptr (x:=⟨w.heap.size,0,_,false⟩) hj);simp[execOp,ho,Instr.alloc,e1,Result.andThen,newVar,newRow]
 case box e x =>
  replace hv:=ZT hv;obtain⟨l,hl,hv⟩:=hv;cases hv;obtain⟨e2,e3⟩:=(hs x).cells hl;refine fin e2 e3 ?_ rfl (λj hj=>ZK.ptr (x:=⟨w.heap.size,0,_,false⟩) hj);simp[execOp,ho,Instr.box,Result.andThen,newVar,newRow]
 case buildSlice t len parts =>
  replace hv:=ZT hv;obtain⟨e,he,hv⟩:=hv;replace hv:=ZT hv;obtain⟨size,hsz,hv⟩:=hv;split at hv
  .cases hv
  .rename_i hb
   replace hv:=ZT hv;obtain⟨z,hz,hv⟩:=hv;replace hv:=ZT hv;obtain⟨l,hl,hv⟩:=hv;cases hv;have Kq:VA P e size=true:=by
    cases hq:VA P e size with
    |true=>rfl
    |false=>exact absurd (.inr hq) hb
   obtain⟨Z,e1,e2,e3,e4⟩:=RK (P:=P) (i:=i) hz Kq;have ht:P.underlying t=some (.slice e):=by
    unfold qG at he;split at he<;>simp_all
   have vB:=P9 e2 len;obtain⟨us,g1,g2,g3⟩:=P7 (parts:=parts.toList.map λp=>(p.1,Zf.ev s p.2)) (parts':=(parts.map λ(k,x)=>(k,ρ x)).toList)
    (by simp) (by simpa [Function.comp_def]using ZA.map (l:=parts.toList) (f:=λp=>Zf.ev s p.2) (g:=λp=>ρ p.2) λp _=>hs p.2) vB (Lc e3) hl
   refine fin g2 g3 ?_ rfl (λj hj=>ZK.Kg (x:=⟨w.heap.size,0,_,false⟩) hj);simp only[execOp,ho,Instr.buildSlice,Sem.run_bind,run_underlying ht,Result.andThen,Yg hsz];rw[if_neg (by intro hc;exact hb (.inl hc))];by_cases h0:len*size=0
   .have:((Array.range 0).map λx=>(#[]:Array Value)[x%(#[]:Array Value).size]!)=((List.range (len*Z.cells.size)).map λk=>Z.cells[k%Z.cells.size]!).toArray:=by
      rw[e4,h0];simp
    simp only[h0,if_true,Sem.run_bind,Sem.run_pure,Result.andThen];rw[this,g1];simp[newRow,Result.andThen]
   .have:((Array.range (len*size)).map λx=>Z.cells[x%Z.cells.size]!)=((List.range (len*Z.cells.size)).map λk=>Z.cells[k%Z.cells.size]!).toArray:=by
      apply Array.ext';simp[e4]
    simp only[h0,if_false,Sem.run_bind,e1,Sem.run_pure,Result.andThen];rw[this,g1];simp[newRow,Result.andThen]
 case makeSlice t len cap =>
  replace hv:=ZT hv;obtain⟨e,he,hv⟩:=hv;replace hv:=ZT hv;obtain⟨size,hsz,hv⟩:=hv;replace hv:=ZT hv;obtain⟨bytes,Hq,hv⟩:=hv;split at hv
  .rename_i k n k' c hx hy
   split at hv
   .rename_i hb
    obtain⟨VJ,Yv,Gk,JI,Kq⟩:=hb;replace hv:=ZT hv;obtain⟨z,hz,hv⟩:=hv;cases hv;obtain⟨Z,e1,e2,e3,e4⟩:=RK (P:=P) (i:=i) hz Kq;have ht:P.underlying t=some (.slice e):=by
      unfold qG at he;split at he<;>simp_all
    have hl:=hs len;rw[hx]at hl;have hc:=hs cap;rw[hy]at hc;cases hlv:ρ len<;>rw[hlv]at hl<;>cases hl;cases GJ:ρ cap<;>rw[GJ]at hc<;>cases hc;obtain⟨inf,kM,Tw,tN⟩:=HP (P:=P) (w:=w) Hq;have UE:IntKind.i64.wrap n=n:=by
      unfold IntKind.wrap;simp[IntKind.bits,IntKind.signed];rw[Int.emod_eq_of_lt (by omega) (by omega)];rw[if_neg (by omega)]
    have BL:IntKind.i64.wrap c=c:=by
      unfold IntKind.wrap;simp[IntKind.bits,IntKind.signed];rw[Int.emod_eq_of_lt (by omega) (by omega)];rw[if_neg (by omega)]
    have vB:=P9 e2 c.toNat;refine fin vB (Lc e3) ?_ rfl (λj hj=>ZK.Kg (x:=⟨w.heap.size,0,_,false⟩) hj);have Lb:((decide (c<0)||decide ((inf.bytes:Int)*c>2^48))||decide (n<0)||decide (n>c))=false:=by
      simp only[Bool.or_eq_false_iff,decide_eq_false_iff_not];rw[Tw];refine⟨⟨⟨by omega,?_⟩,by omega⟩,by omega⟩;have:(2:Int)^48=281474976710656:=by decide
      omega
    simp only[execOp,ho,hlv,GJ,Instr.makeSlice,Sem.run_bind,run_underlying ht,Result.andThen,asInt,asIntOf,Sem.run_pure,tN,UE,BL];rw[if_neg (by simpa using Lb)];by_cases h0:c.toNat*size=0
    . have:((Array.range 0).map λx=>(#[]:Array Value)[x%(#[]:Array Value).size]!)=((List.range (c.toNat*Z.cells.size)).map λk=>Z.cells[k%Z.cells.size]!).toArray:=by
       rw[e4,h0];simp
      simp only[Sem.run_bind,run_askRoom,Result.andThen,Yg hsz,h0,if_true,Sem.run_pure];rw[this];simp[newRow,Result.andThen]
    . have:((Array.range (c.toNat*size)).map λx=>Z.cells[x%Z.cells.size]!)=((List.range (c.toNat*Z.cells.size)).map λk=>Z.cells[k%Z.cells.size]!).toArray:=by
       apply Array.ext';simp[e4]
      simp only[Sem.run_bind,run_askRoom,Result.andThen,Yg hsz,h0,if_false,e1,Sem.run_pure];rw[this];simp[newRow,Result.andThen]
   .cases hv
  .cases hv
theorem F8(hr:Zb i h w)(hn:i h.n=none)(hs:∀x,ZK i (Zf.ev s x) (ρ x))(o:Oper)(hv:fresh P s h o.op=some (v,h')):
  ∃u w' x,(execOp ρ o).run P w=.ok (.value u) w'/\ZK (i.set h.n x) v u/\Zb (i.set h.n x) h' w'/\Fr i h w (i.set h.n x) h' w':=by
 obtain⟨u,w',c,e,C,h1,h2,h3,h4,h5,h6,h7,h8⟩:=Jt (w:=w) hs o hv;subst h2;have:=hr.alloc hn h7 h6 h3 h4 h5;exact⟨u,w',_,h1,h8 _ YJ.YK,this.1,this.2⟩
theorem vW(h:H)(b o:Nat)(v:V):h.WO b o v=h.X4 b o [v]:=by
 unfold H.WO H.X4;split
 .rename_i c e hb
  simp only[List.length_singleton];by_cases Tm:o<c.length
  .rw[if_pos Tm,if_pos (by omega),List.set_eq_take_append_cons_drop,if_pos Tm]
   rfl
  .rw[if_neg Tm,if_neg (by omega)]
 .rfl
variable{u:Value}
theorem AG(h:ZK i v u)(hc:v.Zr=true):u.oneCell'=true:=by
 cases h<;>simp_all[V.Zr,Value.oneCell']
variable{vs:List V}
theorem vz(h:ZA i vs us)(hc:vs.all V.Zr=true):∀u∈us,u.oneCell'=true:=by
 induction vs generalizing us with
 |nil=>cases h;intro u hu;simp at hu
 |cons v vs ih =>
  cases h with
  |cons hv hs =>
   simp only[List.all_cons,Bool.and_eq_true]at hc;intro u hu;rcases List.mem_cons.1 hu with rfl|hu
   .exact AG hv hc.1
   .exact ih hs hc.2 u hu
theorem S5{C:List Value}{p:Nat}(hl:us.length=vs.length)(hb:o+vs.length<=c.length)(hB:p+c.length<=C.length)
  (hv:∀(k:Nat) (v:V),vs[k]?=some v->v.Zr=true/\∃u,us[k]?=some u/\ZK i v u)
  (hc:∀(k:Nat) (v:V),c[k]?=some v->v.Zr=true/\∃u,C[p+k]?=some u/\ZK i v u) :
  ∀(k:Nat) (v:V),(splice c o vs)[k]?=some v->v.Zr=true/\∃u,(C.take (p+o)++us++C.drop (p+o+us.length))[p+k]?=some u/\ZK i v u:=by
 intro k v hk;have h1:(C.take (p+o)).length=p+o:=by simp;omega
 have h2:(c.take o).length=o:=by simp;omega
 simp only[splice,List.getElem?_append,h2]at hk;simp only[List.getElem?_append,List.length_append,h1,hl];by_cases a:k<o
 .rw[if_pos a]at hk
  rw[if_pos (by omega),if_pos (by omega)];rw[List.getElem?_take,if_pos a]at hk;rw[List.getElem?_take,if_pos (by omega)];exact hc k v hk
 .rw[if_neg a]at hk
  by_cases b:k-o<vs.length
  .rw[if_pos b]at hk
   rw[if_pos (by omega),if_neg (by omega)];have:=hv _ v hk
   rwa[show p+k-(p+o)=k-o by omega]
  .rw[if_neg b]at hk
   rw[if_neg (by omega)];rw[List.getElem?_drop]at hk;rw[List.getElem?_drop];have:=hc _ v hk
   rwa[show p+o+vs.length+(p+k-(p+o+vs.length))=p+(o+vs.length+(k-o-vs.length))by omega]
theorem setRow_size(w:World)(g:Nat)(cs:Array Value):(w.setRow g cs).heap.size=w.heap.size:=by simp[World.setRow]
theorem UK(hr:Zb i h w){x:NV}(hx:i b=some x)(hv:ZA i vs us)(hc:vs.all V.Zr=true)(hh:h.X4 b o vs=some h'):
  ∃w',(storeCells ⟨x.B,x.s+o,none⟩ us).run P w=.ok () w'/\Zb i h' w'/\Fr i h w i h' w'/\h'.n=h.n:=by
 unfold H.X4 at hh;split at hh
 .rename_i c e hb
  split at hh
  .rename_i hle
   cases hh;obtain⟨C,fr,h2,h3,h4,h5,h6,h7⟩:=hr.ent hb hx;have MJ:=h6 rfl;subst MJ;have hlen:=hv.length;have WY:=run_storeCells_at (P:=P) x.B (x.s+o) e us 0 C w h3 (by rw[hlen];omega) (vz hv hc);simp only[Nat.add_zero]at WY;refine⟨_,WY,?_⟩;have hsz:(splice c o vs).length=c.length:=by simp[splice];omega
   have:=hr.write hb hx (c':=splice c o vs) (C':=(C.toList.take (x.s+o)++us++C.toList.drop (x.s+o+us.length)).toArray)
    (by simp;omega) (by omega)
    (by
      have hs:=S5 (i:=i) (vs:=vs) (us:=us) (c:=c) (C:=C.toList) (o:=o) (p:=x.s) hlen hle (by simpa [h4]using h5)
       (λk v hk=>by have:=O2 hv hc k v hk;simpa using this) (λk v hk=>by have:=h7 k v hk;simpa using this)
      intro k v hk;have:=hs k v hk;simpa using this)
    (setRow_heap w x.B C _ e (0,0) h3) (λB hB=>setRow_other w x.B B _ hB) (setRow_size _ _ _) ⟨rfl,rfl⟩ rfl
   exact⟨this.1,this.2,rfl⟩
  .cases hh
 .cases hh
variable{uv:Value}{r:V}
theorem vy(hr:Zb i h w){a:V}{ua:Value}(ha:ZK i a ua)(hv:ZK i v uv)(hh:stV P h t a v=some (r,h')):
  r=.Wz/\h'.n=h.n/\∃w',(Instr.storeAt t ua uv).run P w=.ok () w'/\Zb i h' w'/\Fr i h w i h' w':=by
 have key:∀{b o:Nat} {x:NV} (vs:List V),i b=some x->v.cells=some vs->S8 P t=some vs.length->(h.X4 b o vs).bind (λh'=>some (V.Wz,h'))=some (r,h') ->
   ua=.pointer (some ⟨x.B,x.s+o,none⟩)->r=.Wz/\h'.n=h.n/\∃w',(Instr.storeAt t ua uv).run P w=.ok () w'/\Zb i h' w'/\Fr i h w i h' w':=by
  intro b o x vs hx Oa hsz FF hua;replace FF:=ZT FF;obtain⟨h'',hw,FF⟩:=FF;cases FF;obtain⟨g1,g2⟩:=hv.cells Oa;obtain⟨w',e1,e2,e3,e4⟩:=UK (P:=P) hr hx g1 g2 hw;refine⟨rfl,e4,w',?_,e2,e3⟩;subst hua;have hl:=g1.length;simp at hl;simp[Instr.storeAt,Instr.sureAddr,storeVar,Yg hsz,Result.andThen,hl,e1]
 unfold stV at hh;replace hh:=ZT hh;obtain⟨n,hn,hh⟩:=hh;unfold Zx at hh;split at hh
 .rename_i b o
  cases ha with
  |ptr hx =>
   split at hh
   .rename_i l
    split at hh
    . rename_i hsz
      exact key l hx rfl (by rw[hn,hsz]) hh rfl
    . cases hh
   .cases hh
   .cases hh
   .rename_i h1 h2 h3
    split at hh
    . rename_i hsz
      rw[vW]at hh;have Oa:v.cells=some [v]:=by
       cases v<;>first|rfl|(exact absurd rfl (h1 _))|(exact absurd rfl h2)|(exact absurd rfl (h3 _))
      exact key [v] hx Oa (by rw[hn,hsz];rfl) hh rfl
    . cases hh
 .cases hh
variable{y:V}
theorem Nr(hy:ZK i y u)(hn:lenOf y=some n):(Builtin.lenOf u).run P w=.ok n w:=by
 unfold lenOf at hn;split at hn
 .cases hy;cases hn;rfl
 .cases hn;cases hy<;>rfl
 .cases hn
  cases hy with
  |str s=>simp[Builtin.lenOf]
 .cases hn
theorem T3(hr:Zb i h w)(hy:ZK i y u)(hl:XY h size n y=some l)(hn:∃m,lenOf y=some m/\n<=m):
  l.length=n*size/\l.all V.Zr=true/\∃us,ZA i l us/\∀w',w'.heap=w.heap->(Builtin.firstCells size n u).run P w'=.ok us.toArray w':=by
 obtain⟨m,hm,hnm⟩:=hn;have row:∀{b o:Nat} {x:NV},i b=some x->h.Ze b o (n*size)=some l->u=.slice (some ⟨x.B,x.s+o,none⟩) (match u with|.slice _ k _=>k|_=>0) (match u with|.slice _ _ k=>k|_=>0) ->
   l.length=n*size/\l.all V.Zr=true/\∃us,ZA i l us/\∀w',w'.heap=w.heap->(Builtin.firstCells size n u).run P w'=.ok us.toArray w':=by
  intro b o x hx hl hu;obtain⟨h1,h2,us,h3,h4⟩:=Jm hr hx hl;refine⟨h1,h2,us,h3,λw' hw=>?_⟩;rw[hu];simp only[Builtin.firstCells];have:=run_loadCells_list (P:=P) w' ⟨x.B,x.s+o,none⟩ us (λj v hj=>by have:=h4 j v hj;unfold World.cell? at this ⊢;rw[hw];exact this)
  rwa[h3.length,h1]at this
 have emp:n=0->l=[]->(∀w',(Builtin.firstCells size 0 u).run P w'=.ok #[] w') ->
   l.length=n*size/\l.all V.Zr=true/\∃us,ZA i l us/\∀w',w'.heap=w.heap->(Builtin.firstCells size n u).run P w'=.ok us.toArray w':=by
  intro h0 h1 h2;subst h0;subst h1;exact⟨by simp,rfl,[],.nil,λw' _=>h2 w'⟩
 have vx:∀{b o:Nat},h.Ze b o (0*size)=some l->l=[]:=by
  intro b o hl;unfold H.Ze at hl;split at hl
  .split at hl
   .cases hl;simp
   .cases hl
  .cases hl
 unfold XY at hl;split at hl
 .cases hy
  cases hl;simp[lenOf]at hm;subst hm;exact emp (by omega) rfl λw'=>rfl
 .rename_i b o len cap
  simp[lenOf]at hm;subst hm;cases hy with
  |Kg hx=>exact row hx hl rfl
  |Fh hx _ _=>exact row hx hl rfl
  |DI =>
   have h0:n=0:=by omega
   subst h0;exact emp rfl (vx hl) λw'=>by simp[Builtin.firstCells,loadCells,loadCellsFrom]
  |sle hx =>
   have h0:n=0:=by omega
   subst h0;exact emp rfl (vx hl) λw'=>by simp[Builtin.firstCells,loadCells,loadCellsFrom]
 .split at hl
  .rename_i hs1
   subst hs1;cases hl;cases hy with
   |str s =>
    simp[lenOf]at hm;refine⟨by simp;omega,?_,(s.data.toList.take n).map λb=>.int .u8 b.toNat,ZA.map λc _=>.int _ _,λw' _=>?_⟩
    . rw[List.all_eq_true];intro v hv;rcases List.mem_map.1 hv with ⟨c,_,rfl⟩;rfl
    . simp only[Builtin.firstCells,Sem.run_pure]
      congr 1
      apply Array.ext';simp[ByteArray.data_extract]
  .cases hl
 .cases hl
theorem La(he:qG P t=some e):P.underlying t=some (.slice e):=by
 unfold qG at he;split at he<;>simp_all
def Us(w:World)(need old:Nat)(e:TypeId):Nat:=(Question.appendCap need old e).cut (w.tape w.drawn (.appendCap need old e))
theorem vu(w:World)(need old:Nat)(e:TypeId):need<=Us w need old e:=by
 simp only[Us,Question.cut];omega
variable{tu ty:TypeId}
theorem run_append_fits{d:TypeDesc}(ht:P.underlying t=some (.slice e))(hu:P.underlying tu=some d)(hd:∀k,d≠.int k)(hs:S8 P e=some size)
  {u:Value} (hn:(Builtin.lenOf u).run P w=.ok n w) {news:List Value} (hf:(Builtin.firstCells size n u).run P w=.ok news.toArray w) (base:Option Addr) (Y3 Yo:Nat) (hc:Y3+n<=Yo) :
  (Builtin.append_ #[t,tu] ty #[.slice base Y3 Yo,u]).run P w =
   Result.andThen (Sem.run P (match base with|some a=>storeCells (a.add (Y3*size)) news|none=>pure ():Sem Unit) w) (λ_ w'=>.ok (.slice base (Y3+n) Yo) w'):=by
 have hz:(match d with|.int _=>true|_=>false)=false:=by cases d<;>first|rfl|exact absurd rfl (hd _)
 cases base with
 |none=>simp[Builtin.append_,run_underlying ht,run_underlying hu,Result.andThen,Yg hs,hz,hn,hf,hc]
 |some a=>simp[Builtin.append_,run_underlying ht,run_underlying hu,Result.andThen,Yg hs,hz,hn,hf,hc]
theorem N9{d:TypeDesc}(ht:P.underlying t=some (.slice e))(hu:P.underlying tu=some d)(hd:∀k,d≠.int k){bytes:Nat}(hs:S8 P e=some size)(hb:oP P e=some bytes)
  {u:Value} (hn:(Builtin.lenOf u).run P w=.ok n w) {news:List Value} (hf:∀w',w'.heap=w.heap->(Builtin.firstCells size n u).run P w'=.ok news.toArray w') (base:Option Addr) (Y3 Yo:Nat) {Ui:List Value}
  (hold:∀w',w'.heap=w.heap->(Builtin.firstCells size Y3 (.slice base Y3 Yo)).run P w'=.ok Ui.toArray w') {Z:Value} (hZ:∀w:World,(zeroValue e).run P w=.ok Z w)
  (hc:¬Y3+n<=Yo) (Hq:(Y3+n)*bytes<=140737488355328) (h0:0<bytes) :
  ∃w',w'.heap=w.heap.push (.cells (Ui.toArray++news.toArray++Builtin.zeroCells Z.cells (Us w (Y3+n) Yo e-(Y3+n))) e)/\(w'.os=w.os/\w'.tape=w.tape)/\w'.output=w.output /\
   (Builtin.append_ #[t,tu] ty #[.slice base Y3 Yo,u]).run P w=.ok (.slice (some ⟨w.heap.size,0,none⟩) (Y3+n) (Us w (Y3+n) Yo e)) w':=by
 have hz:(match d with|.int _=>true|_=>false)=false:=by cases d<;>first|rfl|exact absurd rfl (hd _)
 obtain⟨inf,kM,Tw,tN⟩:=HP (P:=P) (w:=w) hb;have qF:∀w:World,(typeInfo e).run P w=.ok inf w:=λw=>by simp[typeInfo,kM]
 have RO:Builtin.nextslicecap (Y3+n) Yo*bytes<=281474976710656:=growslice_fits (by omega) Hq;have h63:¬((Y3+n:Nat):Int)>IntKind.i64.max:=by
  have:Y3+n<=140737488355328:=Nat.le_trans (Nat.le_mul_of_pos_right _ h0) Hq;simp[IntKind.max,IntKind.signed,IntKind.bits];omega
 refine⟨w.drew.alloc (.cells (Ui.toArray++news.toArray++Builtin.zeroCells Z.cells (Us w (Y3+n) Yo e-(Y3+n))) e),rfl,⟨rfl,rfl⟩,rfl,?_⟩;have hfo:(Question.appendCap (Y3+n) Yo e).forced=false:=rfl;have oN:¬Builtin.nextslicecap (Y3+n) Yo*bytes>2^48:=by
  have:(2:Nat)^48=281474976710656:=by decide
  omega
 have Ct:=hold w.drew rfl;have hf':=hf w.drew rfl;have hgt:¬(9223372036854775807<((Y3:Int)+(n:Int))):=by
  have:Y3+n<=140737488355328:=Nat.le_trans (Nat.le_mul_of_pos_right _ h0) Hq;omega
 have qE:¬(281474976710656<Builtin.nextslicecap (Y3+n) Yo*inf.bytes):=by rw[Tw];omega
 simp[Builtin.append_,run_underlying ht,run_underlying hu,Yg hs,hz,hn,hc,qF,hgt,qE,Question.forced,Ct,hf',hZ,newRow,Us]
 congr 2
 apply Array.ext';simp[List.append_assoc]
theorem K9(z:Array Value)(n:Nat):(Builtin.zeroCells z n).size=n*z.size:=by simp[Builtin.zeroCells]
theorem DZ(hr:Zb i h w)(hn:i h.n=none){rest:List Value}(hu:ZA i c us)(hc:c.all V.Zr=true){len cap:Nat}(hl:us.length=len*size)
  (Ph:rest.length=(cap-len)*size) (lj:len<=cap) {w':World} (hw:w'.heap=w.heap.push (.cells (us++rest).toArray e)) (ho:w'.os=w.os/\w'.tape=w.tape) (yf:w'.output=w.output) :
  ∃i',ZK i' (.sl h.n 0 len (.op size)) (.slice (some ⟨w.heap.size,0,none⟩) len cap)/\Zb i' (h.new (.cells c e false)) w'/\Fr i h w i' (h.new (.cells c e false)) w':=by
 have hN:(us++rest).toArray.size=cap*size:=by
  simp[hl,Ph,<-Nat.add_mul];congr 1;omega
 have hlen:us.length=c.length:=hu.length;have:=hr.alloc hn (c:=c) (C:=(us++rest).toArray) (e:=e)
  (λk v hk=>by
   obtain⟨a,u,hu',hv⟩:=O2 hu hc k v hk;refine⟨a,u,?_,hv⟩;have Tm:=(List.getElem?_eq_some_iff.1 hk).1;simp only[List.getElem?_toArray]at hu' ⊢;rw[List.getElem?_append_left (by omega)];exact hu')
  (by simp;omega) hw ho yf
 refine⟨_,?_,this.1,this.2⟩;have hv:=ZK.Fh (i:=i.set h.n ⟨w.heap.size,0,(us++rest).toArray.size,false⟩) (b:=h.n) (o:=0) (len:=len) (z:=size) (c:=cap) YJ.YK (λ_=>by simpa using hN.symm) lj;simpa using hv
structure qD(P:Program)(w:World)(t tu ty e:TypeId)(size n bytes:Nat)(uy:Value)(us:List Value)(Z:Value):Prop where
 fits:∀(base:Option Addr) (Y3 Yo:Nat),Y3+n<=Yo->(Builtin.append_ #[t,tu] ty #[.slice base Y3 Yo,uy]).run P w =
   Result.andThen (Sem.run P (match base with|some a=>storeCells (a.add (Y3*size)) us|none=>pure ():Sem Unit) w) (λ_ w'=>.ok (.slice base (Y3+n) Yo) w')
 Ue:∀(base:Option Addr) (Y3 Yo:Nat) (Ui:List Value),(∀w',w'.heap=w.heap->(Builtin.firstCells size Y3 (.slice base Y3 Yo)).run P w'=.ok Ui.toArray w') ->
   ¬Y3+n<=Yo->(Y3+n)*bytes<=140737488355328 ->
   ∃w',w'.heap=w.heap.push (.cells (Ui.toArray++us.toArray++Builtin.zeroCells Z.cells (Us w (Y3+n) Yo e-(Y3+n))) e)/\(w'.os=w.os/\w'.tape=w.tape)/\w'.output=w.output /\
    (Builtin.append_ #[t,tu] ty #[.slice base Y3 Yo,uy]).run P w=.ok (.slice (some ⟨w.heap.size,0,none⟩) (Y3+n) (Us w (Y3+n) Yo e)) w'
theorem QJ(hr:Zb i h w)(hh:h.X4 b o []=some h'):Zb i h' w/\Fr i h w i h' w:=by
 have hx:∃x,i b=some x:=by
  unfold H.X4 at hh;split at hh
  .rename_i c e hb
   obtain⟨x,C,fr,g1,_⟩:=hr.Y9 b _ hb;exact⟨x,g1⟩
  .cases hh
 obtain⟨x,hx⟩:=hx;obtain⟨w',e1,e2,e3,_⟩:=UK (P:=default) hr hx .nil rfl hh;simp[storeCells]at e1;subst e1;exact⟨e2,e3⟩
variable{uy:Value}
theorem Jl(hr:Zb i h w){bytes:Nat}{Z:Value}(ap:qD P w t tu ty e size n bytes uy us Z)(Qw:0<bytes)(z3:Z.cells.size=size){new:List V}(f1:new.length=n*size)
  (f2:new.all V.Zr=true) (f3:ZA i new us) {x:V} {ux:Value} (hx:ZK i x ux) {v:V} {h':H} (hv:Iu e size bytes h x n new=some (v,h')) (V3:i.clear h.n h'.n) :
  ∃u w' i',(Builtin.append_ #[t,tu] ty #[ux,uy]).run P w=.ok u w'/\ZK i' v u/\Zb i' h' w'/\Fr i h w i' h' w':=by
 unfold Iu at hv;have qC:us.length=n*size:=f3.length.trans f1
 -- a slice that Ue
 have Ue:∀(base:Option Addr) (Y3 Yo:Nat) {old:List V} {Ui:List Value} {h1:H},ux=.slice base Y3 Yo->ZA i old Ui->old.all V.Zr=true->old.length=Y3*size ->
   (∀w',w'.heap=w.heap->(Builtin.firstCells size Y3 (.slice base Y3 Yo)).run P w'=.ok Ui.toArray w')->¬Y3+n<=Yo->(Y3+n)*bytes<=140737488355328 ->
   Zb i h1 w->Fr i h w i h1 w->h1.n=h.n->i h1.n=none ->
   ∃u w' i',(Builtin.append_ #[t,tu] ty #[ux,uy]).run P w=.ok u w'/\ZK i' (.sl h1.n 0 (Y3+n) (.op size)) u/\Zb i' (h1.new (.cells (old++new) e false)) w'/\Fr i h w i' (h1.new (.cells (old++new) e false)) w':=by
  intro base Y3 Yo old Ui h1 vq ho1 ho2 ho3 ho4 MW KA au hf1 Uo kM;obtain⟨w',e1,e2,e3,e4⟩:=ap.Ue base Y3 Yo Ui ho4 MW KA;have BqI:Ui.length=Y3*size:=ho1.length.trans ho3;have hg:=DZ (w':=w') au kM (ho1.append f3) (by rw[List.all_append,ho2,f2];rfl) (e:=e) (len:=Y3+n) (size:=size) (cap:=Us w (Y3+n) Yo e)
   (by rw[List.length_append,BqI,qC,Nat.add_mul]) (rest:=(Builtin.zeroCells Z.cells (Us w (Y3+n) Yo e-(Y3+n))).toList)
   (by simp[K9,z3]) (vu _ _ _ _) (by rw[e1];congr 2;apply Array.ext';simp) e2 e3
  obtain⟨i',g1,g2,g3⟩:=hg;exact⟨_,w',i',by rw[vq];exact e4,g1,g2,hf1.trans g3⟩
 split at hv
 .-- nil
  cases hx;split at hv
  .rename_i h0
   subst h0;cases hv;have FU:us=[]:=List.eq_nil_of_length_eq_zero (by omega);refine⟨_,w,i,?_,.ZO,hr,Fr.refl _ _ _⟩;rw[ap.fits none 0 0 (by omega)];simp
  .rename_i h0
   split at hv
   .rename_i KA
    cases hv;have:=Ue none 0 0 (old:=[]) (Ui:=[]) (h1:=h) rfl .nil rfl (by simp) (λw' _=>rfl) (by omega) (by simpa using KA) hr (Fr.refl _ _ _) rfl (V3 _ (Nat.le_refl _) (by simp[H.ZP]));simpa using this
   .cases hv
 .-- an exact slice
  rename_i b o len cap;split at hv
  .rename_i RO
   replace hv:=ZT hv;obtain⟨h1,UE,hv⟩:=hv;cases hv;cases hx with
   |@Kg _ _ _ _ q hq =>
    obtain⟨w',e1,e2,e3,e4⟩:=UK (P:=P) hr hq f3 f2 UE;refine⟨_,w',i,?_,.Kg hq,e2,e3⟩;rw[ap.fits _ _ _ RO];simp only[WA];rw[Nat.add_assoc,e1];simp[Result.andThen]
   |@DI _ _ a =>
    have GQ:n=0:=by omega
    subst GQ;have FU:us=[]:=List.eq_nil_of_length_eq_zero (by omega);subst FU;have hnw:new=[]:=List.eq_nil_of_length_eq_zero (by simpa using f1);subst hnw;obtain⟨e2,e3⟩:=QJ hr UE;refine⟨.slice (some a) 0 0,w,i,?_,ZK.DI,e2,e3⟩;rw[ap.fits _ _ _ RO];simp[storeCells]
  .rename_i RO
   split at hv
   .rename_i KA
    replace hv:=ZT hv;obtain⟨old,hold,hv⟩:=hv;cases hv;have vq:∃base,ux=.slice base len cap:=by cases hx<;>exact⟨_,rfl⟩
    obtain⟨base,vq⟩:=vq;obtain⟨o1,o2,Ui,o3,o4⟩:=T3 (P:=P) (n:=len) (size:=size) (l:=old) hr hx hold ⟨len,rfl,Nat.le_refl _⟩;rw[vq]at o4;exact Ue base len cap vq o3 o2 o1 o4 RO KA hr (Fr.refl _ _ _) rfl (V3 _ (Nat.le_refl _) (by simp[H.ZP]))
   .cases hv
 .-- an open slice
  rename_i b o len z;split at hv
  .cases hv
  rename_i hz;have hz:size=z:=by simpa using hz
  subst hz;split at hv
  .rename_i h0
   subst h0;cases hv;have FU:us=[]:=List.eq_nil_of_length_eq_zero (by omega);subst FU;cases hx with
   |Fh hq hc hl =>
    refine⟨_,w,i,?_,.Fh hq hc hl,hr,Fr.refl _ _ _⟩;rw[ap.fits _ _ _ (by omega)];simp[storeCells]
   |@sle _ _ _ p q hq =>
    refine⟨.slice (some ⟨q.B,p,none⟩) 0 0,w,i,?_,ZK.sle hq,hr,Fr.refl _ _ _⟩;rw[ap.fits _ _ _ (by omega)];simp[storeCells]
  .rename_i h0
   split at hv
   .rename_i KA
    split at hv
    . rename_i c e' kL
      split at hv
      .rename_i hcc
       obtain⟨hee,mT⟩:=hcc;subst hee;cases hv;have sS:i h.n=none:=V3 _ (Nat.le_refl _) (by simp[H.ZP,H.ZJ]);have qb:h.Ze b o (len*size)=some ((c.drop o).take (len*size)):=by
        unfold H.Ze;rw[kL];simp only[];rw[if_pos mT]
       obtain⟨o1,o2,Ui,o3,o4⟩:=T3 (P:=P) (n:=len) (size:=size) (l:=(c.drop o).take (len*size)) hr hx qb ⟨len,rfl,Nat.le_refl _⟩;have hk:=hr.kill b;have BqH:∀(base:Option Addr) (cap:Nat),ux=.slice base len cap->¬len+n<=cap ->
         ∃u w' i',(Builtin.append_ #[t,tu] ty #[ux,uy]).run P w=.ok u w'/\ZK i' (.sl h.n 0 (len+n) (.op size)) u /\
          Zb i' ((h.put b .dead).new (.cells ((c.drop o).take (len*size)++new) e' false)) w'/\Fr i h w i' ((h.put b .dead).new (.cells ((c.drop o).take (len*size)++new) e' false)) w':=by
        intro base cap vq MW;rw[vq]at o4;exact Ue base len cap vq o3 o2 o1 o4 MW KA hk.1 hk.2 rfl sS
       cases hx with
       |sle hq=>exact BqH _ _ rfl (by omega)
       |@Fh _ _ _ _ cp q hq hc hl =>
        by_cases RO:len+n<=cp
        .obtain⟨C,fr,h2,h3,h4,h5,h6,h7⟩:=hr.ent kL hq
         have MJ:=h6 rfl;subst MJ;have hN:=hc h2;have hmul:(len+n)*size<=cp*size:=Nat.mul_le_mul_right _ RO;rw[Nat.add_mul]at hmul;have WY:=run_storeCells_at (P:=P) q.B (q.s+o+len*size) e' us 0 C w h3 (by omega) (vz f3 f2);simp only[Nat.add_zero]at WY;have hlo:((c.drop o).take (len*size)).length=len*size:=o1;have uG:=hr.move sS kL hq (c':=(c.drop o).take (len*size)++new) (o:=o)
          (C':=(C.toList.take (q.s+o+len*size)++us++C.toList.drop (q.s+o+len*size+us.length)).toArray)
          (by simp;omega) (by rw[List.length_append,hlo,f1];omega)
          (by
           intro k v hk;have qj:(C.toList.take (q.s+o+len*size)).length=q.s+o+len*size:=by simp;omega
           simp only[List.getElem?_toArray,List.getElem?_append,qj,List.length_append];rw[List.getElem?_append]at hk;rw[hlo]at hk;split at hk
           .rename_i mG
            rw[if_pos (by omega),if_pos (by omega),List.getElem?_take,if_pos (by omega)];rw[List.getElem?_take,if_pos mG,List.getElem?_drop]at hk;have:=h7 _ v hk;simpa [Nat.add_assoc]using this
           .rename_i mG
            have Tm:=(List.getElem?_eq_some_iff.1 hk).1;rw[if_pos (by omega),if_neg (by omega)];have:=O2 f3 f2 _ v hk;rw[show q.s+o+k-(q.s+o+len*size)=k-len*size by omega];simpa using this)
          (setRow_heap w q.B C _ e' (0,0) h3) (λB hB=>setRow_other w q.B B _ hB) (setRow_size _ _ _) ⟨rfl,rfl⟩ rfl
         refine⟨.slice (some ⟨q.B,q.s+o,none⟩) (len+n) cp,_,_,?_,?_,uG.1,uG.2⟩
         .rw[ap.fits _ _ _ RO]
          simp only[WA];rw[WY];simp[Result.andThen]
         .have hv:=ZK.Fh (i:=i.set h.n ⟨q.B,q.s+o,q.N,false⟩) (b:=h.n) (o:=0) (len:=len+n) (z:=size) (c:=cp) YJ.YK (λ_=>by simpa using hN) RO
          simpa using hv
        .exact BqH _ _ rfl RO
      .cases hv
    . cases hv
   .cases hv
 .cases hv
variable{x:V}
theorem vp(hr:Zb i h w){d:TypeDesc}(hu:P.underlying tu=some d)(hd:∀k,d≠.int k){ux:Value}(hx:ZK i x ux)(hy:ZK i y uy)
  (hv:apV P h t x y=some (v,h')) (V3:i.clear h.n h'.n) :
  ∃u w' i',(Builtin.append_ #[t,tu] ty #[ux,uy]).run P w=.ok u w'/\ZK i' v u/\Zb i' h' w'/\Fr i h w i' h' w':=by
 unfold apV at hv;replace hv:=ZT hv;obtain⟨e,he,hv⟩:=hv;replace hv:=ZT hv;obtain⟨size,hs,hv⟩:=hv;replace hv:=ZT hv;obtain⟨bytes,Hq,hv⟩:=hv;split at hv
 .cases hv
 rename_i Lb;have Kq:VA P e size=true:=by
  cases hq:VA P e size with
  |true=>rfl
  |false=>exact absurd (.inr (.inr hq)) Lb
 have Qw:0<bytes:=Nat.pos_of_ne_zero λe=>Lb (.inr (.inl e));unfold Vk at hv;replace hv:=ZT hv;obtain⟨n,hn,hv⟩:=hv;replace hv:=ZT hv;obtain⟨new,Md,hv⟩:=hv;have ht:=La he;obtain⟨Z,inf,z1,z2,z3⟩:=Nt Kq;have hZ:∀w:World,(zeroValue e).run P w=.ok Z w:=λw=>by simp[zeroValue,typeInfo,z1,Result.andThen,z2]
 obtain⟨f1,f2,us,f3,f4⟩:=T3 (P:=P) hr hy Md ⟨n,hn,Nat.le_refl _⟩;have hlen:=Nr (P:=P) (w:=w) hy hn;exact Jl (Z:=Z) hr ⟨λbase Y3 Yo RO=>run_append_fits (ty:=ty) ht hu hd hs hlen (f4 w rfl) base Y3 Yo RO,
  λbase Y3 Yo Ui hold MW KA=>N9 (ty:=ty) ht hu hd hs Hq hlen f4 base Y3 Yo hold hZ MW KA Qw⟩ Qw z3 f1 f2 f3 hx hv V3
theorem Nq(Z:Array Value)(n:Nat):Builtin.zeroCells Z n=((List.range (n*Z.size)).map λk=>Z[k%Z.size]!).toArray:=by
 apply Array.ext';simp[Builtin.zeroCells]
theorem Ko{k:IntKind}(ht:P.underlying t=some (.slice e))(hu:P.underlying tu=some (.int k)){bytes:Nat}(hs:S8 P e=some size)(hb:oP P e=some bytes)
  {Z:Value} (hZ:∀w:World,(zeroValue e).run P w=.ok Z w) (hz:Z.cells.size=size) {l:Int} (h0:0<=l) (h1:l<9223372036854775808) (h2:l*(bytes:Int)<=140737488355328) (base:Option Addr) (Y3 Yo:Nat) (hc:Y3+l.toNat<=Yo) :
  (Builtin.append_ #[t,tu] ty #[.slice base Y3 Yo,.int k l]).run P w =
   Result.andThen (Sem.run P (match base with|some a=>storeCells (a.add (Y3*size)) ((List.range (l.toNat*Z.cells.size)).map λk=>Z.cells[k%Z.cells.size]!)|none=>pure ():Sem Unit) w) (λ_ w'=>.ok (.slice base (Y3+l.toNat) Yo) w'):=by
 have UE:IntKind.i64.wrap l=l:=by
  unfold IntKind.wrap;simp[IntKind.bits,IntKind.signed];rw[Int.emod_eq_of_lt (by omega) (by omega)];rw[if_neg (by omega)]
 obtain⟨inf,kM,Tw,tN⟩:=HP (P:=P) (w:=w) hb;have Tm:¬l<0:=by omega
 have oN:¬(281474976710656<l*(inf.bytes:Int)):=by rw[Tw];omega
 have hzc:=Nq Z.cells l.toNat;by_cases GQ:l.toNat*size=0
 .have he:((List.range (l.toNat*Z.cells.size)).map λk=>Z.cells[k%Z.cells.size]!)=[]:=by rw[hz,GQ];rfl
  rw[he];cases base with
  |none=>simp[Builtin.append_,run_underlying ht,run_underlying hu,Yg hs,asInt,asIntOf,UE,Tm,tN,oN,hc,GQ]
  |some a=>simp[Builtin.append_,run_underlying ht,run_underlying hu,Yg hs,asInt,asIntOf,UE,Tm,tN,oN,hc,GQ,storeCells]
 .cases base with
  |none=>simp[Builtin.append_,run_underlying ht,run_underlying hu,Yg hs,asInt,asIntOf,UE,Tm,tN,oN,hc,GQ,hZ]
  |some a=>simp[Builtin.append_,run_underlying ht,run_underlying hu,Yg hs,asInt,asIntOf,UE,Tm,tN,oN,hc,GQ,hZ,hzc]
theorem K8{k:IntKind}(ht:P.underlying t=some (.slice e))(hu:P.underlying tu=some (.int k)){bytes:Nat}(hs:S8 P e=some size)(hb:oP P e=some bytes)
  {Z:Value} (hZ:∀w:World,(zeroValue e).run P w=.ok Z w) (hz:Z.cells.size=size) {l:Int} (h0:0<=l) (h1:l<9223372036854775808) (h2:l*(bytes:Int)<=140737488355328) (base:Option Addr) (Y3 Yo:Nat) (Ui:List Value)
  (hold:∀w',w'.heap=w.heap->(Builtin.firstCells size Y3 (.slice base Y3 Yo)).run P w'=.ok Ui.toArray w') (hc:¬Y3+l.toNat<=Yo) (Hq:(Y3+l.toNat)*bytes<=140737488355328) (Qw:0<bytes) :
  ∃w',w'.heap=w.heap.push (.cells (Ui.toArray++((List.range (l.toNat*Z.cells.size)).map λk=>Z.cells[k%Z.cells.size]!).toArray++Builtin.zeroCells Z.cells (Us w (Y3+l.toNat) Yo e-(Y3+l.toNat))) e) /\
   (w'.os=w.os/\w'.tape=w.tape)/\w'.output=w.output /\
   (Builtin.append_ #[t,tu] ty #[.slice base Y3 Yo,.int k l]).run P w=.ok (.slice (some ⟨w.heap.size,0,none⟩) (Y3+l.toNat) (Us w (Y3+l.toNat) Yo e)) w':=by
 have UE:IntKind.i64.wrap l=l:=by
  unfold IntKind.wrap;simp[IntKind.bits,IntKind.signed];rw[Int.emod_eq_of_lt (by omega) (by omega)];rw[if_neg (by omega)]
 obtain⟨inf,kM,Tw,tN⟩:=HP (P:=P) (w:=w) hb;have qF:∀w:World,(typeInfo e).run P w=.ok inf w:=λw=>by simp[typeInfo,kM]
 have Tm:¬l<0:=by omega
 have oN:¬(281474976710656<l*(inf.bytes:Int)):=by rw[Tw];omega
 have hzc:=Nq Z.cells l.toNat;have RO:Builtin.nextslicecap (Y3+l.toNat) Yo*bytes<=281474976710656:=growslice_fits (by omega) Hq;have qE:¬(281474976710656<Builtin.nextslicecap (Y3+l.toNat) Yo*inf.bytes):=by rw[Tw];omega
 have hle:Y3+l.toNat<=140737488355328:=Nat.le_trans (Nat.le_mul_of_pos_right _ Qw) Hq;have hgt:¬(9223372036854775807<((Y3:Int)+l)):=by omega
 have BqG:¬(9223372036854775807<((Y3:Int)+max l 0)):=by omega
 have Ct:=hold w.drew rfl;refine⟨w.drew.alloc (.cells (Ui.toArray++((List.range (l.toNat*Z.cells.size)).map λk=>Z.cells[k%Z.cells.size]!).toArray++Builtin.zeroCells Z.cells (Us w (Y3+l.toNat) Yo e-(Y3+l.toNat))) e),rfl,⟨rfl,rfl⟩,rfl,?_⟩;by_cases GQ:l.toNat*size=0
 .have he:((List.range (l.toNat*Z.cells.size)).map λk=>Z.cells[k%Z.cells.size]!)=[]:=by rw[hz,GQ];rfl
  rw[he];simp[Builtin.append_,run_underlying ht,run_underlying hu,Yg hs,asInt,asIntOf,UE,Tm,tN,qF,oN,hc,GQ,hgt,BqG,qE,Question.forced,Ct,hZ,newRow,Us]
 .simp[Builtin.append_,run_underlying ht,run_underlying hu,Yg hs,asInt,asIntOf,UE,Tm,tN,qF,oN,hc,GQ,hgt,BqG,qE,Question.forced,Ct,hZ,newRow,Us,hzc]
  congr 2
  apply Array.ext';simp[List.append_assoc]
theorem AF(hr:Zb i h w){k:IntKind}(hu:P.underlying tu=some (.int k)){ux:Value}(hx:ZK i x ux)(hy:ZK i y uy)
  (hv:qW P h t x y=some (v,h')) (V3:i.clear h.n h'.n) :
  ∃u w' i',(Builtin.append_ #[t,tu] ty #[ux,uy]).run P w=.ok u w'/\ZK i' v u/\Zb i' h' w'/\Fr i h w i' h' w':=by
 unfold qW at hv;replace hv:=ZT hv;obtain⟨e,he,hv⟩:=hv;replace hv:=ZT hv;obtain⟨size,hs,hv⟩:=hv;replace hv:=ZT hv;obtain⟨bytes,Hq,hv⟩:=hv;split at hv
 .cases hv
 rename_i Lb;have Kq:VA P e size=true:=by
  cases hq:VA P e size with
  |true=>rfl
  |false=>exact absurd (.inr (.inr hq)) Lb
 have Qw:0<bytes:=Nat.pos_of_ne_zero λe=>Lb (.inr (.inl e));replace hv:=ZT hv;obtain⟨z,hz,hv⟩:=hv;unfold apM at hv;split at hv
 .rename_i k' l
  cases hy;split at hv
  .rename_i hb
   have ht:=La he;obtain⟨Z,hZ,z1,z2,z3⟩:=RK (P:=P) (i:=i) hz Kq;have BqF:l<9223372036854775808:=by
    have:l*1<=l*(bytes:Int):=Int.mul_le_mul_of_nonneg_left (by omega) hb.1;omega
   have hzl:=z1.length;simp at hzl;refine Jl (Z:=Z) (ty:=ty) (us:=(List.range (l.toNat*Z.cells.size)).map λk=>Z.cells[k%Z.cells.size]!) hr
    ⟨λbase Y3 Yo RO=>Ko ht hu hs Hq hZ z3 hb.1 BqF hb.2 base Y3 Yo RO,
     λbase Y3 Yo Ui hold MW KA=>K8 ht hu hs Hq hZ z3 hb.1 BqF hb.2 base Y3 Yo Ui hold MW KA Qw⟩ Qw z3 ?_ (Lc z2) (P9 z1 l.toNat) hx hv V3
   rw[RL];have:Z.cells.size=z.length:=hzl;rw[<-this,z3]
  .cases hv
 .cases hv
theorem DY(hr:Zb i h w){ux:Value}(hx:ZK i x ux)(hy:ZK i y uy)(hv:copyV P h t x y=some (v,h')):
  ∃u w',(Builtin.copy_ #[t,tu] ty #[ux,uy]).run P w=.ok u w'/\ZK i v u/\Zb i h' w'/\Fr i h w i h' w':=by
 unfold copyV at hv;replace hv:=ZT hv;obtain⟨e,he,hv⟩:=hv;replace hv:=ZT hv;obtain⟨size,hs,hv⟩:=hv;unfold cpZ at hv;replace hv:=ZT hv;obtain⟨m,hm,hv⟩:=hv;have ht:=La he;have hlen:=Nr (P:=P) (w:=w) hy hm;split at hv
 .cases hx
  cases hv;refine⟨.int .i64 0,w,?_,.int _ _,hr,Fr.refl _ _ _⟩;have hf:(Builtin.firstCells size 0 uy).run P w=.ok #[] w:=by
   cases hy<;>first|(simp[lenOf]at hm;done)|simp[Builtin.firstCells,loadCells,loadCellsFrom]
  simp[Builtin.copy_,run_underlying ht,Result.andThen,hlen,Yg hs,hf,goInt]
 .rename_i b o len cap
  replace hv:=ZT hv;obtain⟨new,Md,hv⟩:=hv;replace hv:=ZT hv;obtain⟨h1,UE,hv⟩:=hv;cases hv;obtain⟨f1,f2,us,f3,f4⟩:=T3 (P:=P) hr hy Md ⟨m,hm,Nat.min_le_left _ _⟩;have qC:us.length=min m len*size:=f3.length.trans f1;have QS:∀a c,ux=.slice (some a) len c->∀w',(storeCells a us).run P w=.ok () w'->(Builtin.copy_ #[t,tu] ty #[ux,uy]).run P w=.ok (.int .i64 (min m len:Nat)) w':=by
   intro a c vq w' WY;subst vq;have hf:=f4 w rfl;have TK:Nat.min m len=min m len:=rfl;simp[Builtin.copy_,run_underlying ht,Result.andThen,hlen,Yg hs,TK,hf,WY,goInt]
  have emp:∀(q:NV) (p:Nat),i b=some q->len=0->∃w',(storeCells ⟨q.B,p,none⟩ us).run P w=.ok () w'/\Zb i h' w'/\Fr i h w i h' w':=by
   intro q p hq h0;subst h0;have FU:us=[]:=by simpa using qC
   subst FU;obtain⟨w',e1,e2,e3,e4⟩:=UK (P:=P) hr hq f3 f2 UE;simp[storeCells]at e1;subst e1;exact⟨w,by simp[storeCells],e2,e3⟩
  cases hx with
  |@Kg _ _ _ _ q hq =>
   obtain⟨w',e1,e2,e3,e4⟩:=UK (P:=P) hr hq f3 f2 UE;exact⟨_,w',QS _ _ rfl w' e1,.int _ _,e2,e3⟩
  |@Fh _ _ _ _ _ q hq hc hl =>
   obtain⟨w',e1,e2,e3,e4⟩:=UK (P:=P) hr hq f3 f2 UE;exact⟨_,w',QS _ _ rfl w' e1,.int _ _,e2,e3⟩
  |@DI _ _ a =>
   have FU:us=[]:=by simpa using qC
   subst FU;have hnw:new=[]:=List.eq_nil_of_length_eq_zero (by simpa using f1);subst hnw;obtain⟨e2,e3⟩:=QJ hr UE;exact⟨_,w,QS _ _ rfl w (by simp[storeCells]),.int _ _,e2,e3⟩
  |@sle _ _ _ p q hq =>
   obtain⟨w',e1,e2,e3⟩:=emp q p hq rfl;exact⟨_,w',QS _ _ rfl w' e1,.int _ _,e2,e3⟩
 .cases hv
theorem Cq:∀{ks:List Lf} {a b:List V},Yr ks a=true->Yr ks b=true->WX a b=true->a=b
 |[],[],[],_,_,_=>rfl
 |k::ks,x::a,y::b,h1,h2,h3=>by
  simp[Yr,WX]at h1 h2 h3;rw[Cq h1.2 h2.2 h3.2];cases k<;>cases x<;>simp[Ky]at h1<;>cases y<;>simp[Ky,ui]at h2 h3
  .rw[h3.1]
  .rw[<-h1.1,<-h2.1,h3.1]
 |[],_::_,_,h,_,_=>by simp[Yr]at h
 |[],[],_::_,_,h,_=>by simp[Yr]at h
 |_::_,[],_,h,_,_=>by simp[Yr]at h
 |_::_,_::_,[],_,h,_=>by simp[Yr]at h
theorem Np(n:Nat):∀{ks:List Lf} {a:List V},Yr ks a=true->((a.map valOf).zip (a.map valOf)).all (λ(x,y)=>Instr.sameBits n x y)=true
 |[],[],_=>rfl
 |k::ks,x::a,h=>by
  simp[Yr]at h;have ih:=Np n h.2;simp only[List.map_cons,List.zip_cons_cons,List.all_cons,ih,Bool.and_true];cases k<;>cases x<;>simp[Ky]at h<;>cases n<;>simp[valOf,Instr.sameBits]
 |[],_::_,h=>by simp[Yr]at h
 |_::_,[],h=>by simp[Yr]at h
variable{kt:TypeId}
theorem Wj{d:TypeDesc}(hd:P.underlying kt=some d)(a:Array Value)(E:List MapEntry):(Instr.findKey kt (.agg a) E).run P w=(Instr.findAsking kt (.agg a) E 0).run P w:=by
 cases E with
 |nil=>simp[Instr.findKey,run_underlying hd,Instr.findNow,Instr.findAsking,Result.andThen]
 |cons e E =>
  have:Instr.findNow d (.agg a) (e::E) 0=none:=by unfold Instr.findNow;cases d<;>rfl
  simp[Instr.findKey,run_underlying hd,this,Result.andThen]
theorem P6{ks:List Lf}(hf:∀cs:List Value,Fm P kt cs (.agg cs.toArray))(hl:XH P 20 kt=some ks){kc:List V}(hk:Yr ks kc=true):
  ∀(es:List (V×V)) (E:List MapEntry) (n:Nat) {r:Option (Nat×V)},ZA i (es.map (·.1)) (E.map (·.key))->ZA i (es.map (·.2)) (E.map (·.val))->NG ks kc es n=some r ->
  (r=none/\(Instr.findAsking kt (.agg (kc.map valOf).toArray) E n).run P w=.ok none w) \/
  ∃m v e,r=some (n+m,v)/\(Instr.findAsking kt (.agg (kc.map valOf).toArray) E n).run P w=.ok (some (n+m,e.val)) w/\es[m]?=some (.agg kc,v)/\E[m]?=some e/\e.key=.agg (kc.map valOf).toArray/\ZK i v e.val
 |[],E,n,r,h1,h2,h3=>by
  simp[NG]at h3;subst h3;cases E with
  |nil=>exact .inl ⟨rfl,by simp[Instr.findAsking]⟩
  |cons e E=>cases h1
 |(a,v)::es,[],n,r,h1,h2,h3=>by cases h1
 |(a,v)::es,e::E,n,r,h1,h2,h3=>by
  cases h1 with
  |cons k1 k2 =>
  cases h2 with
  |cons v1 v2 =>
  cases a<;>simp only[NG,reduceCtorEq]at h3;rename_i ac;split at h3
  .rename_i SI
   have k1:ZK i (.agg ac) e.key:=k1;obtain⟨us,hke,r1⟩:∃us:List Value,e.key=.agg us.toArray/\ZA i ac us:=by
    generalize e.key=q at k1;cases k1 with
    |agg r1 _=>exact⟨_,rfl,r1⟩
   have tM:=ZA.Oc SI r1;have hs:=HX 20 10000 kt ks (by decide) hl w kc ac (.agg (kc.map valOf).toArray) (.agg us.toArray) hk SI (hf _) (by rw[tM];exact hf _);have heq:(Op.equal kt (.agg (kc.map valOf).toArray) e.key).run P w=.ok (WX kc ac) w:=by rw[hke];exact hs
   split at h3
   .rename_i hq
    cases h3;rw[hq]at heq;have:=Cq hk SI hq;subst this;exact .inr ⟨0,v,e,rfl,by simp[Instr.findAsking,heq],rfl,rfl,by rw[hke,tM],v1⟩
   .rename_i hq
    rw[Bool.not_eq_true]at hq;rw[hq]at heq;rcases P6 hf hl hk es E (n+1) k2 v2 h3 with ⟨g1,g2⟩|⟨m,v',e',g1,g2,g3,g4,g5,g6⟩
    . exact .inl ⟨g1,by simp[Instr.findAsking,heq,g2]⟩
    . exact .inr ⟨m+1,v',e',by rw[g1,Nat.add_assoc,Nat.add_comm 1],by simp[Instr.findAsking,heq,g2,Nat.add_assoc,Nat.add_comm 1 m],by simpa using g3,by simpa using g4,g5,g6⟩
  .cases h3
theorem K7{et:TypeId}{ks:List Lf}(h:qB P t=some (et,ks)):∃kt d,P.underlying t=some (.map kt et)/\P.underlying kt=some d/\XH P 20 kt=some ks/\∀cs:List Value,Fm P kt cs (.agg cs.toArray):=by
 unfold qB at h;split at h
 .rename_i kt et' hu
  obtain⟨aK,h1,h2⟩:=Option.map_eq_some_iff.1 h;cases h2;unfold FT at h1;split at h1
  .rename_i hk
   split at h1
   .cases h1
   .exact⟨kt,_,hu,hk,h1,λcs=>by unfold Fm;rw[hk]⟩
  .rename_i hk
   split at h1
   .cases h1
   .exact⟨kt,_,hu,hk,h1,λcs=>by unfold Fm;rw[hk]⟩
  .cases h1
 .cases h
variable{m k:V}{um uk:Value}
theorem vn(hr:Zb i h w)(hm:ZK i m um)(hk:ZK i k uk){ok:Bool}(hv:ai P h t m k ok=some (v,h')):
  h'=h/\∃u,(Instr.lookup t um uk ok).run P w=.ok u w/\ZK i v u:=by
 unfold ai at hv;replace hv:=ZT hv;obtain⟨⟨et,ks⟩,hkt,hv⟩:=hv;replace hv:=ZT hv;obtain⟨z,hz,hv⟩:=hv;obtain⟨kt,d,hu,hd,hl,hf⟩:=K7 hkt;simp only at hz hv;unfold oe at hv;split at hv
 .rename_i b kc
  split at hv
  .rename_i SI
   cases hm with
   |map hb =>
   cases hk with
   |agg r1 _ =>
   split at hv
   .rename_i es KQ
    obtain⟨x,E,B0,hx,_,hw,k1,k2⟩:=hr.Y9 _ _ KQ;rw[hb]at hx;cases hx;replace hv:=ZT hv;obtain⟨r,hfi,hv⟩:=hv;have tM:=ZA.Oc SI r1;have hzv:∃Z,(zeroValue et).run P w=.ok Z w/\ZK i z Z:=by
      unfold zvT at hz;obtain⟨Z,uD,rfl⟩:=Option.map_eq_some_iff.1 hz;obtain⟨x,lK,DJ⟩:=Option.bind_eq_some_iff.1 uD;exact⟨Z,by simp[zeroValue,typeInfo,lK,Result.andThen,DJ],ZK.XE i Z⟩
    obtain⟨Z,uD,HD⟩:=hzv;have Ak:=Lr (P:=P) E.isEmpty 20 10000 kt ks (by decide) hl w kc (.agg (kc.map valOf).toArray) SI (hf _);rw[tM];rcases P6 (w:=w) hf hl SI es E.toList 0 k1 k2 hfi with ⟨rfl,g2⟩|⟨m,v',e',rfl,g2,g3,g4,g5,g6⟩
    . simp only at hv
      cases ok
      .simp at hv;obtain⟨rfl,rfl⟩:=hv
       exact⟨rfl,Z,by simp[Instr.lookup,run_underlying hu,MapKept.run_getObj_map hw,Ak,Wj hd,g2,uD,Result.andThen],HD⟩
      .simp at hv;obtain⟨rfl,rfl⟩:=hv
       exact⟨rfl,_,by simp[Instr.lookup,run_underlying hu,MapKept.run_getObj_map hw,Ak,Wj hd,g2,uD,Result.andThen],.Zt (.cons HD (.cons (.bool _) .nil))⟩
    . simp only at hv
      cases ok
      .simp at hv;obtain⟨rfl,rfl⟩:=hv
       exact⟨rfl,_,by simp[Instr.lookup,run_underlying hu,MapKept.run_getObj_map hw,Ak,Wj hd,g2,Result.andThen],g6⟩
      .simp at hv;obtain⟨rfl,rfl⟩:=hv
       exact⟨rfl,_,by simp[Instr.lookup,run_underlying hu,MapKept.run_getObj_map hw,Ak,Wj hd,g2,Result.andThen],.Zt (.cons g6 (.cons (.bool _) .nil))⟩
   .cases hv
  .cases hv
 .cases hv
theorem N8:∀{a b:List V} {x y:List Value},ZA i a x->ZA i b y->ZA i (a++b) (x++y)
 |[],_,_,_,.nil,h=>h
 |_::_,_,_,_,.cons h1 h2,h=>.cons h1 (N8 h2 h)
theorem DX:∀{a:List V} {x:List Value} (j:Nat) {v:V} {u:Value},ZA i a x->ZK i v u->ZA i (a.set j v) (x.set j u)
 |[],_,_,_,_,.nil,_=>.nil
 |_::_,_,0,_,_,.cons h1 h2,h=>.cons h h2
 |_::_,_,j+1,_,_,.cons h1 h2,h=>.cons h1 (DX j h2 h)
theorem FR(hr:Zb i h w)(hm:ZK i m um)(hk:ZK i k uk)(sH:ZK i v uv)(hv:af P h t m k v=some (r,h')):
  r=.Wz/\∃w',(Instr.mapUpdate t um uk uv).run P w=.ok () w'/\Zb i h' w'/\Fr i h w i h' w':=by
 unfold af at hv;replace hv:=ZT hv;obtain⟨⟨et,ks⟩,hkt,hv⟩:=hv;obtain⟨kt,d,hu,hd,hl,hf⟩:=K7 hkt;simp only at hv;unfold km at hv;split at hv
 .rename_i b kc
  split at hv
  .rename_i SI
   cases hm with
   |@map _ x hb =>
   cases hk with
   |agg r1 hcell =>
   split at hv
   .rename_i es KQ
    obtain⟨y,E,B0,hx,jA,hw,k1,k2⟩:=hr.Y9 _ _ KQ;have RG:=hb;rw[hb]at hx;cases hx;replace hv:=ZT hv;obtain⟨rr,hfi,hv⟩:=hv;have tM:=ZA.Oc SI r1;have Ak:=Lr (P:=P) false 20 10000 kt ks (by decide) hl w kc (.agg (kc.map valOf).toArray) SI (hf _);have BqE:ZK i (.agg kc) (.agg (kc.map valOf).toArray):=by rw[<-tM];exact .agg r1 hcell
    rw[tM];rcases P6 (w:=w) hf hl SI es E.toList 0 k1 k2 hfi with ⟨rfl,g2⟩|⟨m,v',e',rfl,g2,g3,g4,g5,g6⟩
    . simp only[Option.some.injEq,Prod.mk.injEq]at hv
      obtain⟨rfl,rfl⟩:=hv;refine⟨rfl,{w with heap:=w.heap.setIfInBounds x.B (.map (E.push {key:=.agg (kc.map valOf).toArray,val:=uv,born:=B0}) (B0+1))},?_,?_⟩
      .simp[Instr.mapUpdate,run_underlying hu,MapKept.run_getObj_map hw,Ak,Wj hd,g2,MapKept.run_setObj_map _ hw,Result.andThen]
      .obtain⟨s1,s2⟩:=MapKept.heap_set (o':=.map (E.push {key:=.agg (kc.map valOf).toArray,val:=uv,born:=B0}) (B0+1)) hw
       refine hr.D1 KQ rfl RG rfl ⟨_,_,_,RG,jA,s1,?_,?_⟩ (λB hB=>s2 B hB) (by simp) ⟨rfl,rfl⟩ rfl
       .simp only[List.map_append,Array.toList_push,List.map_cons,List.map_nil]
        exact N8 k1 (.cons BqE .nil)
       .simp only[List.map_append,Array.toList_push,List.map_cons,List.map_nil]
        exact N8 k2 (.cons sH .nil)
    . simp only[Option.some.injEq,Prod.mk.injEq,Nat.zero_add]at hv
      obtain⟨rfl,rfl⟩:=hv;have gE:E[m]?=some e':=by rw[<-Array.getElem?_toList];exact g4
      have L6:(Instr.keyThatStays e'.key (.agg (kc.map valOf).toArray)).run P w=.ok (.agg (kc.map valOf).toArray) w:=by
       rw[g5];have:Instr.sameBits 10000 (.agg (kc.map valOf).toArray) (.agg (kc.map valOf).toArray)=true:=by
        show ((_:Array Value).size==_&&_)=true
        simp only[BEq.rfl,Bool.true_and];exact Np 9999 SI
       simp[Instr.keyThatStays,this]
      refine⟨rfl,{w with heap:=w.heap.setIfInBounds x.B (.map (E.modify m λe=>{e with key:=.agg (kc.map valOf).toArray,val:=uv}) B0)},?_,?_⟩
      .simp[Instr.mapUpdate,run_underlying hu,MapKept.run_getObj_map hw,Ak,Wj hd,g2,gE,L6,MapKept.run_setObj_map _ hw,Result.andThen]
      .obtain⟨s1,s2⟩:=MapKept.heap_set (o':=.map (E.modify m λe=>{e with key:=.agg (kc.map valOf).toArray,val:=uv}) B0) hw
       refine hr.D1 KQ rfl RG rfl ⟨_,_,_,RG,jA,s1,?_,?_⟩ (λB hB=>s2 B hB) (by simp) ⟨rfl,rfl⟩ rfl
       .have:(E.modify m λe=>{e with key:=.agg (kc.map valOf).toArray,val:=uv}).toList.map (·.key)=(E.toList.map (·.key)).set m (.agg (kc.map valOf).toArray):=by
         apply List.ext_getElem?;intro j;simp only[List.getElem?_map,Array.getElem?_toList,Array.getElem?_modify,List.getElem?_set,List.length_map];by_cases hj:m=j
         .subst hj;simp[gE,(Array.getElem?_eq_some_iff.mp gE).1]
         .simp[hj]
        rw[this,List.map_set];exact DX m k1 BqE
       .have:(E.modify m λe=>{e with key:=.agg (kc.map valOf).toArray,val:=uv}).toList.map (·.val)=(E.toList.map (·.val)).set m uv:=by
         apply List.ext_getElem?;intro j;simp only[List.getElem?_map,Array.getElem?_toList,Array.getElem?_modify,List.getElem?_set,List.length_map];by_cases hj:m=j
         .subst hj;simp[gE,(Array.getElem?_eq_some_iff.mp gE).1]
         .simp[hj]
        rw[this,List.map_set];exact DX m k2 sH
   .cases hv
  .cases hv
 .cases hv
theorem F7(hr:Zb i h w)(hs:∀x,ZK i (Zf.ev s x) (ρ x))(o:Oper)(hv:WT P s h o.op=some (v,h'))(V3:i.clear h.n h'.n):
  ∃r w' i',(execOp ρ o).run P w=.ok r w'/\(r=.skip/\v=.Wz\/∃u,r=.value u/\ZK i' v u)/\Zb i' h' w'/\Fr i h w i' h' w':=by
 cases ho:o.op<;>rw[ho]at hv<;>simp only[WT,reduceCtorEq]at hv
 case store t a x =>
  obtain⟨h1,h2,w',e1,e2,e3⟩:=vy (P:=P) hr (hs a) (hs x) hv;exact⟨.skip,w',i,by simp[execOp,ho,e1,Result.andThen],.inl ⟨rfl,h1⟩,e2,e3⟩
 case makeMap t r =>
  cases r with
  |some r=>simp[WT]at hv
  |none =>
   simp only[WT,fy,Option.some.injEq,Prod.mk.injEq]at hv;obtain⟨rfl,rfl⟩:=hv;have hn:i h.n=none:=V3 h.n (Nat.le_refl _) (by rw[H.ZP];omega);have BT:(w.alloc (.map #[] 0)).heap=w.heap.push (.map #[] 0):=rfl;obtain⟨e2,e3⟩:=hr.vC (X:=.map []) (N:=0) (o:=.map #[] 0) hn BT ⟨rfl,rfl⟩ rfl ⟨_,#[],0,YJ.YK,rfl,by rw[BT];simp,.nil,.nil⟩;exact⟨.value (.map (some w.heap.size)),_,_,by simp[execOp,ho,Instr.makeMap,Result.andThen],.inr ⟨_,rfl,.map YJ.YK⟩,e2,e3⟩
 case lookup t m k ok =>
  obtain⟨rfl,u,e1,e2⟩:=vn (P:=P) hr (hs m) (hs k) hv;exact⟨.value u,w,i,by simp[execOp,ho,e1,Result.andThen],.inr ⟨u,rfl,e2⟩,hr,Fr.refl _ _ _⟩
 case mapUpdate t m k x =>
  obtain⟨h1,w',e1,e2,e3⟩:=FR (P:=P) hr (hs m) (hs k) (hs x) hv;exact⟨.skip,w',i,by simp[execOp,ho,e1,Result.andThen],.inl ⟨rfl,h1⟩,e2,e3⟩
 case insert t m k x =>
  obtain⟨h1,w',e1,e2,e3⟩:=FR (P:=P) hr (hs m) (hs k) (hs x) hv;exact⟨.skip,w',i,by simp[execOp,ho,e1,Result.andThen],.inl ⟨rfl,h1⟩,e2,e3⟩
 case call c =>
  cases HO:c.callee with
  |value f=>simp[HO]at hv
  |invoke f m=>simp[HO]at hv
  |builtin b =>
   rw[HO]at hv;have Nn:∀S:Sem Value,builtin b c.argTypes o.type (c.args.map λ| .const _=>true|_=>false) (c.args.map ρ)=(do pure (.value (<-S))) ->
      (∃u w' i',S.run P w=.ok u w'/\ZK i' v u/\Zb i' h' w'/\Fr i h w i' h' w') ->
      ∃r w' i',(execOp ρ o).run P w=.ok r w'/\(r=.skip/\v=.Wz\/∃u,r=.value u/\ZK i' v u)/\Zb i' h' w'/\Fr i h w i' h' w':=by
    rintro S e ⟨u,w',i',h1,h2,h3,h4⟩;refine⟨.value u,w',i',?_,.inr ⟨u,rfl,h2⟩,h3,h4⟩;have:(execOp ρ o).run P w=(builtin b c.argTypes o.type (c.args.map λ| .const _=>true|_=>false) (c.args.map ρ)).run P w:=by
      simp only[execOp,ho,Sem.run_bind,resolve,HO,Sem.run_pure,Result.andThen];rfl
    rw[this,e];simp[h1,Result.andThen]
   cases b<;>simp only[reduceCtorEq]at hv
   case append =>
    split at hv
    . rename_i x y t u hx ht
      have e1:c.args=#[x,y]:=Array.ext' hx;have e2:c.argTypes=#[t,u]:=Array.ext' ht;split at hv
      .rename_i k hk
       refine Nn (Builtin.append_ #[t,u] o.type #[ρ x,ρ y]) ?_ (AF hr hk (hs x) (hs y) hv V3);rw[e1,e2];simp[builtin]
      .cases hv
      .rename_i h1 h2
       obtain⟨d,hd⟩:∃d,P.underlying u=some d:=by
        cases hq:P.underlying u with
        |none=>exact absurd hq h2
        |some d=>exact⟨d,rfl⟩
       refine Nn (Builtin.append_ #[t,u] o.type #[ρ x,ρ y]) ?_ (vp hr hd (λk hk=>h1 k (by rw[hd,hk])) (hs x) (hs y) hv V3);rw[e1,e2];simp[builtin]
    . cases hv
   case copy =>
    split at hv
    . rename_i x y t u hx ht
      have e1:c.args=#[x,y]:=Array.ext' hx;have e2:c.argTypes=#[t,u]:=Array.ext' ht;obtain⟨r,w',g1,g2,g3,g4⟩:=DY (P:=P) (tu:=u) (ty:=o.type) hr (hs x) (hs y) hv;refine Nn (Builtin.copy_ #[t,u] o.type #[ρ x,ρ y]) ?_ ⟨r,w',i,g1,g2,g3,g4⟩;rw[e1,e2];simp[builtin]
    . cases hv
end Go.Zf
