import Derived.Test.YtbkmdnmncaakdaaGreatPfZRel
import Derived.Test.YtbkmdnmncaakdaaGreatPfZSame
import Derived.Laws.Sem
import Derived.Laws.Cells
import Derived.Laws.Entries
set_option linter.unusedVariables false
set_option linter.unusedSimpArgs false
namespace Go.Zf
variable{P:Program}{i:YJ}{h:H}{w:World}
theorem WA(B p n:Nat):(⟨B,p,none⟩:Addr).add n=⟨B,p+n,none⟩:=by
 unfold Addr.add;split<;>simp_all
variable{b:Nat}{c:List V}{e:TypeId}{ro:Bool}
theorem Zb.ent(hr:Zb i h w)(hb:h.get b=some (.cells c e ro)){x:NV}(hx:i b=some x):
  ∃(C:Array Value) (fr:Nat×Nat),x.ro=ro/\w.heap[x.B]?=some (.cells C e fr)/\C.size=x.N/\x.s+c.length<=x.N/\(ro=false->fr=(0,0)) /\
   (∀(k:Nat) (v:V),c[k]?=some v->v.Zr=true/\∃u,C[x.s+k]?=some u/\ZK i v u):=by
 obtain⟨x',C,fr,h1,h2,h3,h4,h5,h6,h7⟩:=hr.Y9 _ _ hb;rw[hx]at h1;cases h1;exact⟨C,fr,h2,h3,h4,h5,h6,h7⟩
theorem Zb.cell(hr:Zb i h w)(hb:h.get b=some (.cells c e ro)){x:NV}(hx:i b=some x)
  {k:Nat} {v:V} (hk:c[k]?=some v):v.Zr=true/\∃u,w.cell? ⟨x.B,x.s+k,none⟩=some u/\ZK i v u:=by
 obtain⟨C,fr,_,h3,_,_,_,h7⟩:=hr.ent hb hx;obtain⟨hc,u,hu,hv⟩:=h7 k v hk;exact⟨hc,u,by simp[World.cell?,h3,hu],hv⟩
variable{o:Nat}
theorem AE(hr:Zb i h w){x:NV}(hx:i b=some x){v:V}(hv:h.Zp b o=some v):
  v.Zr=true/\∃u,w.cell? ⟨x.B,x.s+o,none⟩=some u/\ZK i v u:=by
 unfold H.Zp at hv;split at hv
 .rename_i c e ro hb
  exact hr.cell hb hx hv
 .cases hv
variable{n:Nat}{l:List V}
theorem Jm(hr:Zb i h w){x:NV}(hx:i b=some x)(hl:h.Ze b o n=some l):
  l.length=n/\l.all V.Zr=true/\∃us,ZA i l us/\∀j u,us[j]?=some u->w.cell? ((⟨x.B,x.s+o,none⟩:Addr).add j)=some u:=by
 unfold H.Ze at hl;split at hl
 .rename_i c e ro hb
  split at hl
  .rename_i hle
   cases hl;have hlen:((c.drop o).take n).length=n:=by simp;omega
   have Ij:∀j,j<n->∃v,c[o+j]?=some v/\((c.drop o).take n)[j]?=some v:=by
     intro j hj;refine⟨c[o+j]'(by omega),List.getElem?_eq_getElem _,?_⟩;simp[hj]
   refine⟨hlen,?_,?_⟩
   . rw[List.all_eq_true]
     intro v hv;obtain⟨j,hj,e⟩:=List.getElem_of_mem hv;obtain⟨v',h1,h2⟩:=Ij j (by omega);rw[List.getElem?_eq_getElem hj]at h2;cases h2;subst e;exact (hr.cell hb hx h1).1
   . refine⟨(List.range n).map λj=>(w.cell? ⟨x.B,x.s+(o+j),none⟩).getD undef,?_,?_⟩
     . refine ZA.zh (by simp[hlen]) ?_
       intro k v hk;have hkn:k<n:=by
         have:=(List.getElem?_eq_some_iff.1 hk).1;omega
       obtain⟨v',h1,h2⟩:=Ij k hkn;rw[h2]at hk;cases hk;obtain⟨_,u,hu,hv⟩:=hr.cell hb hx h1;exact⟨u,by simp[hkn,hu],hv⟩
     . intro j u hj
       have hjn:j<n:=by
         have:=(List.getElem?_eq_some_iff.1 hj).1;simpa using this
       obtain⟨v',h1,h2⟩:=Ij j hjn;obtain⟨_,u',hu,hv⟩:=hr.cell hb hx h1;simp[hjn,hu]at hj;rw[WA,Nat.add_assoc,hu,hj]
  .cases hl
 .cases hl
variable{t:TypeId}
theorem Rj{g:Bool}(hd:Ve P t=some g):(isAgg t).run P w=.ok g w:=by
 unfold Ve at hd;cases hu:P.underlying t with
 |none=>simp[hu]at hd
 |some d =>
  simp only[isAgg,Sem.run_bind,run_underlying hu,Result.andThen];cases d<;>simp_all
theorem Yg(hn:S8 P t=some n):(sizeOf t).run P w=.ok n w:=by
 unfold S8 at hn;cases hi:P.info? t with
 |none=>simp[hi]at hn
 |some x =>
  simp[hi]at hn;simp[sizeOf,typeInfo,hi,hn]
theorem HP(hn:oP P t=some n):∃x,P.info? t=some x/\x.bytes=n/\(typeInfo t).run P w=.ok x w:=by
 unfold oP at hn;cases hi:P.info? t with
 |none=>simp[hi]at hn
 |some x =>
  simp[hi]at hn;exact⟨x,rfl,hn,by simp[typeInfo,hi]⟩
theorem Nb(hr:Zb i h w){x:NV}(hx:i b=some x)(hl:h.Ze b o n=some l):
  l.all V.Zr=true/\∃us:List Value,ZA i l us/\(loadCells ⟨x.B,x.s+o,none⟩ n).run P w=.ok us.toArray w:=by
 obtain⟨h1,h2,us,h3,h4⟩:=Jm hr hx hl;refine⟨h2,us,h3,?_⟩;have:=run_loadCells_list (P:=P) w ⟨x.B,x.s+o,none⟩ us (λj v hj=>h4 j v hj)
 rwa[h3.length,h1]at this
variable{u:Value}
theorem F2(hr:Zb i h w){a:V}(ha:ZK i a u){v:V}(hv:KP P t h a=some v):
  ∃u',(Instr.loadAt t u).run P w=.ok u' w/\ZK i v u':=by
 unfold KP at hv;split at hv
 .rename_i b o
  cases ha with
  |ptr hx =>
   rename_i x;split at hv
   . rename_i kK
     cases hn:S8 P t with
     |none=>simp[hn]at hv
     |some n =>
       simp only[hn,Option.bind_some]at hv;cases hl:h.Ze b o n with
       |none=>simp[hl]at hv
       |some l =>
         simp only[hl,Option.bind_some,Option.some.injEq]at hv;subst hv;obtain⟨hc,us,h3,h4⟩:=Nb (P:=P) hr hx hl;refine⟨.agg us.toArray,?_,.agg h3 hc⟩;simp[Instr.loadAt,Instr.sureAddr,loadVar,Rj kK,Yg hn,h4,Result.andThen]
   . rename_i kK
     obtain⟨_,u',hu,Ip⟩:=AE hr hx hv;refine⟨u',?_,Ip⟩;simp[Instr.loadAt,Instr.sureAddr,loadVar,Rj kK,Result.andThen,hu]
   . cases hv
 .cases hv
variable{x y:V}{v:Value}
theorem FQ(hx:ZK i x u)(hy:ZK i y v){b:Bool}(hb:jh x y=some b)(ht:eqT (kdT P t) x=true)(ox oy:Operand):
  (∀op,(eqGuard op t ox oy u v).run P w=.ok () w)/\(binOp .eql t u v).run P w=.ok (.bool b) w/\(binOp .neq t u v).run P w=.ok (.bool !b) w:=by
 have key:(∀op,(eqGuard op t ox oy u v).run P w=.ok () w)/\binOp .eql t u v=(do pure (.bool (<-Op.equal t u v)))/\binOp .neq t u v=(do pure (.bool (!(<-Op.equal t u v))))
   /\ (Op.equal t u v).run P w=.ok b w:=by
  unfold jh at hb;split at hb<;>simp only[Option.some.injEq,reduceCtorEq]at hb<;>subst hb<;>cases hx<;>cases hy <;>
   (simp only[eqT,kdT]at ht;split at ht<;>first
     |(simp at ht;done)
     |(
        rename_i hu;refine⟨λop=>by cases op<;>rfl,rfl,rfl,?_⟩
        show (Op.equalIn (9999+1) _ _ _).run P w=_
        unfold Op.equalIn;rw[Sem.run_bind,run_underlying hu];rfl))
 obtain⟨h1,h2,h3,h4⟩:=key;refine⟨h1,?_,?_⟩
 .rw[h2,Sem.run_bind,h4];rfl
 .rw[h3,Sem.run_bind,h4];rfl
variable{r:V}
theorem DW{op:BinOp}{k:IntKind}{x y:Int}(hr:Sd op k x y=some r)(hop:op≠.shl/\op≠.shr):
  ∃r',(binOp op t (.int k x) (.int k y)).run P w=.ok r' w/\ZK i r r':=by
 cases op<;>simp only[Sd,LD,Gm,Option.some.injEq,reduceCtorEq]at hr <;>
  first
  |(subst hr;simp only[binOp,ne_eq,not_true_eq_false,if_false,Op.intArith,Op.intBits,Op.intCmp,Sem.run_pure];exact⟨_,rfl,by constructor⟩)
  |(
    split at hr
    . cases hr
    . rename_i hy
      cases hr;simp only[binOp,ne_eq,not_true_eq_false,if_false,Op.intDiv,hy,Sem.run_pure];exact⟨_,rfl,by constructor⟩)
  |(exact absurd rfl hop.1)
  |(exact absurd rfl hop.2)
theorem Jk{op:BinOp}{k l:IntKind}{x y:Int}(hop:op=.shl\/op=.shr)(hr:bG op k x y=some r):
  ∃r',(binOp op t (.int k x) (.int l y)).run P w=.ok r' w/\ZK i r r':=by
 unfold bG at hr;split at hr
 .cases hr
 .rename_i hy
  rcases hop with rfl|rfl
  .cases hr
   simp only[binOp,Op.shift,hy,if_false,Sem.run_pure];exact⟨_,rfl,.int _ _⟩
  .cases hr
   simp only[binOp,Op.shift,hy,if_false,Sem.run_pure];exact⟨_,rfl,.int _ _⟩
theorem DV{ks:List Lf}{op:BinOp}(hx:ZK i x u)(hy:ZK i y v)(ha:FT P t=some ks)(hr:VO ks op x y=some r)(ox oy:Operand):
  (eqGuard op t ox oy u v).run P w=.ok () w/\∃r',(binOp op t u v).run P w=.ok r' w/\ZK i r r':=by
 unfold VO at hr;split at hr
 .rename_i xs ys
  split at hr
  .rename_i SI
   simp only[Bool.and_eq_true]at SI;cases hx with
   |agg r1 _ =>
   cases hy with
   |agg r2 _ =>
   rw[ZA.Oc SI.1 r1,ZA.Oc SI.2 r2];have hg:P.eqGuardType P.depth t=false/\XH P 20 t=some ks/\(∀cs:List Value,Fm P t cs (.agg cs.toArray)):=by
     unfold FT at ha;split at ha
     . rename_i hu
       split at ha
       . cases ha
       . rename_i h;exact⟨by simpa using h,ha,λcs=>by unfold Fm;rw[hu]⟩
     . rename_i hu
       split at ha
       . cases ha
       . rename_i h;exact⟨by simpa using h,ha,λcs=>by unfold Fm;rw[hu]⟩
     . cases ha
   obtain⟨h1,h2,h3⟩:=hg;have hs:=HX 20 10000 t ks (by decide) h2 w xs ys _ _ SI.1 SI.2 (h3 _) (h3 _);refine⟨run_eqGuard_agg w op t ox oy _ _ h1,?_⟩;split at hr
   . cases hr
     exact⟨_,by rw[run_eql_struct w,hs];rfl,.bool _⟩
   . cases hr
     exact⟨_,by rw[run_neq_struct w,hs];rfl,.bool _⟩
   . cases hr
  .cases hr
 .cases hr
theorem AB{op:BinOp}(hx:ZK i x u)(hy:ZK i y v)(hr:kJ P op t x y=some r)(ox oy:Operand):
  (eqGuard op t ox oy u v).run P w=.ok () w/\∃r',(binOp op t u v).run P w=.ok r' w/\ZK i r r':=by
 unfold kJ at hr;split at hr
 .rename_i ks ha;exact DV hx hy ha hr ox oy
 unfold ZQ at hr;split at hr
 .rename_i k a k' b
  cases hx;cases hy;split at hr
  .exact⟨by rfl,Jk (.inl rfl) hr⟩
  .exact⟨by rfl,Jk (.inr rfl) hr⟩
  .rename_i h1 h2
   split at hr
   . rename_i e
     subst e;exact⟨by cases op<;>rfl,DW hr ⟨h1,h2⟩⟩
   . cases hr
 .split at hr
  .split at hr
   . rename_i ht
     cases hb:jh x y with
     |none=>simp[hb]at hr
     |some b =>
       simp only[hb,Option.bind_some,Option.some.injEq]at hr;subst hr;have hs:=FQ (w:=w) hx hy hb ht ox oy;exact⟨hs.1 _,_,hs.2.1,.bool _⟩
   . cases hr
  .split at hr
   . rename_i ht
     cases hb:jh x y with
     |none=>simp[hb]at hr
     |some b =>
       simp only[hb,Option.bind_some,Option.some.injEq]at hr;subst hr;have hs:=FQ (w:=w) hx hy hb ht ox oy;exact⟨hs.1 _,_,hs.2.2,.bool _⟩
   . cases hr
  .cases hr
theorem vm{op:UnOp}(hx:ZK i x u)(hr:UZ op x=some r):
  ∃r',(Op.unary op u).run P w=.ok r' w/\ZK i r r':=by
 unfold UZ at hr;split at hr
 .cases hx
  split at hr
  .cases hr
   exact⟨_,rfl,.int _ _⟩
  .simp only[LD,Option.some.injEq]at hr
   subst hr;exact⟨_,rfl,.int _ _⟩
  .cases hr
 .cases hx
  split at hr
  .cases hr;exact⟨_,rfl,.bool _⟩
  .cases hr
 .cases hr
theorem vj{s:TypeId}(hx:ZK i x u)(hr:cvV P s t x=some r):
  ∃r',(convert s t u).run P w=.ok r' w/\ZK i r r':=by
 unfold cvV at hr;split at hr
 .cases hx
  split at hr
  .rename_i hs ht
   cases hr;refine⟨_,?_,.int _ _⟩;simp only[convert,Sem.run_bind,run_underlying hs,run_underlying ht,Result.andThen];rfl
  .cases hr
 .cases hr
variable{ρ:Operand->Value}
theorem AA(hx:ZK i x u)(hr:XC x=some r){o:Oper}{ox:Operand}(ho:o.op=.nilCheck ox)(hu:ρ ox=u):
  (execOp ρ o).run P w=.ok (.value u) w/\ZK i r u:=by
 subst hu;unfold XC at hr;split at hr
 .cases hr
  cases h:ρ ox<;>rw[h]at hx<;>cases hx;exact⟨by simp[execOp,ho,h],.ptr (by assumption)⟩
 .cases hr
  cases h:ρ ox<;>rw[h]at hx<;>cases hx;exact⟨by simp[execOp,ho,h],.fn (by assumption) (by assumption)⟩
 .cases hr
theorem run_sliceBound(hx:ZK i x u){y:Nat}(hn:Up y x=some n)(code:BoundsCode):
  (Instr.sliceBound u y code).run P w=.ok n w:=by
 unfold Up at hn;split at hn
 .cases hx
  split at hn
  .rename_i hb
   cases hn;simp[Instr.sliceBound,asIntOf,hb,Result.andThen]
  .cases hn
 .cases hn
inductive N7 (i:YJ):Option V->Option Value->Prop
 |none:N7 i none none
 |some {x:V} {u:Value} (h:ZK i x u):N7 i (some x) (some u)
variable{lo hi mx:Option V}{oM CX oL:Option Value}
theorem Yf{oK:Bool}{len cap:Nat}(hl:N7 i lo oM)(hh:N7 i hi CX)(hm:N7 i mx oL)
  {m u l:Nat} (e1:XK (some cap) (Up cap) mx=some m)
  (e2:XK (if mx.isSome then none else some len) (Up m) hi=some u)
  (e3:XK (some 0) (Up u) lo=some l) :
  (Instr.sliceBounds oK len cap oM CX oL).run P w=.ok (l,u,m) w:=by
 unfold Instr.sliceBounds;cases hm with
 |none =>
  cases e1;cases hh with
  |none =>
   simp[XK]at e2;subst e2;cases hl with
   |none=>cases e3;simp[Result.andThen]
   |some hl=>simp[Result.andThen,run_sliceBound hl e3]
  |some hh =>
   cases hl with
   |none=>cases e3;simp[Result.andThen,run_sliceBound hh e2]
   |some hl=>simp[Result.andThen,run_sliceBound hl e3,run_sliceBound hh e2]
 |some hm =>
  cases hh with
  |none=>simp[XK]at e2
  |some hh =>
   cases hl with
   |none=>cases e3;simp[Result.andThen,run_sliceBound hh e2,run_sliceBound hm e1]
   |some hl=>simp[Result.andThen,run_sliceBound hl e3,run_sliceBound hh e2,run_sliceBound hm e1]
theorem ZT{α β:Type}{x:Option α}{f:α->Option β}{b:β}(h:x.bind f=some b):∃a,x=some a/\f a=some b:=by
 cases x with
 |none=>cases h
 |some a=>exact⟨a,rfl,h⟩
theorem vh{y z:Nat}(h:Up y x=some n)(hz:y<=z):Up z x=some n:=by
 unfold Up at *;split at h
 .split at h
  .rename_i hb;rw[if_pos ⟨hb.1,by omega⟩];exact h
  .cases h
 .cases h
theorem Wi{y:Nat}(h:Up y x=some n):n<=y:=by
 unfold Up at h;split at h
 .split at h
  .cases h;omega
  .cases h
 .cases h
theorem O1{u l:Nat}(h:XK (some 0) (Up u) lo=some l):l<=u:=by
 cases lo with
 |none=>cases h;omega
 |some v=>exact Wi h
theorem vg(hx:ZK i x u)(hl:N7 i lo oM)(hh:N7 i hi CX)(hm:N7 i mx oL)
  {r:V} (hr:slV P t x lo hi mx=some r):∃r',(Instr.sliceAt t u oM CX oL).run P w=.ok r' w/\ZK i r r':=by
 unfold slV at hr;split at hr
 .rename_i n e ht
  replace hr:=ZT hr;obtain⟨size,hs,hr⟩:=hr;split at hr
  .rename_i b o
   cases hx with
   |@ptr _ _ y hx =>
     replace hr:=ZT hr;obtain⟨m,e1,hr⟩:=hr;replace hr:=ZT hr;obtain⟨v,e2,hr⟩:=hr;replace hr:=ZT hr;obtain⟨l,e3,hr⟩:=hr;have hb:=Yf (P:=P) (w:=w) (oK:=false) hl hh hm e1 e2 e3;cases hr;refine⟨.slice (some (if m=l then ⟨y.B,y.s+o,none⟩else (⟨y.B,y.s+o,none⟩:Addr).add (l*size))) (v-l) (m-l),?_,?_⟩
     . simp only[Instr.sliceAt,Sem.run_bind,run_underlying ht,Result.andThen,Instr.sureAddr,Sem.run_pure,hb,Yg hs]
     . by_cases e:m=l
       . subst e;simp only[if_true];exact .Kg hx
       . simp only[e,if_false,WA,Nat.add_assoc];exact .Kg hx
  .cases hr
 .rename_i e ht
  replace hr:=ZT hr;obtain⟨size,hs,hr⟩:=hr;have Iv:(Instr.sliceAt t u oM CX oL).run P w=(Instr.slice t u oM CX oL).run P w:=by
   simp only[Instr.sliceAt,Sem.run_bind,run_underlying ht,Result.andThen]
  have hsl:∀a len cap l h m,u=.slice a len cap->(Instr.sliceBounds true len cap oM CX oL).run P w=.ok (l,h,m) w ->
     (Instr.slice t u oM CX oL).run P w=.ok (.slice (if m=l then a else a.map (·.add (l*size))) (h-l) (m-l)) w:=by
   intro a len cap l h m hu hb;subst hu;simp only[Instr.slice,Sem.run_bind,run_underlying ht,Result.andThen,hb,Yg hs];rfl
  rw[Iv];split at hr
  .cases hx
   replace hr:=ZT hr;obtain⟨m,e1,hr⟩:=hr;replace hr:=ZT hr;obtain⟨v,e2,hr⟩:=hr;replace hr:=ZT hr;obtain⟨l,e3,hr⟩:=hr;cases hr;have hb:=Yf (P:=P) (w:=w) (oK:=true) hl hh hm e1 e2 e3;refine⟨_,hsl _ _ _ _ _ _ rfl hb,?_⟩;have hm0:m=0:=by
     cases mx with
     |none=>cases e1;rfl
     |some v=>have:=Wi e1;omega
   have Df:v=0:=by
     cases hi with
     |none=>cases mx<;>simp[XK]at e2;omega
     |some v=>have:=Wi e2;omega
   have:=O1 e3;have JK:l=0:=by omega
   subst hm0;subst Df;subst JK;exact .ZO
  .rename_i b o len cap
   replace hr:=ZT hr;obtain⟨m,e1,hr⟩:=hr;replace hr:=ZT hr;obtain⟨v,e2,hr⟩:=hr;replace hr:=ZT hr;obtain⟨l,e3,hr⟩:=hr;have hb:=Yf (P:=P) (w:=w) (oK:=true) hl hh hm e1 e2 e3;cases hr;cases hx with
   |Kg hx =>
     refine⟨_,hsl _ _ _ _ _ _ rfl hb,?_⟩;by_cases e:m=l
     . subst e;simp only[if_true];exact .Kg hx
     . simp only[e,if_false,Option.map_some,WA,Nat.add_assoc];exact .Kg hx
   |DI =>
     refine⟨_,hsl _ _ _ _ _ _ rfl hb,?_⟩;have hm0:m=0:=by
       cases mx with
       |none=>cases e1;rfl
       |some v=>have:=Wi e1;omega
     have Df:v=0:=by
       cases hi with
       |none=>cases mx<;>simp[XK]at e2;omega
       |some v=>have:=Wi e2;omega
     have:=O1 e3;have JK:l=0:=by omega
     subst hm0;subst Df;subst JK;exact .DI
  .rename_i b o len z
   split at hr
   . cases hr
   . rename_i hz
     have hz:size=z:=by simpa using hz
     subst hz;split at hr
     . rename_i v0
       replace hr:=ZT hr;obtain⟨m,e1,hr⟩:=hr;replace hr:=ZT hr;obtain⟨v,e2,hr⟩:=hr;replace hr:=ZT hr;obtain⟨l,e3,hr⟩:=hr;cases hr;have Ae:=Wi e1;cases hx with
       |Fh hx hc hlen =>
         have hb:=Yf (P:=P) (w:=w) (oK:=true) (len:=len) hl hh hm (vh e1 hlen) (by cases hi<;>simp_all[XK]) e3;refine⟨_,hsl _ _ _ _ _ _ rfl hb,?_⟩;by_cases e:m=l
         .subst e;simp only[if_true];exact .Kg hx
         .simp only[e,if_false,Option.map_some,WA,Nat.add_assoc];exact .Kg hx
       |sle hx =>
         have hb:=Yf (P:=P) (w:=w) (oK:=true) (len:=0) hl hh hm e1 (by cases hi<;>simp_all[XK]) e3;refine⟨_,hsl _ _ _ _ _ _ rfl hb,?_⟩;have Df:v=0:=by
          cases hi with
          |none=>cases e2
          |some v=>have:=Wi e2;omega
         have:=O1 e3;have hm0:m=0:=by omega
         have JK:l=0:=by omega
         subst hm0;subst Df;subst JK;exact .DI
     . replace hr:=ZT hr;obtain⟨v,e2,hr⟩:=hr
       replace hr:=ZT hr;obtain⟨l,e3,hr⟩:=hr;cases hr;have hvl:v<=len:=by
         cases hi with
         |none=>cases e2;omega
         |some v=>exact Wi e2
       have hlv:=O1 e3;cases hx with
       |Fh hx hc hlen =>
         rename_i c y;have hb:=Yf (P:=P) (w:=w) (oK:=true) (len:=len) (cap:=c) hl hh hm (m:=c) (by cases hm;rfl)
          (by cases hi with|none=>simpa [XK]using e2|some v'=>exact vh e2 hlen) e3
         refine⟨_,hsl _ _ _ _ _ _ rfl hb,?_⟩;by_cases e:c=l
         .subst e
          have:v=c:=by omega
          subst this;simp only[if_true,Nat.sub_self];exact .sle hx
         .simp only[e,if_false,Option.map_some,WA,Nat.add_assoc]
          refine .Fh hx (λjA=>?_) (by omega);have:=hc jA;have h2:(c-l)*size+l*size=c*size:=by rw[<-Nat.add_mul];congr 1;omega
          omega
       |sle hx =>
         have hb:=Yf (P:=P) (w:=w) (oK:=true) (len:=0) (cap:=0) hl hh hm (m:=0) (by cases hm;rfl) (by cases hi<;>simp_all[XK]) e3;refine⟨_,hsl _ _ _ _ _ _ rfl hb,?_⟩;have Df:v=0:=by omega
         have JK:l=0:=by omega
         subst Df;subst JK;simpa using ZK.sle hx
  .cases hr
 .cases hr
variable{f:Nat}
theorem vf(hx:ZK i x u)(hr:faV P t x f=some r):
  ∃r',(Instr.fieldAt t u f).run P w=.ok r' w/\ZK i r r':=by
 unfold faV at hr;split at hr
 .rename_i fs ht
  split at hr
  .rename_i fd hf
   split at hr
   . cases hr
   . rename_i hz
     split at hr
     . cases hx with
       |ptr hx =>
         cases hr;rename_i y;cases hs:S8 P fd.type with
         |none=>exact absurd (.inr hs) hz
         |some n =>
          have hn:n≠0:=λe=>hz (.inl (by rw[hs,e]));refine⟨_,?_,.ptr hx⟩;simp only[Instr.fieldAt,Sem.run_bind,run_underlying ht,Result.andThen,hf,Instr.sureAddr,Sem.run_pure,fieldPlace,Yg hs,hn,if_false,WA,Nat.add_assoc]
     . cases hr
  .cases hr
 .cases hr
theorem Pg{cs:List V}{us:List Value}(hx:ZA i cs us)(hc:cs.all V.Zr=true){off:Nat}(hr:U7 P t cs off=some r):
  ∃r',(part t us.toArray off).run P w=.ok r' w/\ZK i r r':=by
 unfold U7 at hr;split at hr
 .rename_i ha
  replace hr:=ZT hr;obtain⟨n,hs,hr⟩:=hr;split at hr
  .cases hr
   refine⟨.agg ((us.drop off).take n).toArray,?_,.agg ((hx.drop off).take n) ?_⟩
   . simp only[part,Sem.run_bind,Rj ha,Result.andThen,if_true,Yg hs,Sem.run_pure]
     congr 2
     apply Array.ext';simp
   . rw[List.all_eq_true]at hc ⊢
     exact λv hv=>hc v (List.mem_of_mem_drop (List.mem_of_mem_take hv))
  .cases hr
 .rename_i ha
  obtain⟨u,hu,hv⟩:=hx.get hr;refine⟨u,?_,hv⟩;simp[part,Rj ha,Result.andThen,hu]
 .cases hr
theorem ve(hx:ZK i x u)(hr:fdV P t x f=some r):
  ∃r',(Instr.field t u f).run P w=.ok r' w/\ZK i r r':=by
 unfold fdV at hr;split at hr
 .rename_i fs ht
  split at hr
  .rename_i fd hf
   split at hr
   . cases hx with
     |agg hx hc =>
       obtain⟨r',h1,h2⟩:=Pg (P:=P) (w:=w) hx hc hr;exact⟨r',by simp[Instr.field,run_underlying ht,Result.andThen,hf,asAgg,h1],h2⟩
   . cases hr
  .cases hr
 .cases hr
theorem vd(hx:ZK i x u)(hy:ZK i y v)(hr:iaV P t x y=some r):
  ∃r',(Instr.indexAt t u v).run P w=.ok r' w/\ZK i r r':=by
 unfold iaV at hr;split at hr
 .rename_i e ht
  split at hr
  .rename_i b o len cap k n
   cases hy;split at hr
   . rename_i hb
     replace hr:=ZT hr;obtain⟨s,hs,hr⟩:=hr;cases hr;have key:∀(B p c:Nat),(Instr.indexAt t (.slice (some ⟨B,p,none⟩) len c) (.int k n)).run P w=.ok (.pointer (some ⟨B,p+n.toNat*s,none⟩)) w:=by
       intro B p c;simp[Instr.indexAt,asIntOf,Result.andThen,run_underlying ht,hb,Yg hs,WA]
     cases hx with
     |Kg hx=>exact⟨_,key _ _ _,by rw[Nat.add_assoc];exact .ptr hx⟩
     |Fh hx hc hl=>exact⟨_,key _ _ _,by rw[Nat.add_assoc];exact .ptr hx⟩
     |DI=>exfalso;have:=hb.2;omega
     |sle hx=>exfalso;have:=hb.2;omega
   . cases hr
  .cases hr
 .rename_i len e ht
  split at hr
  .rename_i b o k n
   cases hy;cases hx with
   |ptr hx =>
     split at hr
     . rename_i hb
       replace hr:=ZT hr;obtain⟨s,hs,hr⟩:=hr;cases hr;refine⟨_,?_,.ptr hx⟩;simp[Instr.indexAt,asIntOf,Result.andThen,run_underlying ht,hb,Yg hs,WA,Instr.sureAddr,Nat.add_assoc]
     . cases hr
  .cases hr
 .cases hr
theorem u7(hx:ZK i x u)(hy:ZK i y v)(hr:ixV P t x y=some r):
  ∃r',(Instr.index t u v).run P w=.ok r' w/\ZK i r r':=by
 unfold ixV at hr;split at hr
 .rename_i len e ht
  split at hr
  .rename_i cs k n
   cases hy;cases hx with
   |agg hx hc =>
     split at hr
     . rename_i hb
       replace hr:=ZT hr;obtain⟨s,hs,hr⟩:=hr;obtain⟨r',h1,h2⟩:=Pg (P:=P) (w:=w) hx hc hr;exact⟨r',by simp[Instr.index,asIntOf,Result.andThen,run_underlying ht,hb,Yg hs,h1],h2⟩
     . cases hr
  .cases hr
 .rename_i ht
  split at hr
  .rename_i s k n
   cases hy;cases hx with
   |str s =>
     split at hr
     . rename_i hb
       replace hr:=ZT hr;obtain⟨c,hc,hr⟩:=hr;cases hr;obtain⟨Tm,hc⟩:=List.getElem?_eq_some_iff.1 hc;have yz:n.toNat<s.size:=by simpa using Tm
       refine⟨_,?_,.int _ _⟩;have:s[n.toNat]?=some c:=by rw[getElem?_pos s n.toNat yz,<-hc];rfl
       simp[Instr.index,asIntOf,Result.andThen,run_underlying ht,hb,this]
     . cases hr
  .cases hr
 .cases hr
theorem uZ(hx:ZK i x u){k:Nat}(hr:jF x k=some r):
  ∃r',(Instr.extract u k).run P w=.ok r' w/\ZK i r r':=by
 unfold jF at hr;split at hr
 .cases hx with
  |Zt hx =>
   obtain⟨u,hu,hv⟩:=hx.get hr;exact⟨u,by simp[Instr.extract,hu],hv⟩
 .cases hr
variable{ty:TypeId}
theorem Az(hx:ZK i x u)(hr:kI P t x=some r):
  ∃r',(Builtin.len_ #[t] ty #[u]).run P w=.ok r' w/\ZK i r r':=by
 unfold kI at hr;split at hr
 .rename_i ht
  split at hr
  .cases hx with
   |str s=>cases hr;exact⟨.int .i64 s.size,by simp[Builtin.len_,run_underlying ht,Result.andThen,goInt],by simpa using ZK.int _ _⟩
  .cases hr
 .rename_i ht
  cases hr;exact⟨_,by simp[Builtin.len_,run_underlying ht,Result.andThen,goInt],.int _ _⟩
 .rename_i ht
  split at hr
  .cases hx;cases hr;exact⟨_,by simp[Builtin.len_,run_underlying ht,Result.andThen,goInt],.int _ _⟩
  .cases hr
   cases hx<;>exact⟨_,by simp[Builtin.len_,run_underlying ht,Result.andThen,goInt],.int _ _⟩
  .cases hr
 .cases hr
theorem Ay(hx:ZK i x u)(hr:kH P t x=some r):
  ∃r',(Builtin.cap_ #[t] ty #[u]).run P w=.ok r' w/\ZK i r r':=by
 unfold kH at hr;split at hr
 .rename_i ht
  cases hr;exact⟨_,by simp[Builtin.cap_,run_underlying ht,Result.andThen,goInt],.int _ _⟩
 .rename_i ht
  split at hr
  .cases hx;cases hr;exact⟨_,by simp[Builtin.cap_,run_underlying ht,Result.andThen,goInt],.int _ _⟩
  .cases hr
   cases hx<;>exact⟨_,by simp[Builtin.cap_,run_underlying ht,Result.andThen,goInt],.int _ _⟩
  .cases hr
 .cases hr
theorem DU(hx:ZK i x u)(hy:ZK i y v)(hr:NR x y=some r):
  ∃r',(Builtin.min2 u v).run P w=.ok r' w/\ZK i r r':=by
 unfold NR at hr;split at hr
 .cases hx;cases hy
  split at hr
  .cases hr;exact⟨_,rfl,.int _ _⟩
  .cases hr
 .cases hr
theorem DT(hx:ZK i x u)(hy:ZK i y v)(hr:GS x y=some r):
  ∃r',(Builtin.max2 u v).run P w=.ok r' w/\ZK i r r':=by
 unfold GS at hr;split at hr
 .cases hx;cases hy
  split at hr
  .cases hr;exact⟨_,rfl,.int _ _⟩
  .cases hr
 .cases hr
theorem Nm{f:V->V->Option V}{g:Value->Value->Sem Value}(hfg:∀{x y:V} {u v:Value},ZK i x u->ZK i y v->∀{r},f x y=some r->∃r',(g u v).run P w=.ok r' w/\ZK i r r'):
  ∀{l:List V} {us:List Value},ZA i l us->∀{x:V} {u:Value},ZK i x u->∀{r},SU f x l=some r->∃r',(us.foldlM g u).run P w=.ok r' w/\ZK i r r':=by
 intro l
 induction l with
 |nil=>intro us h x u hx r hr;cases h;cases hr;exact⟨u,rfl,hx⟩
 |cons y l ih =>
  intro us h x u hx r hr;cases h with
  |cons hy hs =>
   obtain⟨a,ha,hr⟩:=ZT (by simpa [SU]using hr);obtain⟨a',h1,h2⟩:=hfg hx hy ha;obtain⟨r',h3,h4⟩:=ih hs h2 hr;exact⟨r',by simp[List.foldlM,h1,Result.andThen,h3],h4⟩
theorem K5(off:Nat):∀(vs:List Value) (k:Nat) (arr:List Value),off+k+vs.length<=arr.length ->
  (vs.zipIdx k).foldl (λ(cs:Array Value) p=>cs.setIfInBounds (off+p.2) p.1) arr.toArray=(arr.take (off+k)++(vs++arr.drop (off+k+vs.length))).toArray
 |[],k,arr,_=>by simp
 |v::vs,k,arr,hl=>by
  simp only[List.zipIdx_cons,List.foldl_cons,List.setIfInBounds_toArray];simp at hl;rw[K5 off vs (k+1) (arr.set (off+k) v) (by simp;omega)]
  congr 1
  have m1:min (off+k) arr.length=off+k:=by omega
  have m2:min (off+(k+1)) arr.length=off+k+1:=by omega
  apply List.ext_getElem?;intro j;simp only[List.getElem?_append,List.length_take,List.getElem?_take,List.length_set,List.getElem?_drop,List.getElem?_set,List.length_cons,List.getElem?_cons,m1,m2]
  repeat' split
  all_goals first
   |(exfalso;omega)
   |rfl
   |(congr 1;omega)
theorem P7{place:Nat->Option (Nat×Nat)}:∀{parts:List (Nat×V)} {parts':List (Nat×Value)} (_:parts.map (·.1)=parts'.map (·.1)) (_:ZA i (parts.map (·.2)) (parts'.map (·.2)))
  {cells:List V} {us:List Value} (_:ZA i cells us) (_:cells.all V.Zr=true) {l:List V},FP place cells parts=some l ->
  ∃ur,Instr.fill place us.toArray parts'=some ur.toArray/\ZA i l ur/\l.all V.Zr=true:=by
 intro parts
 induction parts with
 |nil =>
  intro parts' h1 h2 cells us hc ha l hl;cases parts' with
  |nil=>cases hl;exact⟨us,rfl,hc,ha⟩
  |cons=>simp at h1
 |cons p parts ih =>
  intro parts' h1 h2 cells us hc ha l hl;cases parts' with
  |nil=>simp at h1
  |cons p' parts' =>
   obtain⟨k,v⟩:=p;obtain⟨k',v'⟩:=p';simp at h1;obtain⟨rfl,h1⟩:=h1;simp only[List.map_cons]at h2;cases h2 with
   |cons hv hs =>
     simp only[FP,List.map_cons]at hl;cases hp:place k with
     |none=>rw[hp]at hl;cases hl
     |some os =>
       obtain⟨off,size⟩:=os;rw[hp]at hl;simp only[YD]at hl;split at hl
       . cases hl
       . rename_i vs Oo
         split at hl
         .rename_i hb
          obtain⟨g1,g2⟩:=hv.cells Oo;have qA:=g1.length;have tM:=hc.length;have xA:(v'.cells.zipIdx.foldl (λcs (c,j)=>cs.setIfInBounds (off+j) c) us.toArray)=(us.take off++(v'.cells.toList++us.drop (off+vs.length))).toArray:=by
           rw[<-Array.foldl_toList,Array.toList_zipIdx];have:=K5 off v'.cells.toList 0 us (by rw[qA,hb.1];simp[tM];exact hb.2);rw[Nat.add_zero,qA]at this;exact this
          have Md:ZA i (splice cells off vs) (us.take off++(v'.cells.toList++us.drop (off+vs.length))) :=
           (hc.take off).append (g1.append (hc.drop _))
          have GG:(splice cells off vs).all V.Zr=true:=by
           simp only[splice,List.all_append,g2,Bool.true_and,Bool.and_eq_true];rw[List.all_eq_true]at ha;simp only[List.all_eq_true];exact⟨λv hv=>ha v (List.mem_of_mem_take hv),λv hv=>ha v (List.mem_of_mem_drop hv)⟩
          obtain⟨ur,e1,e2,e3⟩:=ih h1 hs Md GG hl;refine⟨ur,?_,e2,e3⟩;simp only[Instr.fill,hp];rw[if_neg,xA]
          .exact e1
          .simp at qA;simp[qA,hb.1,tM];exact hb.2
         .cases hl
theorem P8{z:List V}(hz:Ns P t=some z):
  ∃Z:Value,(zeroValue t).run P w=.ok Z w/\ZA i z Z.cells.toList/\z.all V.Zr=true:=by
 unfold Ns at hz;split at hz
 .rename_i Z hZ
  dsimp only at hz;split at hz
  .rename_i ha
   cases hz;cases hi:P.info? t with
   |none=>simp[hi]at hZ
   |some x =>
     simp[hi]at hZ;refine⟨Z,by simp[zeroValue,typeInfo,hi,Result.andThen,hZ],?_,ha⟩;simpa using ZA.map (i:=i) (f:=XE) (g:=id) (l:=Z.cells.toList) λa _=>ZK.XE i a
  .cases hz
 .cases hz
theorem QI{α β:Type}{g:α->Sem β}{g':α->β}:∀(l:List α),(∀a∈l,(g a).run P w=.ok (g' a) w)->(l.mapM g).run P w=.ok (l.map g') w
 |[],_=>rfl
 |a::l,h=>by
  simp only[List.mapM_cons,Sem.run_bind,h a (by simp),Result.andThen,QI l (λb hb=>h b (by simp[hb])),Sem.run_pure,List.map_cons]
theorem K0{α β:Type}{g:α->Sem β}{g':α->β}(l:Array α)(h:∀a∈l.toList,(g a).run P w=.ok (g' a) w):(l.mapM g).run P w=.ok (l.map g') w:=by
 rw[Array.mapM_eq_mapM_toList,Sem.run_map,QI l.toList h];simp only[Result.andThen]
 congr 1
 apply Array.ext';simp
theorem uY{parts:List (Nat×V)}{parts':Array (Nat×Value)}(h1:parts.map (·.1)=parts'.toList.map (·.1))(h2:ZA i (parts.map (·.2)) (parts'.toList.map (·.2)))
  {r:V} (hr:buV P t parts=some r):∃r',(Instr.build t parts').run P w=.ok r' w/\ZK i r r':=by
 unfold buV at hr;replace hr:=ZT hr;obtain⟨z,hz,hr⟩:=hr;obtain⟨Z,e1,e2,e3⟩:=P8 (i:=i) (w:=w) hz;split at hr
 .rename_i fs ht
  split at hr
  .rename_i GG
   replace hr:=ZT hr;obtain⟨l,hl,hr⟩:=hr;cases hr;have hm:(fs.mapM λf=>(do pure (f.offset,<-sizeOf f.type):Sem (Nat×Nat))).run P w=.ok (fs.map λf=>(f.offset,(S8 P f.type).getD 0)) w:=by
     refine K0 fs λf hf=>?_;rw[List.all_eq_true]at GG;have:=GG f hf;cases hs:S8 P f.type with
     |none=>simp[hs]at this
     |some n=>simp[Yg hs,Result.andThen]
   have hp:DS P fs=λk=>(fs.map λf=>(f.offset,(S8 P f.type).getD 0))[k]?:=by
     funext k
     simp only[DS,Array.getElem?_map];cases hk:fs[k]? with
     |none=>rfl
     |some f =>
       rw[List.all_eq_true]at GG;have:=GG f (by have:=Array.mem_of_getElem? hk;simpa using this);cases hs:S8 P f.type with
       |none=>simp[hs]at this
       |some n=>simp[hs]
   rw[hp]at hl;obtain⟨us,g1,g2,g3⟩:=P7 h1 h2 e2 e3 hl;simp only[Array.toArray_toList]at g1;refine⟨.agg us.toArray,?_,.agg g2 g3⟩;simp only[Instr.build,Sem.run_bind,e1,Result.andThen,run_underlying ht,hm,g1,Sem.run_pure]
  .cases hr
 .rename_i n e ht
  replace hr:=ZT hr;obtain⟨size,hs,hr⟩:=hr;replace hr:=ZT hr;obtain⟨l,hl,hr⟩:=hr;cases hr;obtain⟨us,g1,g2,g3⟩:=P7 h1 h2 e2 e3 hl;simp only[Array.toArray_toList]at g1;refine⟨.agg us.toArray,?_,.agg g2 g3⟩;simp only[Instr.build,Sem.run_bind,e1,Result.andThen,run_underlying ht,Yg hs,g1,Sem.run_pure]
 .cases hr
variable{s:Nat->V}
theorem ZK.ev{a:Act}(hs:Q8 i s a.tmps)(x:Operand):ZK i (ev s x) (a.eval x):=by
 cases x with
 |tmp t=>exact hs t
 |const v=>exact ZK.Hl i v
 |global g=>exact .any _
 |func f=>exact .fn (xs:=[]) (ys:=[]) (us:=[]) (vs:=[]) .nil .nil
theorem N7.map{s:Nat->V}{ρ:Operand->Value}(hs:∀x,ZK i (Zf.ev s x) (ρ x))(x:Option Operand):N7 i (x.map (Zf.ev s)) (x.map ρ):=by
 cases x with
 |none=>exact .none
 |some x=>exact .some (hs x)
theorem ZA.ops(hs:∀x,ZK i (Zf.ev s x) (ρ x))(l:List Operand):ZA i (l.map (Zf.ev s)) (l.map ρ):=ZA.map λx _=>hs x
theorem uX{v:V}(hx:ZK i x u)(hv:mkI P t x=some v):∃r',(Instr.makeInterface t u).run P w=.ok r' w/\ZK i v r':=by
 unfold mkI at hv;split at hv
 .cases hv
 .rename_i k hn hk
  cases hv;refine⟨.iface t u,?_,.iface hx⟩;unfold Instr.makeInterface;rw[Sem.run_bind,run_underlying hk,Result.andThen_ok];cases k<;>first|(exact absurd rfl (hn _))|rfl
 .cases hv
theorem RW(hr:Zb i h w)(hs:∀x,ZK i (Zf.ev s x) (ρ x))(o:Oper){v:V}(hv:light P s h o.op=some v):
  ∃u,(execOp ρ o).run P w=.ok (.value u) w/\ZK i v u:=by
 have val:∀{S:Sem Value},(∃r',S.run P w=.ok r' w/\ZK i v r')->(∃u,((do pure (.value (<-S)):Sem Next)).run P w=.ok (.value u) w/\ZK i v u):=by
  rintro S ⟨r',h1,h2⟩;exact⟨r',by simp[h1,Result.andThen],h2⟩
 cases ho:o.op<;>rw[ho]at hv<;>simp only[light,reduceCtorEq]at hv
 case move x=>cases hv;exact⟨ρ x,by simp[execOp,ho],hs x⟩
 case assign x=>cases hv;exact⟨ρ x,by simp[execOp,ho],hs x⟩
 case pick c a b =>
  split at hv
  .rename_i x hx
   cases hv;have hc:=hs c;rw[hx]at hc;cases GJ:ρ c<;>rw[GJ]at hc<;>cases hc;refine⟨if x then ρ a else ρ b,by simp[execOp,ho,GJ,asBool,Result.andThen],?_⟩;cases x<;>simp[hs]
  .cases hv
 case load t a=>simpa [execOp,ho]using val (F2 (P:=P) hr (hs a) hv)
 case nilCheck x =>
  have:=AA (P:=P) (w:=w) (hs x) hv (ρ:=ρ) (o:=o) ho rfl;exact⟨_,this.1,this.2⟩
 case binOp op t x y yt =>
  obtain⟨g,r',h1,h2⟩:=AB (P:=P) (w:=w) (hs x) (hs y) hv x y;exact⟨r',by simp[execOp,ho,g,h1,Result.andThen],h2⟩
 case unOp op t x=>simpa [execOp,ho]using val (vm (P:=P) (w:=w) (hs x) hv)
 case convert a b x=>simpa [execOp,ho]using val (vj (P:=P) (w:=w) (hs x) hv)
 case makeFunc f first captured =>
  cases hv;refine⟨.func f (first.map ρ) (captured.map ρ),by simp[execOp,ho,Instr.makeFunc,Result.andThen],?_⟩;have:=ZK.fn (f:=f) (ZA.ops hs first.toList) (ZA.ops hs captured.toList);have e:∀l:Array Operand,l.map ρ=(l.toList.map ρ).toArray:=λl=>Array.ext' (by simp);rw[e,e];exact this
 case makeInterface t x=>simpa [execOp,ho]using val (uX (P:=P) (w:=w) (hs x) hv)
 case slice t x lo hi mx=>simpa [execOp,ho]using val (vg (P:=P) (w:=w) (hs x) (N7.map hs lo) (N7.map hs hi) (N7.map hs mx) hv)
 case fieldAddr t x f=>simpa [execOp,ho]using val (vf (P:=P) (w:=w) (hs x) hv)
 case field t x f=>simpa [execOp,ho]using val (ve (P:=P) (w:=w) (hs x) hv)
 case indexAddr t x y=>simpa [execOp,ho]using val (vd (P:=P) (w:=w) (hs x) (hs y) hv)
 case index t x y=>simpa [execOp,ho]using val (u7 (P:=P) (w:=w) (hs x) (hs y) hv)
 case extract x k=>simpa [execOp,ho]using val (uZ (P:=P) (w:=w) (hs x) hv)
 case build t parts =>
  have:=uY (P:=P) (w:=w) (i:=i) (t:=t) (parts:=parts.toList.map λp=>(p.1,Zf.ev s p.2)) (parts':=parts.map λ(k,x)=>(k,ρ x))
   (by simp) (by simpa [Function.comp_def]using ZA.map (l:=parts.toList) (f:=λp=>Zf.ev s p.2) (g:=λp=>ρ p.2) λp _=>hs p.2) hv
  simpa [execOp,ho]using val this
 case call c =>
  cases HO:c.callee with
  |value f=>simp[HO]at hv
  |invoke f m=>simp[HO]at hv
  |builtin b =>
   rw[HO]at hv;have Nn:∀S:Sem Value,builtin b c.argTypes o.type (c.args.map λ| .const _=>true|_=>false) (c.args.map ρ)=(do pure (.value (<-S))) ->
       (∃r',S.run P w=.ok r' w/\ZK i v r')->∃u,(execOp ρ o).run P w=.ok (.value u) w/\ZK i v u:=by
     intro S e hS;obtain⟨u,h1,h2⟩:=val hS;refine⟨u,?_,h2⟩;have:(execOp ρ o).run P w=(builtin b c.argTypes o.type (c.args.map λ| .const _=>true|_=>false) (c.args.map ρ)).run P w:=by
       simp only[execOp,ho,Sem.run_bind,resolve,HO,Sem.run_pure,Result.andThen];rfl
     rw[this,e,h1]
   cases b<;>simp only[reduceCtorEq]at hv
   case len =>
     split at hv
     . rename_i x t hx ht
       refine Nn (Builtin.len_ #[t] o.type #[ρ x]) ?_ (Az (hs x) hv);have e1:c.args=#[x]:=Array.ext' hx;have e2:c.argTypes=#[t]:=Array.ext' ht;rw[e1,e2];simp[builtin]
     . cases hv
   case cap =>
     split at hv
     . rename_i x t hx ht
       refine Nn (Builtin.cap_ #[t] o.type #[ρ x]) ?_ (Ay (hs x) hv);have e1:c.args=#[x]:=Array.ext' hx;have e2:c.argTypes=#[t]:=Array.ext' ht;rw[e1,e2];simp[builtin]
     . cases hv
   case min =>
     refine Nn (Builtin.min_ c.argTypes o.type (c.args.map ρ)) rfl ?_;have hl:=ZA.ops hs c.args.toList;simp only[Builtin.min_,Array.toList_map];generalize c.args.toList.map (Zf.ev s)=xs at hl hv;generalize c.args.toList.map ρ=us at hl;cases hl with
     |nil=>cases hv
     |cons hx hl=>exact Nm (λa b=>DU a b) hl hx hv
   case max =>
     refine Nn (Builtin.max_ c.argTypes o.type (c.args.map ρ)) rfl ?_;have hl:=ZA.ops hs c.args.toList;simp only[Builtin.max_,Array.toList_map];generalize c.args.toList.map (Zf.ev s)=xs at hl hv;generalize c.args.toList.map ρ=us at hl;cases hl with
     |nil=>cases hv
     |cons hx hl=>exact Nm (λa b=>DT a b) hl hx hv
end Go.Zf
