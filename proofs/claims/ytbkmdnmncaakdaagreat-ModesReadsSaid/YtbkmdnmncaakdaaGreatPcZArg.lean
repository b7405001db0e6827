import Derived.Test.YtbkmdnmncaakdaaGreatPcZRow
import Derived.Deep.Slices
import Derived.Carry
import Derived.ChangeOld
set_option linter.unusedVariables false
set_option linter.unusedSimpArgs false
namespace Go.Zf
open Go.ChangeShapes Go.WideShapes Go.Deep
structure SD(i:YJ)(h:H)(w:World):Prop where
 rel:Zb i h w
 NU:∀b,h.n<=b->i b=none
 no:∀b,¬h.Mv b
theorem SD.empty(w:World):SD (λ_=>none) H.empty w :=
 ⟨Zb.empty _ (λ_=>rfl) w,λ_ _=>rfl,λb ⟨x,h1,_⟩=>by simp[H.get,H.empty]at h1⟩
variable{i:YJ}{h:H}{w:World}{B:Nat}{e:TypeId}{fr:Nat×Nat}
theorem SD.add(a:SD i h w){s:Nat}{C:Array Value}(hB:w.heap[B]?=some (.cells C e fr))(c:List V)(hs:s+c.length<=C.size)
  (hc:∀(k:Nat) (v:V),c[k]?=some v->v.Zr=true/\∃u,C[s+k]?=some u/\∀i,ZK i v u) :
  ∃i',SD i' (h.new (.cells c e true)) w/\i.le i'/\i' h.n=some ⟨B,s,C.size,true⟩:=by
 have Wp:∀b x,i b=some x->b≠h.n:=λb x hb e=>by rw[e,a.NU h.n (Nat.le_refl _)]at hb;cases hb
 obtain⟨i',CX⟩:∃i':YJ,i'=λb=>if b=h.n then some ⟨B,s,C.size,true⟩else i b:=⟨_,rfl⟩
 have Rf:i' h.n=some ⟨B,s,C.size,true⟩:=by simp[CX]
 have rP:∀b,b≠h.n->i' b=i b:=λb hb=>by simp[CX,hb]
 have hle:i.le i':=λb x hb=>by rw[rP b (Wp b x hb),hb]
 have wR:B<w.heap.size:=by
  rcases Nat.lt_or_ge B w.heap.size with h1|h1
  .exact h1
  .rw[Array.getElem?_eq_none h1]at hB;cases hB
 have Og:∀b x,(h.new (.cells c e true)).get b=some x->x.own=false:=by
  intro b x hb
  rw[H.Xo]at hb
  split at hb
  .cases hb;rfl
  .cases ho:x.own with
   |false=>rfl
   |true=>exact absurd ⟨x,hb,ho⟩ (a.no b)
 refine⟨i',⟨⟨?_,?_,?_⟩,?_,?_⟩,hle,Rf⟩
 .intro b x hb
  rw[H.Xo]at hb
  split at hb
  .rename_i e1;subst e1;cases hb
   exact⟨⟨B,s,C.size,true⟩,C,fr,Rf,rfl,hB,rfl,hs,(λh=>by cases h),λk v hk=>by
    obtain⟨h1,u,h2,h3⟩:=hc k v hk
    exact⟨h1,u,h2,h3 _⟩⟩
  .rename_i e1
   have h1:=a.rel.Y9 b x hb
   cases x with
   |dead=>trivial
   |cells c' e' ro =>
    obtain⟨x',C',bu,h1,h2,h3,h4,h5,h6,h7⟩:=h1
    exact⟨x',C',bu,by rw[rP b e1];exact h1,h2,h3,h4,h5,h6,λk v hk=>by
     obtain⟨g1,u,g2,g3⟩:=h7 k v hk
     exact⟨g1,u,g2,g3.mono hle⟩⟩
   |map es =>
    exact absurd ⟨_,hb,rfl⟩ (a.no b)
 .intro b b' x y p q hb RG _ _ _ _ _ ho
  rcases ho with ho|ho
  .rw[Og b x hb]at ho;cases ho
  .rw[Og b' y RG]at ho;cases ho
 .intro b x hb
  by_cases e1:b=h.n
  .subst e1;rw[Rf]at hb;cases hb;exact wR
  .rw[rP b e1]at hb;exact a.rel.bound b x hb
 .intro b hb
  rw[H.ZP]at hb
  rw[rP b (by omega)]
  exact a.NU b (by omega)
 .intro b ⟨x,h1,h2⟩
  rw[Og b x h1]at h2;cases h2
variable{v:Value}
theorem Oe{a:Addr}(h:w.cell? a=some v):∃C t fr,w.heap[a.block]?=some (.cells C t fr)/\a.spot=none/\C[a.off]?=some v:=by
 unfold World.cell? at h
 split at h
 .rename_i C t fr hh
  split at h
  .cases h
  .rename_i hs
   exact⟨C,t,fr,hh,by simpa using hs,h⟩
 .cases h
theorem Pg{a:Addr}(h:a.spot=none)(n:Nat):a.add n=⟨a.block,a.off+n,none⟩:=by
 cases a with
 |mk b o s =>
  simp only at h;subst h
  unfold Addr.add;split<;>simp_all
structure pF(w:World)(z:Nat)(Q:(Nat->V)->Prop)(B off len cap:Nat)(G:Nat->V)(C:Array Value)(e:TypeId)(fr:Nat×Nat):Prop where
 heap:w.heap[B]?=some (.cells C e fr)
 le:len<=cap
 max:cap<=maxLen
 fit:cap=0\/off+cap*z<=C.size
 cell:∀k,k<cap*z->(G k).Zr=true/\∃u,C[off+k]?=some u/\∀i,ZK i (G k) u
 el:∀m,m<cap->Q λj=>G (m*z+j)
variable{P:Program}{z:Nat}{Q:(Nat->V)->Prop}
theorem Ft{Hd:Type}{enc:TypeId×Value->Hd}{r:Reach}{b0:Nat}{t:TypeId}{d:DataW Hd}{ps:List MemPlace}
  (ht:P.underlying t=some (.slice e)) (hz:P.cellsOf e=z) (lV:0<z) (SI:Value.okWide P w r b0 t v) (hd:DataW.Trod enc P w 0 (λ_=>true) true t v d ps)
  (sA:∀n cs y,DataW.trod enc P w 0 (λ_=>true) true n e cs=some y->∃g:Nat->V,(∀j,j<z->(g j).Zr=true/\∃u,cs[j]?=some u/\∀i,ZK i (g j) u)/\Q g)
  (hQ:∀g g':Nat->V,(∀j,j<z->g j=g' j)->Q g->Q g') :
  v=.slice none 0 0\/∃B off len cap G C e' fr,v=.slice (some ⟨B,off,none⟩) len cap/\pF w z Q B off len cap G C e' fr/\∃elems spare,d=.slice elems spare/\elems.length=len:=by
 have hv:∃a len cap,v=.slice a len cap:=okWide_slice ht SI
 obtain⟨a0,bm,kqd,rfl⟩:=hv
 obtain⟨fuel,hf⟩:=hd
 rcases open_slice ht hf with ⟨h0,_⟩|⟨a,len,cap,m,n,D,Pl,h0,_,hl,hm,KH,Sk,hx⟩
 .left;simpa [Value.cells]using h0
 right
 have iF:a0=some a/\bm=len/\kqd=cap:=by simpa [Value.cells]using h0
 obtain⟨rfl,rfl,rfl⟩:=iF
 simp only[if_true]at KH
 subst KH
 -- where it kqc
 have kqb:w.has P r b0 a e m:=by
  simp only[Value.okWide,ht,Cell.okWide,Cell.ok]at SI
  exact SI.2.2
 obtain⟨_,xA,row,cells,mD,_⟩:=kqb
 have wQ:∃C t' fr,w.heap[a.block]?=some (.cells C t' fr):=by
  unfold World.shape? at mD
  split at mD
  .exact⟨_,_,_,by assumption⟩
  .cases mD
 obtain⟨C,e',fr,hC⟩:=wQ
 have hab:a=⟨a.block,a.off,none⟩:=by cases a;simp only at xA;subst xA;rfl
 have each:∀k,k<m->∃g:Nat->V,(∀j,j<z->(g j).Zr=true/\∃u,C[a.off+(k*z+j)]?=some u/\∀i,ZK i (g j) u)/\Q g:=by
  intro k hk
  obtain⟨cs,h1,h2⟩:=hx k hk
  obtain⟨g,g1,g2⟩:=sA _ _ _ h2
  refine⟨g,λj hj=>?_,g2⟩
  obtain⟨c1,u,c2,c3⟩:=g1 j hj
  refine⟨c1,u,?_,c3⟩
  rw[hz]at h1
  obtain⟨_,_,hcell⟩:=World.cells?_some h1
  have:=hcell j hj
  rw[add_add,Pg xA,c2]at this
  obtain⟨C',t',bu,k1,_,k2⟩:=Oe this
  simp only at k1 k2
  rw[hC]at k1;cases k1
  exact k2
 have:Inhabited (Nat->V):=⟨λ_=>.Wz⟩
 obtain⟨G,hG⟩:=choose_lt each
 have hdm:∀k,k<m*z->k/z<m/\k%z<z/\k/z*z+k%z=k:=λk hk =>
  ⟨(Nat.div_lt_iff_lt_mul lV).mpr hk,Nat.mod_lt _ lV,by rw[Nat.mul_comm];exact Nat.div_add_mod k z⟩
 have hcell:∀k,k<m*z->(G (k/z) (k%z)).Zr=true/\∃u,C[a.off+k]?=some u/\∀i,ZK i (G (k/z) (k%z)) u:=by
  intro k hk
  obtain⟨d1,d2,d3⟩:=hdm k hk
  have:=(hG _ d1).1 _ d2
  rw[d3]at this
  exact this
 refine⟨a.block,a.off,bm,m,λk=>G (k/z) (k%z),C,e',fr,by rw[<-hab],⟨hC,hl,hm,?_,hcell,λq hq=>hQ _ _ (λj hj=>?_) (hG q hq).2⟩,_,_,(Prod.ext_iff.mp Sk).1,by simp⟩
 .rcases Nat.eq_zero_or_pos m with h1|h1
  .exact .inl h1
  .right
   have h2:0<m*z:=Nat.mul_pos h1 lV
   obtain⟨_,u,h3,_⟩:=hcell (m*z-1) (by omega)
   have:=(Array.getElem?_eq_some_iff.mp h3).1
   omega
 .have e1:(q*z+j)/z=q:=by rw[Nat.mul_comm,Nat.mul_add_div lV,Nat.div_eq_of_lt hj];rfl
  have e2:(q*z+j)%z=j:=by rw[Nat.mul_comm,Nat.mul_add_mod,Nat.mod_eq_of_lt hj]
  simp only[e1,e2]
theorem SD.slice(a:SD i h w){off len cap:Nat}{G:Nat->V}{C:Array Value}(s:pF w z Q B off len cap G C e fr):
  ∃i',SD i' (h.new (.cells ((List.range (cap*z)).map G) e true)) w/\i.le i'/\ZK i' (.sl h.n 0 len (.ex cap)) (.slice (some ⟨B,off,none⟩) len cap):=by
 rcases Nat.eq_zero_or_pos cap with h0|h0
 .subst h0
  obtain⟨i',h1,h2,h3⟩:=a.add (s:=0) s.heap ((List.range (0*z)).map G) (by simp) (λk v hk=>by simp at hk)
  refine⟨i',h1,h2,?_⟩
  have:len=0:=by have:=s.le;omega
  subst this
  exact .DI
 .have hf:off+cap*z<=C.size:=by rcases s.fit with h1|h1;omega;exact h1
  obtain⟨i',h1,h2,h3⟩:=a.add (s:=off) s.heap ((List.range (cap*z)).map G) (by simpa using hf) (λk v hk=>by
   have PQ:k<cap*z:=by
    have:=(List.getElem?_eq_some_iff.mp hk).1
    simpa using this
   have:v=G k:=by simp[PQ]at hk;exact hk.symm
   subst this
   exact s.cell k PQ)
  refine⟨i',h1,h2,?_⟩
  have:=ZK.Kg (i:=i') (o:=0) (len:=len) (cap:=cap) h3
  simpa using this
theorem below_trodAll{Hd:Type}{enc:TypeId×Value->Hd}(hl:laidOutB P=true){W W':World}(hb:Go.RowKit.Below W.heap.size W W'):
  ∀{ts:List TypeId} {vs:List Value} {ds:List (DataW Hd)} {ps:List MemPlace},(ts.all λt=>P.readableRec t&&decide (t<P.types.size))=true->DataW.TrodAll enc P W 0 (λ_=>true) true ts vs ds ps->(∀x∈ps,x.block<W.heap.size) ->
   DataW.TrodAll enc P W' 0 (λb=>decide (b<W.heap.size)) true ts vs ds ps
 |[],[],[],_,_,h,_=>h
 |[],[],_::_,_,_,h,_=>h.elim
 |[],_::_,_,_,_,h,_=>h.elim
 |_::_,[],_,_,_,h,_=>h.elim
 |_::_,_::_,[],_,_,h,_=>h.elim
 |t::ts,v::vs,d::ds,_,ht,⟨p,q,h1,h2,rfl⟩,hlt=>by
  simp only[List.all_cons,Bool.and_eq_true,decide_eq_true_eq]at ht
  exact⟨p,q,Go.RowKit.Below.trod hl ht.1.1 ht.1.2 h1 hb λx hx=>hlt x (by simp[hx]),below_trodAll hl hb (by simpa [List.all_eq_true]using ht.2) h2 λx hx=>hlt x (by simp[hx]),rfl⟩
end Go.Zf
