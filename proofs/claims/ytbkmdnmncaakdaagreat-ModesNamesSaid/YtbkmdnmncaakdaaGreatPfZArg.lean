import Derived.Test.YtbkmdnmncaakdaaGreatPfZRow
import Derived.Deep.Slices
import Derived.Carry
import Derived.ChangeOld
set_option linter.unusedVariables false
set_option linter.unusedSimpArgs false
namespace Go.Zf
open Go.ChangeShapes Go.WideShapes Go.Deep
structure SD(i:YJ)(h:H)(w:World):Prop where
 rel:Zb i h w
 NU:∀b,h.n<=b->i b=none
 no:∀b,¬h.Mv b
theorem SD.empty(w:World):SD (λ_=>none) H.empty w :=
 ⟨Zb.empty _ (λ_=>rfl) w,λ_ _=>rfl,λb ⟨x,h1,_⟩=>by simp[H.get,H.empty]at h1⟩
variable{i:YJ}{h:H}{w:World}{B:Nat}{e:TypeId}{fr:Nat×Nat}
theorem SD.add(a:SD i h w){s:Nat}{C:Array Value}(hB:w.heap[B]?=some (.cells C e fr))(c:List V)(hs:s+c.length<=C.size)
  (hc:∀(k:Nat) (v:V),c[k]?=some v->v.Zr=true/\∃u,C[s+k]?=some u/\∀i,ZK i v u) :
  ∃i',SD i' (h.new (.cells c e true)) w/\i.le i'/\i' h.n=some ⟨B,s,C.size,true⟩:=by
 have Wp:∀b x,i b=some x->b≠h.n:=λb x hb e=>by rw[e,a.NU h.n (Nat.le_refl _)]at hb;cases hb
 obtain⟨i',CX⟩:∃i':YJ,i'=λb=>if b=h.n then some ⟨B,s,C.size,true⟩else i b:=⟨_,rfl⟩
 have Rf:i' h.n=some ⟨B,s,C.size,true⟩:=by simp[CX]
 have rP:∀b,b≠h.n->i' b=i b:=λb hb=>by simp[CX,hb]
 have hle:i.le i':=λb x hb=>by rw[rP b (Wp b x hb),hb]
 have wR:B<w.heap.size:=by
  rcases Nat.lt_or_ge B w.heap.size with h1|h1
  .exact h1
  .rw[Array.getElem?_eq_none h1]at hB;cases hB
 have Og:∀b x,(h.new (.cells c e true)).get b=some x->x.own=false:=by
  intro b x hb;rw[H.Xo]at hb;split at hb
  .cases hb;rfl
  .cases ho:x.own with
   |false=>rfl
   |true=>exact absurd ⟨x,hb,ho⟩ (a.no b)
 refine⟨i',⟨⟨?_,?_,?_⟩,?_,?_⟩,hle,Rf⟩
 .intro b x hb
  rw[H.Xo]at hb;split at hb
  .rename_i e1;subst e1;cases hb
   exact⟨⟨B,s,C.size,true⟩,C,fr,Rf,rfl,hB,rfl,hs,(λh=>by cases h),λk v hk=>by
    obtain⟨h1,u,h2,h3⟩:=hc k v hk;exact⟨h1,u,h2,h3 _⟩⟩
  .rename_i e1
   have h1:=a.rel.Y9 b x hb;cases x with
   |dead=>trivial
   |cells c' e' ro =>
    obtain⟨x',C',bu,h1,h2,h3,h4,h5,h6,h7⟩:=h1;exact⟨x',C',bu,by rw[rP b e1];exact h1,h2,h3,h4,h5,h6,λk v hk=>by
     obtain⟨g1,u,g2,g3⟩:=h7 k v hk;exact⟨g1,u,g2,g3.mono hle⟩⟩
   |map es =>
    exact absurd ⟨_,hb,rfl⟩ (a.no b)
 .intro b b' x y p q hb RG _ _ _ _ _ ho
  rcases ho with ho|ho
  .rw[Og b x hb]at ho;cases ho
  .rw[Og b' y RG]at ho;cases ho
 .intro b x hb
  by_cases e1:b=h.n
  .subst e1;rw[Rf]at hb;cases hb;exact wR
  .rw[rP b e1]at hb;exact a.rel.bound b x hb
 .intro b hb
  rw[H.ZP]at hb;rw[rP b (by omega)];exact a.NU b (by omega)
 .intro b ⟨x,h1,h2⟩
  rw[Og b x h1]at h2;cases h2
structure pF(w:World)(z:Nat)(Q:(Nat->V)->Prop)(B off len cap:Nat)(G:Nat->V)(C:Array Value)(e:TypeId)(fr:Nat×Nat):Prop where
 heap:w.heap[B]?=some (.cells C e fr)
 le:len<=cap
 max:cap<=maxLen
 fit:cap=0\/off+cap*z<=C.size
 cell:∀k,k<cap*z->(G k).Zr=true/\∃u,C[off+k]?=some u/\∀i,ZK i (G k) u
 el:∀m,m<cap->Q λj=>G (m*z+j)
theorem SD.slice(a:SD i h w){z:Nat}{Q:(Nat->V)->Prop}{off len cap:Nat}{G:Nat->V}{C:Array Value}(s:pF w z Q B off len cap G C e fr):
  ∃i',SD i' (h.new (.cells ((List.range (cap*z)).map G) e true)) w/\i.le i'/\ZK i' (.sl h.n 0 len (.ex cap)) (.slice (some ⟨B,off,none⟩) len cap):=by
 rcases Nat.eq_zero_or_pos cap with h0|h0
 .subst h0
  obtain⟨i',h1,h2,h3⟩:=a.add (s:=0) s.heap ((List.range (0*z)).map G) (by simp) (λk v hk=>by simp at hk);refine⟨i',h1,h2,?_⟩;have:len=0:=by have:=s.le;omega
  subst this;exact .DI
 .have hf:off+cap*z<=C.size:=by rcases s.fit with h1|h1;omega;exact h1
  obtain⟨i',h1,h2,h3⟩:=a.add (s:=off) s.heap ((List.range (cap*z)).map G) (by simpa using hf) (λk v hk=>by
   have PQ:k<cap*z:=by
    have:=(List.getElem?_eq_some_iff.mp hk).1;simpa using this
   have:v=G k:=by simp[PQ]at hk;exact hk.symm
   subst this;exact s.cell k PQ)
  refine⟨i',h1,h2,?_⟩;have:=ZK.Kg (i:=i') (o:=0) (len:=len) (cap:=cap) h3;simpa using this
end Go.Zf
