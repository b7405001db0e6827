import Derived.Test.YtbkmdnmncaakdaaGreatPdZTool
import Derived.Test.YtbkmdnmncaakdaaGreatPdZArg
import Derived.SizedLaws
import Derived.OpenShut
set_option linter.unusedVariables false
set_option linter.unusedSimpArgs false
namespace Go.Zf
open Go.ChangeShapes Go.WideShapes Go.Deep
section
variable{Hd:Type}(P:Program)
inductive Rd (h:H):TypeId->List V->DataW Hd->Prop
 |bool {t:TypeId} (ht:P.underlying t=some .bool) (b:Bool):Rd h t [.bool b] (.lit (.bool b))
 |int {t:TypeId} {k:IntKind} {n:Int} (ht:P.underlying t=some (.int k)) (hw:(Lit.int k n).wf=true):Rd h t [.int k n] (.lit (.int k n))
 |str {t:TypeId} {s:List UInt8} (ht:P.underlying t=some .string) (hw:s.length<=maxLen):Rd h t [.str s] (.lit (.string s))
 |ZO {t e:TypeId} (ht:P.underlying t=some (.slice e)):Rd h t [.ZO] .nil
 |sle {t e:TypeId} {sp:List (DataW Hd)} (ht:P.underlying t=some (.slice e)):Rd h t [.sl 0 0 0 (.ex 0)] (.slice [] sp)
 |sl {t e:TypeId} {b n cap:Nat} {c:List V} {ty:TypeId} {es sp:List (DataW Hd)} (ht:P.underlying t=some (.slice e)) (hb:h.get b=some (.cells c ty true)) (hn:es.length=n) (hc:c.length=n*P.cellsOf e)
   (h1:n<=cap) (h2:cap<=maxLen) (he:∀(j:Nat) (d:DataW Hd),es[j]?=some d->Rd h e ((c.drop (j*P.cellsOf e)).take (P.cellsOf e)) d):Rd h t [.sl b 0 n (.ex cap)] (.slice es sp)
 |struct {t:TypeId} {fs:Array Field} {xs:List V} {ds:List (DataW Hd)} (ht:P.underlying t=some (.struct fs)) (hl:xs.length=P.cellsOf t) (hd:ds.length=fs.size)
   (hf:∀(j:Nat) (f:Field) (d:DataW Hd),fs[j]?=some f->ds[j]?=some d->Rd h f.type ((xs.drop f.offset).take (P.cellsOf f.type)) d):Rd h t xs (.agg ds)
 |arr {t e:TypeId} {n:Nat} {xs:List V} {ds:List (DataW Hd)} (ht:P.underlying t=some (.array n e)) (hl:xs.length=n*P.cellsOf e) (hd:ds.length=n)
   (hf:∀(j:Nat) (d:DataW Hd),ds[j]?=some d->Rd h e ((xs.drop (j*P.cellsOf e)).take (P.cellsOf e)) d):Rd h t xs (.agg ds)
variable{h:H}{t:TypeId}{xs:List V}
theorem Rd.ext{h':H}(x:Ext h h'){d:DataW Hd}(a:Rd P h t xs d):Rd P h' t xs d:=by
 induction a with
 |bool ht b=>exact .bool ht b
 |int ht hw=>exact .int ht hw
 |str ht hw=>exact .str ht hw
 |ZO ht=>exact .ZO ht
 |sle ht=>exact .sle ht
 |sl ht hb hn hc h1 h2 he ih=>exact .sl ht (by rw[x.get _ (H.ZW hb),hb]) hn hc h1 h2 ih
 |struct ht hl hd hf ih=>exact .struct ht hl hd ih
 |arr ht hl hd hf ih=>exact .arr ht hl hd ih
def good:Nat->TypeId->Bool
 |0,_=>false
 |n+1,t=>match P.underlying t with
  |some .bool|some (.int _)|some .string=>P.cellsOf t==1
  |some (.slice e)=>P.cellsOf t==1&&decide (0<P.cellsOf e)&&good n e
  |some (.struct fs)=>fs.toList.all (λf=>good n f.type)&&(fs.toList.map (λf=>P.cellsOf f.type)).sum==P.cellsOf t&&(List.range fs.size).all λj=>((fs.toList.map (λf=>P.cellsOf f.type)).take j).sum==((fs[j]?).map (·.offset)).getD 0
  |some (.array m e)=>P.cellsOf t==m*P.cellsOf e&&good n e
  |_=>false
def cut{α:Type}:List Nat->List α->List (List α)
 |[],_=>[]
 |n::ns,l=>l.take n::cut ns (l.drop n)
theorem Ln{α:Type}:∀(ns:List Nat) (l:List α),l.length=ns.sum->(cut ns l).flatten=l
 |[],l,h=>by
  have:l.length=0:=by simpa using h
  simp[cut,List.length_eq_zero_iff.mp this]
 |n::ns,l,h=>by
  rw[cut,List.flatten_cons,Ln ns _ (by rw[List.sum_cons]at h;simp;omega),List.take_append_drop]
theorem SX{α:Type}:∀(ns:List Nat) (l:List α) (j n:Nat),ns[j]?=some n->(cut ns l)[j]?=some ((l.drop (ns.take j).sum).take n)
 |[],l,j,n,h=>by simp at h
 |m::ns,l,0,n,h=>by simp at h;subst h;simp[cut]
 |m::ns,l,j+1,n,h=>by
  simp at h
  rw[cut,List.getElem?_cons_succ,SX ns _ j n h,List.take_succ_cons,List.sum_cons,List.drop_drop]
theorem HQ{α:Type}:∀(ns:List Nat) (l:List α),(cut ns l).length=ns.length
 |[],l=>rfl
 |m::ns,l=>by simp[cut,HQ ns]
theorem Lm{α:Type}:∀(X:List (List α)),cut (X.map List.length) X.flatten=X
 |[]=>rfl
 |x::X=>by simp[cut,Lm X]
variable{P}{w:World}
def vN(I:H->Prop)(i:YJ)(h:H)(w:World):Prop:=SD i h w/\I h
variable{I:H->Prop}
def F1(I:H->Prop)(P:Program)(w:World)(t:TypeId)(cs:List Value)(d:DataW Hd):Prop :=
 ∀i h,vN I i h w->∃(i':YJ) (h':H) (x:List V),vN I i' h' w/\i.le i'/\Ext h h'/\x.all V.Zr=true/\ZA i' x cs/\Rd P h' t x d
theorem Rl:∀(L:List (TypeId×List Value×DataW Hd)),(∀p∈L,F1 I P w p.1 p.2.1 p.2.2)->∀i h,vN I i h w ->
  ∃(i':YJ) (h':H) (X:List (List V)),vN I i' h' w/\i.le i'/\Ext h h'/\X.flatten.all V.Zr=true/\ZA i' X.flatten (L.map (·.2.1)).flatten/\X.map List.length=L.map (·.2.1.length)/\∀(j:Nat) p x,L[j]?=some p->X[j]?=some x->Rd P h' p.1 x p.2.2
 |[],_,i,h,a=>⟨i,h,[],a,λ_ _ h=>h,Ext.refl h,rfl,.nil,rfl,λj p x h1=>by simp at h1⟩
 |p::L,ho,i,h,a=>by
  obtain⟨i1,h1,x,a1,l1,e1,c1,v1,r1⟩:=ho p (by simp) i h a
  obtain⟨i2,h2,X,a2,l2,e2,c2,v2,g2,r2⟩:=Rl L (λq hq=>ho q (by simp[hq])) i1 h1 a1
  refine⟨i2,h2,x::X,a2,λb y hb=>l2 b y (l1 b y hb),e1.trans e2,by simp only[List.flatten_cons,List.all_append,c1,c2,Bool.and_self],(v1.mono l2).append v2,?_,?_⟩
  .simp only[List.map_cons,g2,List.cons.injEq,and_true]
   exact v1.length.symm
  .intro j q y hq hy
   cases j with
   |zero=>simp at hq hy;subst hq hy;exact r1.ext (P:=P) e2
   |succ j=>simp at hq hy;exact r2 j q y hq hy
variable{i:YJ}{e:TypeId}
theorem SD.yqy{w:World}(a:SD i h w){B s:Nat}{C:Array Value}{fr:Nat×Nat}(hB:w.heap[B]?=some (.cells C e fr))(c:List V)(hs:s+c.length<=C.size)
  (hc:∀(k:Nat) (v:V),c[k]?=some v->v.Zr=true/\∃u,C[s+k]?=some u/\ZK i v u) :
  ∃i',SD i' (h.new (.cells c e true)) w/\i.le i'/\i' h.n=some ⟨B,s,C.size,true⟩:=by
 have Wp:∀b x,i b=some x->b≠h.n:=λb x hb e=>by rw[e,a.NU h.n (Nat.le_refl _)]at hb;cases hb
 obtain⟨i',CX⟩:∃i':YJ,i'=λb=>if b=h.n then some ⟨B,s,C.size,true⟩else i b:=⟨_,rfl⟩
 have Rf:i' h.n=some ⟨B,s,C.size,true⟩:=by simp[CX]
 have rP:∀b,b≠h.n->i' b=i b:=λb hb=>by simp[CX,hb]
 have hle:i.le i':=λb x hb=>by rw[rP b (Wp b x hb),hb]
 have wR:B<w.heap.size:=by
  rcases Nat.lt_or_ge B w.heap.size with h1|h1
  .exact h1
  .rw[Array.getElem?_eq_none h1]at hB;cases hB
 have Og:∀b x,(h.new (.cells c e true)).get b=some x->x.own=false:=by
  intro b x hb
  rw[H.Xo]at hb
  split at hb
  .cases hb;rfl
  .cases ho:x.own with
   |false=>rfl
   |true=>exact absurd ⟨x,hb,ho⟩ (a.no b)
 refine⟨i',⟨⟨?_,?_,?_⟩,?_,?_⟩,hle,Rf⟩
 .intro b x hb
  rw[H.Xo]at hb
  split at hb
  .rename_i e1;subst e1;cases hb
   exact⟨⟨B,s,C.size,true⟩,C,fr,Rf,rfl,hB,rfl,hs,(λh=>by cases h),λk v hk=>by
    obtain⟨h1,u,h2,h3⟩:=hc k v hk
    exact⟨h1,u,h2,h3.mono hle⟩⟩
  .rename_i e1
   have h1:=a.rel.Y9 b x hb
   cases x with
   |dead=>trivial
   |cells c' e' ro =>
    obtain⟨x',C',bu,h1,h2,h3,h4,h5,h6,h7⟩:=h1
    exact⟨x',C',bu,by rw[rP b e1];exact h1,h2,h3,h4,h5,h6,λk v hk=>by
     obtain⟨g1,u,g2,g3⟩:=h7 k v hk
     exact⟨g1,u,g2,g3.mono hle⟩⟩
   |map es =>
    exact absurd ⟨_,hb,rfl⟩ (a.no b)
 .intro b b' x y p q hb RG _ _ _ _ _ ho
  rcases ho with ho|ho
  .rw[Og b x hb]at ho;cases ho
  .rw[Og b' y RG]at ho;cases ho
 .intro b x hb
  by_cases e1:b=h.n
  .subst e1;rw[Rf]at hb;cases hb;exact wR
  .rw[rP b e1]at hb;exact a.rel.bound b x hb
 .intro b hb
  rw[H.ZP]at hb
  rw[rP b (by omega)]
  exact a.NU b (by omega)
 .intro b ⟨x,h1,h2⟩
  rw[Og b x h1]at h2;cases h2
theorem F0{α β:Type}{x:Option α}{f:α->Option β}{y:β}(h:x.bind f=some y):∃a,x=some a/\f a=some y:=by
 cases x with
 |none=>cases h
 |some a=>exact⟨a,rfl,h⟩
theorem Rk(hI:∀h c e,I h->I (h.new (.cells c e true))){enc:TypeId×Value->Hd}:∀(n m:Nat) (t:TypeId) (cs:List Value) (x:DataW Hd×List MemPlace),good P m t=true->DataW.trod enc P w 0 (λ_=>true) true n t cs=some x->F1 I P w t cs x.1/\cs.length=P.cellsOf t
 |n,0,t,cs,x,hg,_=>by simp[good]at hg
 |n,m+1,t,cs,x,hg,hx=>by
  unfold good at hg
  split at hg
  .rename_i ht
   obtain⟨b,rfl,rfl⟩:=DataW.trod_bool ht hx
   exact⟨λi h a=>⟨i,h,[.bool b],a,λ_ _ h=>h,Ext.refl h,rfl,.cons (.bool b) .nil,.bool ht b⟩,by simp at hg;simp[hg]⟩
  .rename_i k ht
   obtain⟨z,rfl,rfl,hw⟩:=DataW.trod_int ht hx
   exact⟨λi h a=>⟨i,h,[.int k z],a,λ_ _ h=>h,Ext.refl h,rfl,.cons (.int k z) .nil,.int ht hw⟩,by simp at hg;simp[hg]⟩
  .rename_i ht
   obtain⟨s,rfl,rfl,hw⟩:=DataW.trod_string ht hx
   exact⟨λi h a=>⟨i,h,[.str s.data.toList],a,λ_ _ h=>h,Ext.refl h,rfl,.cons (.str s) .nil,.str ht (by simpa using hw)⟩,by simp at hg;simp[hg]⟩
  .rename_i e ht
   simp only[Bool.and_eq_true,beq_iff_eq,decide_eq_true_eq]at hg
   obtain⟨⟨hc1,hz⟩,jv⟩:=hg
   rcases DataW.trod_slice ht hx with ⟨rfl,rfl⟩|⟨a,len,cap,elems,rest,k,hk,rfl,rfl,_,hl,lj,sA,hi,hr,_⟩
   .exact⟨λi h a=>⟨i,h,[.ZO],a,λ_ _ h=>h,Ext.refl h,rfl,.cons .ZO .nil,.ZO ht⟩,by simp[hc1]⟩
   refine⟨λi h ah=>?_,by simp[hc1]⟩
   obtain⟨au,JV⟩:=hr rfl
   rcases Nat.eq_zero_or_pos cap with h0|h0
   .subst h0
    have:len=0:=by omega
    subst this
    obtain rfl:elems=[]:=List.length_eq_zero_iff.mp sA
    exact⟨i,h,[.sl 0 0 0 (.ex 0)],ah,λ_ _ h=>h,Ext.refl h,rfl,.cons .DI .nil,.sle ht⟩
   -- where it kqc
   have each:∀j,j<cap->∃cj y,w.cells? 0 (a.add (j*P.cellsOf e)) (P.cellsOf e)=some cj/\DataW.trod enc P w 0 (λ_=>true) true k e cj=some y/\(j<len->elems[j]?=some y):=by
    intro j hj
    by_cases QW:j<len
    .have h1:=hi j QW
     rw[List.getElem?_eq_getElem (by omega)]at h1
     obtain⟨cj,h2,h3⟩:=F0 h1
     exact⟨cj,_,h2,h3,λ_=>by rw[List.getElem?_eq_getElem (by omega)]⟩
    .have h1:=JV (j-len) (by omega)
     rw[show len+(j-len)=j by omega,List.getElem?_eq_getElem (by omega)]at h1
     obtain⟨cj,h2,h3⟩:=F0 h1
     exact⟨cj,_,h2,h3,λh=>absurd h QW⟩
   have wQ:∃C e' fr,w.heap[a.block]?=some (.cells C e' fr)/\a.spot=none/\∀j,j<cap->∀cj,w.cells? 0 (a.add (j*P.cellsOf e)) (P.cellsOf e)=some cj->∀q,q<P.cellsOf e->C[a.off+(j*P.cellsOf e+q)]?=cj[q]?:=by
    obtain⟨c0,y0,h1,_,_⟩:=each 0 h0
    obtain⟨_,hlen,hcell⟩:=World.cells?_some h1
    have h2:=hcell 0 hz
    obtain⟨v0,Df⟩:∃v,c0[0]?=some v:=⟨c0[0]'(by omega),by rw[List.getElem?_eq_getElem]⟩
    rw[Df]at h2
    obtain⟨C,e',fr,k1,k2,k3⟩:=Oe h2
    have Lk:a.spot=none:=by
     cases a with
     |mk b o sp =>
      cases sp with
      |none=>rfl
      |some s=>simp[Addr.add]at k2
    refine⟨C,e',fr,?_,Lk,λj hj cj hcj q hq=>?_⟩
    .rw[add_add,Pg Lk]at k1;exact k1
    .obtain⟨_,xqT,lh⟩:=World.cells?_some hcj
     have h3:=lh q hq
     obtain⟨v1,HC⟩:∃v,cj[q]?=some v:=⟨cj[q]'(by omega),by rw[List.getElem?_eq_getElem]⟩
     rw[HC]at h3
     obtain⟨C',e2,bu,k1',_,k3'⟩:=Oe h3
     rw[add_add,Pg Lk]at k1' k3'
     rw[add_add,Pg Lk]at k1
     simp only at k1 k1' k3'
     rw[k1]at k1';cases k1'
     rw[HC];exact k3'
   obtain⟨C,e',fr,hC,Lk,Oa⟩:=wQ
   have hab:a=⟨a.block,a.off,none⟩:=by cases a;simp only at Lk;subst Lk;rfl
   obtain⟨cf,hcf⟩:∃cf:Nat->List Value,∀j,j<cap->w.cells? 0 (a.add (j*P.cellsOf e)) (P.cellsOf e)=some (cf j):=by
    refine⟨λj=>(w.cells? 0 (a.add (j*P.cellsOf e)) (P.cellsOf e)).getD [],λj hj=>?_⟩
    obtain⟨cj,_,h1,_,_⟩:=each j hj
    simp only[h1,Option.getD_some]
   have BqU:∀j,j<cap->(cf j).length=P.cellsOf e:=λj hj=>(World.cells?_some (hcf j hj)).2.1
   obtain⟨L,hL⟩:∃L:List (TypeId×List Value×DataW Hd),L=(List.range len).map λj=>(e,cf j,((elems[j]?).map (·.1)).getD .nil):=⟨_,rfl⟩
   have Lj:∀p∈L,F1 I P w p.1 p.2.1 p.2.2:=by
    intro p hp
    rw[hL]at hp
    obtain⟨j,hj,rfl⟩:=List.mem_map.1 hp
    have la:j<len:=by simpa using hj
    obtain⟨cj,y,h1,h2,h3⟩:=each j (by omega)
    rw[hcf j (by omega)]at h1;cases h1
    have:=(Rk hI k m e (cf j) y jv h2).1
    simp only[h3 la,Option.map_some,Option.getD_some]
    exact this
   obtain⟨i1,h1,X,a1,l1,e1,c1,v1,g1,r1⟩:=Rl L Lj i h ah
   have hLl:L.length=len:=by rw[hL];simp
   have hX:X.map List.length=List.replicate len (P.cellsOf e):=by
    rw[g1,hL,List.map_map]
    apply List.ext_getElem
    .simp
    .intro j q1 q2
     simp at q1
     simp[BqU j (by omega)]
   have oX:X.length=len:=by have:=congrArg List.length hX;simpa using this
   have jW:X.flatten.length=len*P.cellsOf e:=by rw[List.length_flatten,hX];simp
   have Av:∀j (x:List V),X[j]?=some x->(X.flatten.drop (j*P.cellsOf e)).take (P.cellsOf e)=x:=by
    intro j x hj
    have QW:j<len:=by rw[<-oX];exact (List.getElem?_eq_some_iff.mp hj).1
    have:=SX (X.map List.length) X.flatten j (P.cellsOf e) (by rw[hX];simp[QW])
    rw[Lm,hj,hX,List.take_replicate,List.sum_replicate_nat,Nat.min_eq_left (by omega)]at this
    exact (Option.some.inj this).symm
   have hcs:∀(q:Nat) (v:V),X.flatten[q]?=some v->v.Zr=true/\∃u,C[a.off+q]?=some u/\ZK i1 v u:=by
    intro q v hq
    refine⟨by rw[List.all_eq_true]at c1;exact c1 v (List.mem_of_getElem? hq),?_⟩
    obtain⟨u,h2,h3⟩:=v1.get hq
    refine⟨u,?_,h3⟩
    have hql:q<len*P.cellsOf e:=by rw[<-jW];exact (List.getElem?_eq_some_iff.mp hq).1
    have hj:q/P.cellsOf e<len:=(Nat.div_lt_iff_lt_mul hz).2 hql
    have hr:q%P.cellsOf e<P.cellsOf e:=Nat.mod_lt _ hz
    have h4:=Oa _ (Nat.lt_of_lt_of_le hj hl) _ (hcf _ (by omega)) _ hr
    rw[Nat.mul_comm,Nat.div_add_mod]at h4
    rw[h4]
    have h5:=SX ((L.map (·.2.1)).map List.length) (L.map (·.2.1)).flatten (q/P.cellsOf e) (P.cellsOf e) (by
     rw[List.map_map]
     have:(L.map (List.length ∘ λx=>x.2.1))=List.replicate len (P.cellsOf e):=by rw[<-hX,g1];rfl
     rw[this];simp[hj])
    rw[Lm]at h5
    have h6:((L.map (·.2.1)).map List.length)=List.replicate len (P.cellsOf e):=by rw[List.map_map,<-hX,g1];rfl
    rw[h6,List.take_replicate,List.sum_replicate_nat,Nat.min_eq_left (by omega)]at h5
    have h7:(L.map (·.2.1))[q/P.cellsOf e]?=some (cf (q/P.cellsOf e)):=by rw[hL];simp[hj]
    rw[h7]at h5
    have h8:=Option.some.inj h5
    rw[h8,List.getElem?_take,if_pos hr,List.getElem?_drop,Nat.mul_comm,Nat.div_add_mod]
    exact h2
   have RO:a.off+X.flatten.length<=C.size:=by
    rcases Nat.eq_zero_or_pos X.flatten.length with q0|q0
    .rw[q0]
     obtain⟨c0,y0,h2,_,_⟩:=each 0 h0
     obtain⟨_,xqS,_⟩:=World.cells?_some h2
     have h3:=Oa 0 h0 _ h2 0 hz
     rw[List.getElem?_eq_getElem (by omega)]at h3
     have:=(Array.getElem?_eq_some_iff.mp h3).1
     omega
    .obtain⟨_,u,h2,_⟩:=hcs (X.flatten.length-1) _ (List.getElem?_eq_getElem (by omega))
     have:=(Array.getElem?_eq_some_iff.mp h2).1
     omega
   obtain⟨i2,a2,l2,hn⟩:=a1.1.yqy hC X.flatten RO hcs
   have a2:vN I i2 _ w:=⟨a2,hI _ _ _ a1.2⟩
   have x2:Ext h1 (h1.new (.cells X.flatten e' true)):=(Ext.refl _).new _
   have hv:ZK i2 (.sl h1.n 0 len (.ex cap)) (.slice (some a) len cap):=by
    have:=ZK.Kg (i:=i2) (o:=0) (len:=len) (cap:=cap) hn
    rw[hab];simpa using this
   refine⟨i2,_,[.sl h1.n 0 len (.ex cap)],a2,λb y hb=>l2 b y (l1 b y hb),e1.trans x2,rfl,.cons hv .nil,?_⟩
   refine .sl ht ZY (by simp[sA]) jW hl lj (λj d hd=>?_)
   rw[List.getElem?_map]at hd
   obtain⟨y,hy,rfl⟩:=Option.map_eq_some_iff.1 hd
   have QW:j<len:=by rw[<-sA];exact (List.getElem?_eq_some_iff.mp hy).1
   have oW:X[j]?=some (X[j]'(by omega)):=List.getElem?_eq_getElem _
   have:=r1 j (e,cf j,((elems[j]?).map (·.1)).getD .nil) _ (by rw[hL];simp[QW]) oW
   rw[Av j _ oW]
   simp only[hy,Option.map_some,Option.getD_some]at this
   exact this.ext (P:=P) x2
  .rename_i fs ht
   simp only[Bool.and_eq_true,beq_iff_eq,List.all_eq_true,List.mem_range]at hg
   obtain⟨⟨SG,XQ⟩,HA⟩:=hg
   obtain⟨xs,k,hk,rfl,V3,hxl,hf⟩:=DataW.trod_struct ht hx
   refine⟨λi h ah=>?_,V3⟩
   obtain⟨L,hL⟩:∃L:List (TypeId×List Value×DataW Hd),L=(List.range fs.size).map λj=>((fs[j]?).map (·.type) |>.getD 0,(cut (fs.toList.map λf=>P.cellsOf f.type) cs)[j]?.getD [],((xs[j]?).map (·.1)).getD .nil):=⟨_,rfl⟩
   have BqT:∀j f,fs[j]?=some f->(cut (fs.toList.map λf=>P.cellsOf f.type) cs)[j]?=some ((cs.drop f.offset).take (P.cellsOf f.type))/\j<fs.size/\((fs.toList.map (λf=>P.cellsOf f.type)).take j).sum=f.offset:=by
    intro j f hj
    have QW:j<fs.size:=(Array.getElem?_eq_some_iff.mp hj).1
    have h1:=HA j QW
    rw[hj]at h1
    have Tt:((fs.toList.map (λf=>P.cellsOf f.type)).take j).sum=f.offset:=h1
    have:=SX (fs.toList.map λf=>P.cellsOf f.type) cs j (P.cellsOf f.type) (by rw[List.getElem?_map,Array.getElem?_toList,hj];rfl)
    rw[Tt]at this
    exact⟨this,QW,Tt⟩
   have Lj:∀p∈L,F1 I P w p.1 p.2.1 p.2.2/\p.2.1.length=P.cellsOf p.1:=by
    intro p hp
    rw[hL]at hp
    obtain⟨j,hj,rfl⟩:=List.mem_map.1 hp
    have la:j<fs.size:=by simpa using hj
    have hfj:fs[j]?=some fs[j]:=by simp[la]
    have h1:=hf j _ hfj
    have hy:xs[j]?=some (xs[j]'(by omega)):=List.getElem?_eq_getElem _
    rw[hy]at h1
    have:=Rk hI k m _ _ _ (SG fs[j] (by simp)) h1
    obtain⟨c1,_,_⟩:=BqT j _ hfj
    simp only[hfj,c1,hy,Option.map_some,Option.getD_some]
    exact this
   obtain⟨i1,h1,X,a1,l1,e1,c1,v1,g1,r1⟩:=Rl L (λp hp=>(Lj p hp).1) i h ah
   have O6:X.map List.length=fs.toList.map λf=>P.cellsOf f.type:=by
    rw[g1]
    apply List.ext_getElem
    .rw[hL];simp
    .intro j q1 q2
     have la:j<fs.size:=by simpa using q2
     have hjL:j<L.length:=by simpa using q1
     have:=(Lj L[j] (List.getElem_mem hjL)).2
     rw[List.getElem_map,this]
     simp[hL,la]
   have hcs:(L.map (·.2.1)).flatten=cs:=by
    have:L.map (·.2.1)=cut (fs.toList.map λf=>P.cellsOf f.type) cs:=by
     apply List.ext_getElem
     .rw[hL,HQ];simp
     .intro j q1 q2
      simp only[hL,List.getElem_map,List.getElem_range]
      rw[List.getElem?_eq_getElem q2,Option.getD_some]
    rw[this,Ln _ _ (by rw[V3,XQ])]
   rw[hcs]at v1
   have oX:X.length=fs.size:=by have:=congrArg List.length O6;simpa using this
   refine⟨i1,h1,X.flatten,a1,l1,e1,c1,v1,.struct ht (by rw[List.length_flatten,O6,XQ]) (by simp[hxl]) (λj f d hj hd=>?_)⟩
   rw[List.getElem?_map]at hd
   obtain⟨y,hy,rfl⟩:=Option.map_eq_some_iff.1 hd
   obtain⟨q1,q2,q3⟩:=BqT j f hj
   have oW:X[j]?=some (X[j]'(by omega)):=List.getElem?_eq_getElem _
   have h2:=SX (X.map List.length) X.flatten j (P.cellsOf f.type) (by rw[O6,List.getElem?_map,Array.getElem?_toList,hj];rfl)
   rw[Lm,oW,O6,q3]at h2
   rw[<-Option.some.inj h2]
   have:=r1 j (L[j]'(by rw[hL];simpa using q2)) _ (List.getElem?_eq_getElem _) oW
   simp only[hL,List.getElem_map,List.getElem_range,hj,hy,Option.map_some,Option.getD_some]at this
   exact this
  .rename_i q e ht
   simp only[Bool.and_eq_true,beq_iff_eq]at hg
   obtain⟨SG,XQ⟩:=hg
   obtain⟨xs,k,hk,rfl,V3,hxl,hf⟩:=DataW.trod_array ht hx
   refine⟨λi h ah=>?_,V3⟩
   obtain⟨L,hL⟩:∃L:List (TypeId×List Value×DataW Hd),L=(List.range q).map λj=>(e,(cs.drop (j*P.cellsOf e)).take (P.cellsOf e),((xs[j]?).map (·.1)).getD .nil):=⟨_,rfl⟩
   have Lj:∀p∈L,F1 I P w p.1 p.2.1 p.2.2/\p.2.1.length=P.cellsOf e:=by
    intro p hp
    rw[hL]at hp
    obtain⟨j,hj,rfl⟩:=List.mem_map.1 hp
    have la:j<q:=by simpa using hj
    have h1:=hf j la
    have hy:xs[j]?=some (xs[j]'(by omega)):=List.getElem?_eq_getElem _
    rw[hy]at h1
    have:=Rk hI k m _ _ _ XQ h1
    simp only[hy,Option.map_some,Option.getD_some]
    exact this
   obtain⟨i1,h1,X,a1,l1,e1,c1,v1,g1,r1⟩:=Rl L (λp hp=>(Lj p hp).1) i h ah
   have O6:X.map List.length=List.replicate q (P.cellsOf e):=by
    rw[g1]
    apply List.ext_getElem
    .rw[hL];simp
    .intro j q1 q2
     have hjL:j<L.length:=by simpa using q1
     have:=(Lj L[j] (List.getElem_mem hjL)).2
     rw[List.getElem_map,this]
     simp[hL]
   have hcs:(L.map (·.2.1)).flatten=cs:=by
    have:L.map (·.2.1)=cut (List.replicate q (P.cellsOf e)) cs:=by
     apply List.ext_getElem?
     intro j
     by_cases hj:j<q
     .rw[SX _ _ j (P.cellsOf e) (by simp[hj]),List.take_replicate,List.sum_replicate_nat,Nat.min_eq_left (by omega)]
      simp[hL,hj]
     .rw[List.getElem?_eq_none (by rw[hL];simp;omega),List.getElem?_eq_none (by rw[HQ];simp;omega)]
    rw[this,Ln _ _ (by rw[V3,SG];simp)]
   rw[hcs]at v1
   have oX:X.length=q:=by have:=congrArg List.length O6;simpa using this
   refine⟨i1,h1,X.flatten,a1,l1,e1,c1,v1,.arr ht (by rw[List.length_flatten,O6];simp) (by simp[hxl]) (λj d hd=>?_)⟩
   rw[List.getElem?_map]at hd
   obtain⟨y,hy,rfl⟩:=Option.map_eq_some_iff.1 hd
   have QW:j<q:=by rw[<-hxl];exact (List.getElem?_eq_some_iff.mp hy).1
   have oW:X[j]?=some (X[j]'(by omega)):=List.getElem?_eq_getElem _
   have h2:=SX (X.map List.length) X.flatten j (P.cellsOf e) (by rw[O6];simp[QW])
   rw[Lm,oW,O6,List.take_replicate,List.sum_replicate_nat,Nat.min_eq_left (by omega)]at h2
   rw[<-Option.some.inj h2]
   have:=r1 j (L[j]'(by rw[hL];simpa using QW)) _ (List.getElem?_eq_getElem _) oW
   simp only[hL,List.getElem_map,List.getElem_range,hy,Option.map_some,Option.getD_some]at this
   exact this
  .cases hg
theorem vP(n:Nat)(hg:good P n t=true)(a:SD i h w){enc:TypeId×Value->Hd}{v:Value}{d:DataW Hd}{ps:List MemPlace}(hd:DataW.Trod enc P w 0 (λ_=>true) true t v d ps):
  ∃(i':YJ) (h':H) (x:List V),SD i' h' w/\i.le i'/\Ext h h'/\x.all V.Zr=true/\ZA i' x v.cells.toList/\Rd P h' t x d:=by
 obtain⟨k,hk⟩:=hd
 obtain⟨i',h',x,a',r⟩:=(Rk (I:=λ_=>True) (λ_ _ _ _=>trivial) k n t _ _ hg hk).1 i h ⟨a,trivial⟩
 exact⟨i',h',x,a'.1,r⟩
theorem Rd.MC{d:DataW Hd}(a:Rd P h t xs d)(ht:P.underlying t=some .bool):∃b,xs=[.bool b]:=by
 cases a with
 |bool _ b=>exact⟨b,rfl⟩
 |int h1|str h1|ZO h1|sle h1|sl h1|struct h1|arr h1=>rw[ht]at h1;cases h1
theorem Rd.tI{k:IntKind}{d:DataW Hd}(a:Rd P h t xs d)(ht:P.underlying t=some (.int k)):∃n,xs=[.int k n]/\(Lit.int k n).wf=true:=by
 cases a with
 |int h1 hw=>rw[ht]at h1;cases h1;exact⟨_,rfl,hw⟩
 |bool h1|str h1|ZO h1|sle h1|sl h1|struct h1|arr h1=>rw[ht]at h1;cases h1
theorem Rd.Tm{fs:Array Field}{d:DataW Hd}(a:Rd P h t xs d)(ht:P.underlying t=some (.struct fs)):
  xs.length=P.cellsOf t/\∀(j:Nat) (f:Field),fs[j]?=some f->∃d':DataW Hd,Rd P h f.type ((xs.drop f.offset).take (P.cellsOf f.type)) d':=by
 cases a with
 |struct h1 hl hd hf =>
  rw[ht]at h1;cases h1
  refine⟨hl,λj f hj=>?_⟩
  have QW:j<fs.size:=(Array.getElem?_eq_some_iff.mp hj).1
  exact⟨_,hf j f _ hj (List.getElem?_eq_getElem (by omega))⟩
 |int h1|bool h1|str h1|ZO h1|sle h1|sl h1|arr h1=>rw[ht]at h1;cases h1
theorem Rd.I8{n:Nat}{d:DataW Hd}(a:Rd P h t xs d)(ht:P.underlying t=some (.array n e)):
  xs.length=n*P.cellsOf e/\∀j,j<n->∃d':DataW Hd,Rd P h e ((xs.drop (j*P.cellsOf e)).take (P.cellsOf e)) d':=by
 cases a with
 |arr h1 hl hd hf =>
  rw[ht]at h1;cases h1
  exact⟨hl,λj hj=>⟨_,hf j _ (List.getElem?_eq_getElem (by omega))⟩⟩
 |int h1|bool h1|str h1|ZO h1|sle h1|sl h1|struct h1=>rw[ht]at h1;cases h1
def Jo(h:H)(z:Nat)(v:V)(n:Nat)(Q:Nat->List V->Prop):Prop :=
 n<=maxLen/\((v=.ZO/\n=0)\/∃b cap,v=.sl b 0 n (.ex cap)/\n<=cap/\cap<=maxLen/\(n=0\/∃c,∃ty:TypeId×Bool,h.get b=some (.cells c ty.1 ty.2)/\n*z<=c.length/\∀j,j<n->Q j ((c.drop (j*z)).take z)))
theorem Rd.Cd{d:DataW Hd}(a:Rd P h t xs d)(ht:P.underlying t=some (.slice e)):
  ∃v n,xs=[v]/\Jo h (P.cellsOf e) v n (λ_ p=>∃d':DataW Hd,Rd P h e p d')/\((d=.nil/\n=0)\/∃es sp,d=.slice es sp/\es.length=n):=by
 cases a with
 |ZO h1=>exact⟨_,0,rfl,⟨Nat.zero_le _,.inl ⟨rfl,rfl⟩⟩,.inl ⟨rfl,rfl⟩⟩
 |sle h1=>exact⟨.sl 0 0 0 (.ex 0),0,rfl,⟨Nat.zero_le _,.inr ⟨0,0,rfl,Nat.zero_le _,Nat.zero_le _,.inl rfl⟩⟩,.inr ⟨_,_,rfl,rfl⟩⟩
 |sl h1 hb hn hc h2 h3 he =>
  rw[ht]at h1;cases h1
  refine⟨_,_,rfl,⟨Nat.le_trans h2 h3,.inr ⟨_,_,rfl,h2,h3,.inr ⟨_,(_,true),hb,by omega,λj hj=>⟨_,he j _ (List.getElem?_eq_getElem (by omega))⟩⟩⟩⟩,.inr ⟨_,_,rfl,hn⟩⟩
 |int h1|bool h1|str h1|struct h1|arr h1=>rw[ht]at h1;cases h1
section sl
variable{h h':H}{z n:Nat}{v:V}{Q:Nat->List V->Prop}
theorem Jo.ext(a:Jo h z v n Q)(x:Ext h h'):Jo h' z v n Q:=by
 obtain⟨h0,a⟩:=a
 refine⟨h0,?_⟩
 rcases a with a|⟨b,cap,h1,h2,h3,a⟩
 .exact .inl a
 .refine .inr ⟨b,cap,h1,h2,h3,?_⟩
  rcases a with a|⟨c,ty,h4,h5⟩
  .exact .inl a
  .exact .inr ⟨c,ty,by rw[x.get b (H.ZW h4),h4],h5⟩
theorem Jo.imp(a:Jo h z v n Q){R:Nat->List V->Prop}(hq:∀j p,j<n->p.length=z->Q j p->R j p):Jo h z v n R:=by
 obtain⟨h0,a⟩:=a
 refine⟨h0,?_⟩
 rcases a with a|⟨b,cap,h1,h2,h3,a⟩
 .exact .inl a
 .refine .inr ⟨b,cap,h1,h2,h3,?_⟩
  rcases a with a|⟨c,ty,h4,h5,h6⟩
  .exact .inl a
  .refine .inr ⟨c,ty,h4,h5,λj hj=>hq j _ hj ?_ (h6 j hj)⟩
   have:(j+1)*z<=n*z:=Nat.mul_le_mul_right z hj
   rw[Nat.succ_mul]at this
   simp;omega
theorem Jo.len(a:Jo h z v n Q):Kc v=some (.int .i64 n):=by
 obtain⟨h0,⟨rfl,rfl⟩|⟨b,cap,rfl,_⟩⟩:=a<;>rfl
theorem Jo.cell(a:Jo h z v n Q):v.Zr=true:=by
 obtain⟨h0,⟨rfl,rfl⟩|⟨b,cap,rfl,_⟩⟩:=a<;>rfl
theorem Jo.cells(a:Jo h z v n Q):V.cells v=some [v]:=by
 obtain⟨h0,⟨rfl,rfl⟩|⟨b,cap,rfl,_⟩⟩:=a<;>rfl
theorem Jo.same(a:Jo h z v n Q):V.same v v=true:=by
 obtain⟨h0,⟨rfl,rfl⟩|⟨b,cap,rfl,_⟩⟩:=a
 .rfl
 .simp[V.same]
theorem Jo.at(a:Jo h z v n Q){j:Nat}(hj:j<n):∃b o p,PY z v (.int .i64 j)=some (.ptr b o)/\h.Ze b o z=some p/\Q j p/\b<h.n/\(∀k x,p[k]?=some x->h.Zp b (o+k)=some x):=by
 obtain⟨h0,⟨rfl,rfl⟩|⟨b,cap,rfl,h2,h3,a⟩⟩:=a
 .omega
 .rcases a with rfl|⟨c,ty,h4,h5,h6⟩
  .omega
  .have hl:j*z+z<=c.length:=by
    have:(j+1)*z<=n*z:=Nat.mul_le_mul_right z hj
    rw[Nat.succ_mul]at this
    omega
   refine⟨b,j*z,_,by simp[hj],by rw[ZU h4 hl],h6 j hj,H.ZW h4,λk x hk=>?_⟩
   rw[List.getElem?_take]at hk
   split at hk
   .rw[ZZ h4,<-hk,List.getElem?_drop]
   .cases hk
theorem Jo.take(a:Jo h z v n Q){m:Nat}(hm:m<=n):∃y,Ce z v none (some (.int .i64 m)) none=some y/\Jo h z y m Q:=by
 obtain⟨h0,⟨rfl,rfl⟩|⟨b,cap,rfl,h2,h3,a⟩⟩:=a
 .have:m=0:=by omega
  subst this
  exact⟨.ZO,rfl,Nat.zero_le _,.inl ⟨rfl,rfl⟩⟩
 .refine⟨.sl b 0 m (.ex cap),by simp[Ce,Up,XK,show (m:Int)<=cap by omega,show m<=cap by omega],by omega,.inr ⟨b,cap,rfl,by omega,h3,?_⟩⟩
  rcases a with rfl|⟨c,ty,h4,h5,h6⟩
  .exact .inl (by omega)
  .have:m*z<=n*z:=Nat.mul_le_mul_right z hm
   exact .inr ⟨c,ty,h4,by omega,λj hj=>h6 j (by omega)⟩
end sl
end
end Go.Zf
