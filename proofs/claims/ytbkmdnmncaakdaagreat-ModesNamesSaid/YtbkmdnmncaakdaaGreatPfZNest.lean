import Derived.Test.YtbkmdnmncaakdaaGreatPfZTool
import Derived.Test.YtbkmdnmncaakdaaGreatPfZArg
import Derived.SizedLaws
import Derived.OpenShut
set_option linter.unusedVariables false
set_option linter.unusedSimpArgs false
namespace Go.Zf
open Go.ChangeShapes Go.WideShapes Go.Deep
section
variable{Hd:Type}(P:Program)
inductive Rd (h:H):TypeId->List V->DataW Hd->Prop
 |bool {t:TypeId} (ht:P.underlying t=some .bool) (b:Bool):Rd h t [.bool b] (.lit (.bool b))
 |int {t:TypeId} {k:IntKind} {n:Int} (ht:P.underlying t=some (.int k)) (hw:(Lit.int k n).wf=true):Rd h t [.int k n] (.lit (.int k n))
 |str {t:TypeId} {s:List UInt8} (ht:P.underlying t=some .string) (hw:s.length<=maxLen):Rd h t [.str s] (.lit (.string s))
 |ZO {t e:TypeId} (ht:P.underlying t=some (.slice e)):Rd h t [.ZO] .nil
 |sle {t e:TypeId} {sp:List (DataW Hd)} (ht:P.underlying t=some (.slice e)):Rd h t [.sl 0 0 0 (.ex 0)] (.slice [] sp)
 |sl {t e:TypeId} {b n cap:Nat} {c:List V} {ty:TypeId} {es sp:List (DataW Hd)} (ht:P.underlying t=some (.slice e)) (hb:h.get b=some (.cells c ty true)) (hn:es.length=n) (hc:c.length=n*P.cellsOf e)
   (h1:n<=cap) (h2:cap<=maxLen) (he:∀(j:Nat) (d:DataW Hd),es[j]?=some d->Rd h e ((c.drop (j*P.cellsOf e)).take (P.cellsOf e)) d):Rd h t [.sl b 0 n (.ex cap)] (.slice es sp)
 |struct {t:TypeId} {fs:Array Field} {xs:List V} {ds:List (DataW Hd)} (ht:P.underlying t=some (.struct fs)) (hl:xs.length=P.cellsOf t) (hd:ds.length=fs.size)
   (hf:∀(j:Nat) (f:Field) (d:DataW Hd),fs[j]?=some f->ds[j]?=some d->Rd h f.type ((xs.drop f.offset).take (P.cellsOf f.type)) d):Rd h t xs (.agg ds)
 |arr {t e:TypeId} {n:Nat} {xs:List V} {ds:List (DataW Hd)} (ht:P.underlying t=some (.array n e)) (hl:xs.length=n*P.cellsOf e) (hd:ds.length=n)
   (hf:∀(j:Nat) (d:DataW Hd),ds[j]?=some d->Rd h e ((xs.drop (j*P.cellsOf e)).take (P.cellsOf e)) d):Rd h t xs (.agg ds)
theorem Rd.ext{h h':H}(x:Ext h h'){t:TypeId}{xs:List V}{d:DataW Hd}(a:Rd P h t xs d):Rd P h' t xs d:=by
 induction a with
 |bool ht b=>exact .bool ht b
 |int ht hw=>exact .int ht hw
 |str ht hw=>exact .str ht hw
 |ZO ht=>exact .ZO ht
 |sle ht=>exact .sle ht
 |sl ht hb hn hc h1 h2 he ih=>exact .sl ht (by rw[x.get _ (H.ZW hb),hb]) hn hc h1 h2 ih
 |struct ht hl hd hf ih=>exact .struct ht hl hd ih
 |arr ht hl hd hf ih=>exact .arr ht hl hd ih
def good:Nat->TypeId->Bool
 |0,_=>false
 |n+1,t=>match P.underlying t with
  |some .bool|some (.int _)|some .string=>P.cellsOf t==1
  |some (.slice e)=>P.cellsOf t==1&&decide (0<P.cellsOf e)&&good n e
  |some (.struct fs)=>fs.toList.all (λf=>good n f.type)&&(fs.toList.map (λf=>P.cellsOf f.type)).sum==P.cellsOf t&&(List.range fs.size).all λj=>((fs.toList.map (λf=>P.cellsOf f.type)).take j).sum==((fs[j]?).map (·.offset)).getD 0
  |some (.array m e)=>P.cellsOf t==m*P.cellsOf e&&good n e
  |_=>false
def cut{α:Type}:List Nat->List α->List (List α)
 |[],_=>[]
 |n::ns,l=>l.take n::cut ns (l.drop n)
variable{P}{w:World}
variable{I:H->Prop}
def Jo(h:H)(z:Nat)(v:V)(n:Nat)(Q:Nat->List V->Prop):Prop :=
 n<=maxLen/\((v=.ZO/\n=0)\/∃b cap,v=.sl b 0 n (.ex cap)/\n<=cap/\cap<=maxLen/\(n=0\/∃c,∃ty:TypeId×Bool,h.get b=some (.cells c ty.1 ty.2)/\n*z<=c.length/\∀j,j<n->Q j ((c.drop (j*z)).take z)))
section sl
variable{h h':H}{z n:Nat}{v:V}{Q:Nat->List V->Prop}
theorem Jo.ext(a:Jo h z v n Q)(x:Ext h h'):Jo h' z v n Q:=by
 obtain⟨h0,a⟩:=a;refine⟨h0,?_⟩;rcases a with a|⟨b,cap,h1,h2,h3,a⟩
 .exact .inl a
 .refine .inr ⟨b,cap,h1,h2,h3,?_⟩
  rcases a with a|⟨c,ty,h4,h5⟩
  .exact .inl a
  .exact .inr ⟨c,ty,by rw[x.get b (H.ZW h4),h4],h5⟩
theorem Jo.imp(a:Jo h z v n Q){R:Nat->List V->Prop}(hq:∀j p,j<n->p.length=z->Q j p->R j p):Jo h z v n R:=by
 obtain⟨h0,a⟩:=a;refine⟨h0,?_⟩;rcases a with a|⟨b,cap,h1,h2,h3,a⟩
 .exact .inl a
 .refine .inr ⟨b,cap,h1,h2,h3,?_⟩
  rcases a with a|⟨c,ty,h4,h5,h6⟩
  .exact .inl a
  .refine .inr ⟨c,ty,h4,h5,λj hj=>hq j _ hj ?_ (h6 j hj)⟩
   have:(j+1)*z<=n*z:=Nat.mul_le_mul_right z hj;rw[Nat.succ_mul]at this;simp;omega
theorem Jo.len(a:Jo h z v n Q):Kc v=some (.int .i64 n):=by
 obtain⟨h0,⟨rfl,rfl⟩|⟨b,cap,rfl,_⟩⟩:=a<;>rfl
theorem Jo.cell(a:Jo h z v n Q):v.Zr=true:=by
 obtain⟨h0,⟨rfl,rfl⟩|⟨b,cap,rfl,_⟩⟩:=a<;>rfl
theorem Jo.cells(a:Jo h z v n Q):V.cells v=some [v]:=by
 obtain⟨h0,⟨rfl,rfl⟩|⟨b,cap,rfl,_⟩⟩:=a<;>rfl
theorem Jo.same(a:Jo h z v n Q):V.same v v=true:=by
 obtain⟨h0,⟨rfl,rfl⟩|⟨b,cap,rfl,_⟩⟩:=a
 .rfl
 .simp[V.same]
theorem Jo.at(a:Jo h z v n Q){j:Nat}(hj:j<n):∃b o p,PY z v (.int .i64 j)=some (.ptr b o)/\h.Ze b o z=some p/\Q j p/\b<h.n/\(∀k x,p[k]?=some x->h.Zp b (o+k)=some x):=by
 obtain⟨h0,⟨rfl,rfl⟩|⟨b,cap,rfl,h2,h3,a⟩⟩:=a
 .omega
 .rcases a with rfl|⟨c,ty,h4,h5,h6⟩
  .omega
  .have hl:j*z+z<=c.length:=by
    have:(j+1)*z<=n*z:=Nat.mul_le_mul_right z hj;rw[Nat.succ_mul]at this;omega
   refine⟨b,j*z,_,by simp[hj],by rw[ZU h4 hl],h6 j hj,H.ZW h4,λk x hk=>?_⟩;rw[List.getElem?_take]at hk;split at hk
   .rw[ZZ h4,<-hk,List.getElem?_drop]
   .cases hk
theorem Jo.take(a:Jo h z v n Q){m:Nat}(hm:m<=n):∃y,Ce z v none (some (.int .i64 m)) none=some y/\Jo h z y m Q:=by
 obtain⟨h0,⟨rfl,rfl⟩|⟨b,cap,rfl,h2,h3,a⟩⟩:=a
 .have:m=0:=by omega
  subst this;exact⟨.ZO,rfl,Nat.zero_le _,.inl ⟨rfl,rfl⟩⟩
 .refine⟨.sl b 0 m (.ex cap),by simp[Ce,Up,XK,show (m:Int)<=cap by omega,show m<=cap by omega],by omega,.inr ⟨b,cap,rfl,by omega,h3,?_⟩⟩
  rcases a with rfl|⟨c,ty,h4,h5,h6⟩
  .exact .inl (by omega)
  .have:m*z<=n*z:=Nat.mul_le_mul_right z hm
   exact .inr ⟨c,ty,h4,by omega,λj hj=>h6 j (by omega)⟩
end sl
end
end Go.Zf
