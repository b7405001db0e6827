import Derived.Test.YtbkmdnmncaakdaaGreatPfZTool
import Derived.Test.YtbkmdnmncaakdaaGreatPfZArg
import Derived.SizedLaws
import Derived.RowKit
set_option linter.unusedVariables false
set_option linter.unusedSimpArgs false
namespace Go.Zf
open Go.ChangeShapes Go.WideShapes Go.Deep
def ZG(l:List Nat):List V:=l.map λx=>.int .u8 (x:Nat)
theorem Vz(l:List Nat):(ZG l).length=l.length:=by simp[ZG]
theorem Kz(l m:List Nat):ZG (l++m)=ZG l++ZG m:=by simp[ZG]
theorem D9(l:List Nat)(i:Nat)(h:i<l.length):(ZG l)[i]?=some (.int .u8 (l.getD i 0:Nat)):=by simp[ZG,h]
structure Qa(h:H)(v:V)(l:List Nat):Prop where
 len:Kc v=some (.int .i64 l.length)
 lt:∀i:Nat,i<l.length->l.getD i 0<256
 at_:∀i:Nat,i<l.length->∃b o,PY 1 v (.int .i64 i)=some (.ptr b o)/\h.Zp b o=some (.int .u8 (l.getD i 0:Nat))/\b<h.n
 cell:v.Zr=true
 cells:V.cells v=some [v]
 same:V.same v v=true
 ln:lenOf v=some l.length
 first:XY h 1 l.length v=some (ZG l)
variable{h h':H}{b o n:Nat}
theorem Di(x:Ext h h'){l:List V}(e:h.Ze b o n=some l):h'.Ze b o n=some l:=by
 unfold H.Ze at e ⊢;cases hb:h.get b with
 |none=>rw[hb]at e;cases e
 |some k=>rw[x.get b (H.ZW hb),hb];rw[hb]at e;exact e
variable{v:V}{z:Nat}
theorem D8(x:Ext h h'){l:List V}(e:XY h z n v=some l):XY h' z n v=some l:=by
 unfold XY at e ⊢;split at e
 .exact e
 .exact Di x e
 .exact e
 .cases e
variable{l:List Nat}
theorem Qa.ext(a:Qa h v l)(x:Ext h h'):Qa h' v l :=
 ⟨a.len,a.lt,λi hi=>by
   obtain⟨b,o,h1,h2,h3⟩:=a.at_ i hi;exact⟨b,o,h1,by rw[<-h2];unfold H.Zp;rw[x.get b h3],Nat.lt_of_lt_of_le h3 x.n⟩,a.cell,a.cells,a.same,a.ln,D8 x a.first⟩
theorem Qa.Zx(a:Qa h v l)(g:H)(b o:Nat):Zx 1 g (.ptr b o) v=(g.WO b o v).bind λh'=>some (.Wz,h'):=Io g b o v a.cell
theorem Qa.nil(h:H):Qa h .ZO []:=⟨rfl,λi hi=>by simp at hi,λi hi=>by simp at hi,rfl,rfl,rfl,rfl,rfl⟩
variable{k:J5}
theorem Qa.of{t:TypeId}{ro:Bool}(hb:h.get b=some (.cells (ZG l) t ro))(hl:∀i:Nat,i<l.length->l.getD i 0<256):Qa h (.sl b 0 l.length k) l :=
 ⟨rfl,hl,λi hi=>⟨b,i,by simp[hi],by rw[ZZ hb,D9 l i hi],H.ZW hb⟩,rfl,rfl,by simp[V.same],rfl,by
  unfold XY;simp only[Nat.mul_one];rw[ZU hb (by rw[Vz];omega)];simp[List.take_of_length_le,Vz]⟩
def O7(p:Nat)(v:V):Prop:=∀c o n k,v=.sl c o n k->p<=c
theorem O7.ZO(p:Nat):O7 p .ZO:=λc o n k e=>by cases e
variable{p:Nat}
theorem O7.sl(h:p<=b):O7 p (.sl b o n k):=λc o n k e=>by cases e;exact h
variable{c:Nat}
theorem O7.ne(a:O7 p v)(hc:c<p):∀o n k,v≠.sl c o n k:=λo n k e=>by have:=a _ _ _ _ e;omega
theorem Dl{s:Nat}{i:V}(h:PY s v i=some (.ptr b o)):∃o' n k,v=.sl b o' n k:=by
 unfold PY at h;split at h
 .split at h
  .cases h;exact⟨_,_,_,rfl⟩
  .cases h
 .cases h
theorem Qa.put(a:Qa h v l)(y:WI)(hc:∀o n k,v≠.sl c o n k):Qa (h.put c y) v l :=
 ⟨a.len,a.lt,λi hi=>by
  obtain⟨b,o,h1,h2,h3⟩:=a.at_ i hi;obtain⟨o',n,k,e⟩:=Dl h1;exact⟨b,o,h1,by rw[<-h2];unfold H.Zp;rw[ZX (by rintro rfl;exact hc _ _ _ e)],h3⟩,a.cell,a.cells,a.same,a.ln,by
  have:=a.first
  unfold XY at this ⊢;split at this
  .exact this
  .rename_i b o n k
   unfold H.Ze at this ⊢;rw[ZX (by rintro rfl;exact hc _ _ _ rfl)];exact this
  .exact this
  .cases this⟩
def Zv(p:Nat)(h:H)(v:V)(t z:Nat)(cs:List V)(n:Nat):Prop :=
 (v=.ZO/\n=0/\cs=[])\/∃b,v=.sl b 0 n (.op z)/\h.get b=some (.cells cs t false)/\cs.length=n*z/\p<=b
theorem Zv.nil(p:Nat)(h:H)(t z:Nat):Zv p h .ZO t z [] 0:=.inl ⟨rfl,rfl,rfl⟩
variable{t:Nat}{cs:List V}
theorem Zv.ext(a:Zv p h v t z cs n)(x:Ext h h'):Zv p h' v t z cs n:=by
 rcases a with a|⟨b,h1,h2,h3,h4⟩
 .exact .inl a
 .exact .inr ⟨b,h1,by rw[x.get b (H.ZW h2),h2],h3,h4⟩
theorem Zv.put(a:Zv p h v t z cs n){y:WI}(hc:∀o n k,v≠.sl c o n k):Zv p (h.put c y) v t z cs n:=by
 rcases a with a|⟨b,h1,h2,h3,h4⟩
 .exact .inl a
 .exact .inr ⟨b,h1,by rw[ZX (by rintro rfl;exact hc _ _ _ h1),h2],h3,h4⟩
theorem Zv.len(a:Zv p h v t z cs n):Kc v=some (.int .i64 n):=by
 rcases a with ⟨rfl,rfl,_⟩|⟨b,rfl,_⟩<;>simp
theorem Zv.cell(a:Zv p h v t z cs n):v.Zr=true:=by
 rcases a with ⟨rfl,rfl,_⟩|⟨b,rfl,_⟩<;>rfl
theorem Zv.same(a:Zv p h v t z cs n):V.same v v=true:=by
 rcases a with ⟨rfl,rfl,_⟩|⟨b,rfl,_⟩<;>simp[V.same]
theorem Zv.cells(a:Zv p h v t z cs n):V.cells v=some [v]:=by
 rcases a with ⟨rfl,rfl,_⟩|⟨b,rfl,_⟩<;>rfl
theorem Zv.Zx(a:Zv p h v t z cs n)(g:H)(b o:Nat):Zx 1 g (.ptr b o) v=(g.WO b o v).bind λh'=>some (.Wz,h'):=Io g b o v a.cell
theorem Zv.by(a:Zv p h v t 1 (ZG l) n)(hl:∀i:Nat,i<l.length->l.getD i 0<256):Qa h v l:=by
 rcases a with ⟨rfl,rfl,h3⟩|⟨b,rfl,h2,h3,_⟩
 .have:l=[]:=by cases l with
   |nil=>rfl
   |cons x l=>simp[ZG]at h3
  subst this;exact Qa.nil h
 .rw[Vz,Nat.mul_one]at h3;subst h3;exact Qa.of h2 hl
theorem Zv.fresh(a:Zv p h v t z cs n):O7 p v:=by
 rcases a with ⟨rfl,_⟩|⟨b,rfl,_,_,hb⟩
 .exact O7.ZO _
 .exact O7.sl hb
theorem Zv.under(a:Zv p h v t z cs n):∀c o m k,v=.sl c o m k->c<h.n:=by
 rcases a with ⟨rfl,_⟩|⟨b,rfl,hb,_,_⟩
 .intro c o m k e;cases e
 .intro c o m k e;cases e;exact H.ZW hb
theorem Zv.keep(a:Zv p h v t z cs n)(hk:∀c o m k,v=.sl c o m k->h'.get c=h.get c):Zv p h' v t z cs n:=by
 rcases a with a|⟨b,h1,h2,h3,h4⟩
 .exact .inl a
 .exact .inr ⟨b,h1,by rw[hk _ _ _ _ h1,h2],h3,h4⟩
variable{e:Nat}
theorem Vq{bytes:Nat}{y:V}{new:List V}{m:Nat}(g:Zv p h v e z cs n)(hp:p<=h.n)(hl:lenOf y=some m)(hf:XY h z m y=some new)(hn:new.length=m*z)(hb:(n+m)*bytes<=140737488355328):
  ∃v' h',Vk e z bytes h v y=some (v',h')/\Zv p h' v' e z (cs++new) (n+m)/\h.n<=h'.n/\(∀c,c<h.n->(∀o n k,v≠.sl c o n k)->h'.get c=h.get c)/\((v'=v/\h'=h)\/∀c o n k,v'=.sl c o n k->h.n<=c):=by
 rcases g with ⟨rfl,rfl,rfl⟩|⟨b,rfl,h2,h3,h4⟩
 .by_cases hm:m=0
  .subst hm
   have:new=[]:=by cases new with
    |nil=>rfl
    |cons x l=>simp at hn
   subst this;exact⟨.ZO,h,by simp[Vk,hl,hf,Iu],.inl ⟨rfl,rfl,rfl⟩,Nat.le_refl _,λ_ _ _=>rfl,.inl ⟨rfl,rfl⟩⟩
  .have RG:m*bytes<=140737488355328:=by simpa using hb
   refine⟨.sl h.n 0 m (.op z),h.new (.cells new e false),by simp[Vk,hl,hf,Iu,hm,RG],.inr ⟨h.n,by simp,by rw[ZY];simp,by simpa using hn,hp⟩,by rw[H.ZP];omega,λc hc _=>ZR hc,.inr λc o n k e=>by cases e;exact Nat.le_refl _⟩
 .have HE:=H.ZW h2
  by_cases hm:m=0
  .subst hm
   have:new=[]:=by cases new with
    |nil=>rfl
    |cons x l=>simp at hn
   subst this;exact⟨.sl b 0 n (.op z),h,by simp[Vk,hl,hf,Iu],.inr ⟨b,by simp,by simpa using h2,by simpa using h3,h4⟩,Nat.le_refl _,λ_ _ _=>rfl,.inl ⟨rfl,rfl⟩⟩
  .refine⟨.sl h.n 0 (n+m) (.op z),(h.put b .dead).new (.cells (cs++new) e false),?_,.inr ⟨h.n,rfl,QA (by rw[H.ZJ]),by rw[List.length_append,h3,hn,Nat.add_mul],hp⟩,by rw[H.ZP,H.ZJ];omega,λc hc hv=>?_,.inr λc o n k e=>by cases e;exact Nat.le_refl _⟩
   .simp[Vk,hl,hf,Iu,hm,hb,h2,h3,List.take_of_length_le]
   .rw[ZR (by rw[H.ZJ];exact hc),ZX (by rintro rfl;exact hv _ _ _ rfl)]
theorem eG{bytes:Nat}(x:V)(g:Zv p h v e 1 cs n)(hp:p<=h.n)(hb:(n+1)*bytes<=140737488355328):
  ∃v' h',Vk e 1 bytes (h.new (.cells [x] e false)) v (.sl h.n 0 1 (.ex 1))=some (v',h')/\Zv p h' v' e 1 (cs++[x]) (n+1)/\h.n<=h'.n/\(∀c,c<h.n->(∀o n k,v≠.sl c o n k)->h'.get c=h.get c):=by
 have g1:=g.ext ((Ext.refl h).new (.cells [x] e false));obtain⟨v',h',k1,k2,k3,k4,k5⟩:=Vq (y:=.sl h.n 0 1 (.ex 1)) (m:=1) (new:=[x]) (bytes:=bytes) g1 (by rw[H.ZP];omega) rfl (by
  unfold XY;simp only[Nat.mul_one];rw[ZU ZY (by simp)];rfl) (by simp) hb
 exact⟨v',h',k1,k2,by rw[H.ZP]at k3;omega,λc hc hv=>by rw[k4 c (by rw[H.ZP];omega) hv,ZR hc]⟩
def CZ(l:List Int):List V:=l.map λx=>.int .i64 x
theorem Be(l:List Int)(i:Nat)(h:i<l.length):(CZ l)[i]?=some (.int .i64 (l.getD i 0)):=by simp[CZ,h]
theorem Zv.at(a:Zv p h v t 1 cs n){i:Nat}(hi:i<n){x:V}(hx:cs[i]?=some x):∃b o,PY 1 v (.int .i64 i)=some (.ptr b o)/\h.Zp b o=some x/\b<h.n:=by
 rcases a with ⟨rfl,rfl,_⟩|⟨b,rfl,h2,h3,_⟩
 .omega
 .exact⟨b,i,by simp[hi],by rw[ZZ h2,hx],H.ZW h2⟩
end Go.Zf
