import Derived.Test.YtbkmdnmncaakdaaGreatPfMq
set_option linter.unusedVariables false
set_option linter.unusedSimpArgs false
set_option maxRecDepth 20000
namespace Go.Proofs.YtbkmdnmncaakdaaGreat
open Go Go.Zf
open Go.Zf (ZS)
open Go.Zf (ZS)
namespace Pr
variable{α β:Type}
inductive Rd:Pr α->Option α->List Op->Prop
 |done (a:α):Rd (.done a) (some a) []
 |stop:Rd .stop none []
 |sym {k c:Nat} {v:Int} {f:Nat->Pr α} {x:Nat} {r:Option α} {l:List Op}:Op.ok (.sym k c x)->Rd (f x) r l->Rd (.sym k c v f) r (.sym k c x::l)
 |num {n:Nat} {v:Int} {f:Nat->Pr α} {x:Nat} {r:Option α} {l:List Op}:Op.ok (.num n x)->Rd (f x) r l->Rd (.num n v f) r (.num n x::l)
theorem Rd.ok{p:Pr α}{r:Option α}{l:List Op}(a:Rd p r l):∀o∈l,o.ok:=by
 induction a with
 |done=>intro o ho;cases ho
 |stop=>intro o ho;cases ho
 |sym h _ ih=>intro o ho;rcases List.mem_cons.1 ho with rfl|ho;exact h;exact ih o ho
 |num h _ ih=>intro o ho;rcases List.mem_cons.1 ho with rfl|ho;exact h;exact ih o ho
theorem Rd.bind_some{g:α->Pr β}:∀{p:Pr α} {r:β} {l:List Op},Rd (p.bind g) (some r) l->∃a l1 l2,Rd p (some a) l1/\Rd (g a) (some r) l2/\l=l1++l2
 |.done a,r,l,h=>⟨a,[],l,.done a,h,rfl⟩
 |.stop,r,l,h=>by cases h
 |.sym k c v f,r,l,h=>by
   cases h with
   |sym ok h =>
    obtain⟨a,l1,l2,h1,h2,h3⟩:=Rd.bind_some h;exact⟨a,_,l2,.sym ok h1,h2,by rw[h3];rfl⟩
 |.num n v f,r,l,h=>by
   cases h with
   |num ok h =>
    obtain⟨a,l1,l2,h1,h2,h3⟩:=Rd.bind_some h;exact⟨a,_,l2,.num ok h1,h2,by rw[h3];rfl⟩
variable{l1:List Op}
theorem Rd.bind{g:α->Pr β}{p:Pr α}{a:α}(h:Rd p (some a) l1):∀{r:Option β} {l2:List Op},Rd (g a) r l2->Rd (p.bind g) r (l1++l2):=by
 generalize hs:some a=s at h
 induction h with
 |done b=>cases hs;intro r l2 h2;exact h2
 |stop=>cases hs
 |sym ok _ ih=>intro r l2 h2;exact .sym ok (ih hs h2)
 |num ok _ ih=>intro r l2 h2;exact .num ok (ih hs h2)
def Bd:Nat->Pr α->Prop
 |_,.done _=>True
 |_,.stop=>True
 |K,.sym k c _ f=>1<=K/\k<32/\c<cx k/\∀x,x<vl k->Bd (K-1) (f x)
 |K,.num n _ f=>n<=K/\n<31/\∀x,x<2^n->Bd (K-n) (f x)
theorem Bd.mono:∀{p:Pr α} {K L:Nat},Bd K p->K<=L->Bd L p
 |.done _,_,_,_,_=>trivial
 |.stop,_,_,_,_=>trivial
 |.sym _ _ _ _,K,L,⟨h1,h2,h3,h4⟩,h=>⟨by omega,h2,h3,λx hx=>(h4 x hx).mono (by omega)⟩
 |.num _ _ _,K,L,⟨h1,h2,h3⟩,h=>⟨by omega,h2,λx hx=>(h3 x hx).mono (by omega)⟩
theorem Bd.bind{g:α->Pr β}{L:Nat}(hg:∀a,Bd L (g a)):∀{p:Pr α} {K:Nat},Bd K p->Bd (K+L) (p.bind g)
 |.done a,K,_=>(hg a).mono (by omega)
 |.stop,_,_=>trivial
 |.sym _ _ _ _,K,⟨h1,h2,h3,h4⟩=>⟨by omega,h2,h3,λx hx=>(Bd.bind hg (h4 x hx)).mono (by omega)⟩
 |.num _ _ _,K,⟨h1,h2,h3⟩=>⟨by omega,h2,λx hx=>(Bd.bind hg (h3 x hx)).mono (by omega)⟩
structure Fit(p:α->Pr α)(p0:Pr α)(good:α->Prop):Prop where
 w:∀a,good a->∃l,(p a).PZ=(some a,l)/\Rd p0 (some a) l
 u:∀a l,Rd p0 (some a) l->good a/\(p a).PZ=(some a,l)
variable{k c:Nat}
theorem MN{v:Int}{f:Nat->Pr α}{x:Nat}{r:Option α}{l:List Op}(hv:v=(x:Nat))(h:(f x).PZ=(r,l)):(Pr.sym k c v f).PZ=(r,.sym k c x::l):=by
 subst hv;simp only[PZ,Int.toNat_natCast,h]
variable{n:Nat}
theorem ML{v:Int}{f:Nat->Pr α}{x:Nat}{r:Option α}{l:List Op}(hv:v=(x:Nat))(h:(f x).PZ=(r,l)):(Pr.num n v f).PZ=(r,.num n x::l):=by
 subst hv;simp only[PZ,Int.toNat_natCast,h]
theorem Rs{g:α->Pr β}{p:Pr α}{a:α}{l2:List Op}{r:Option β}(h1:p.PZ=(some a,l1))(h2:(g a).PZ=(r,l2)):(p.bind g).PZ=(r,l1++l2):=by rw[zH h1,h2]
end Pr
open Pr (Rd Fit MN ML Rs Bd)
abbrev Vc:=Int×Int
structure Bk where
 x:Int
 y:Int
 w:Int
 h:Int
 skip:Bool
 inter:Bool
 ym:Int
 yd:Int
 um:Int
 ud:Int
 cu:Int
 cv:Int
 tx:Int
 comp:Bool
 r0:Int
 r1:Int
 mm:Int
 m0:Vc
 m1:Vc
 fl:Int
 ob:Bool
def YC:Bk:=⟨0,0,0,0,false,false,0,0,0,0,0,0,0,false,0,0,0,(0,0),(0,0),0,false⟩
def ZD(b:Bk):Bk:=⟨b.x,b.y,b.w,b.h,false,false,0,0,0,0,0,0,0,false,0,0,0,(0,0),(0,0),0,false⟩
def Xv(n:Int):Nat:=if n<0 then 1 else if n>0 then 2 else 0
def An(b:Bk):Nat:=Nat.log2 (Xg b.w b.h).toNat
def Y5(v:Vc):Prop := -4095<=v.1/\v.1<=4095/\-4095<=v.2/\v.2<=4095
instance(v:Vc):Decidable (Y5 v):=inferInstanceAs (Decidable (_/\_))
def Y2(mode:Int)(l:Vc×Vc):Vc:=if mode=1 then l.2 else if mode=2 then (0,0)else l.1
def Sg(k c:Nat)(b:Bool):Pr Bool:=.sym k c (Yc b) λx=>.done (decide (x=1))
def JF(k c:Nat)(v:Int×Int):Pr (Int×Int) :=
 .sym k c v.1 λx=>if 1<=x/\x<=8 then .sym 5 (x-1) (v.2+3) λy=>.done ((x:Int),(y:Int)-3)else .done ((x:Int),v.2)
def Q9(s i:Nat)(v:Int):Pr Int:=if s=0 then .done 0 else .sym 9 i (imax (X3 v) 1-1) λa=>.done (if s=1 then -((a:Int)+1)else (a:Int)+1)
def Rq(v:Int×Int):Pr (Int×Int) :=
 .sym 8 0 (3*(Xv v.1:Int)+Xv v.2-1) λj=>(Q9 ((j+1)/3) 0 v.1).bind λu=>(Q9 ((j+1)%3) 1 v.2).bind λw=>.done (u,w)
def Xw(b:Bk):Nat:=if imax b.w b.h<=32 then 7 else 6
def Xd(b:Bk):Pr Bk :=
 (JF 4 (An b-3) (b.ym,b.yd)).bind λy=>(JF (Xw b) 0 (b.um,b.ud)).bind λu =>
 if u.1=13 then (Rq (b.cu,b.cv)).bind λc=>.done {b with ym:=y.1,yd:=y.2,um:=u.1,ud:=u.2,cu:=c.1,cv:=c.2}
 else .done {b with ym:=y.1,yd:=y.2,um:=u.1,ud:=u.2}
def QB(wr:Bool)(b:Bk):Int:=if wr then (Nat.log2 ((Xg b.w b.h).toNat/b.tx.toNat):Nat)else 0
def Vb(wr UB:Bool)(b:Bk):Pr Int :=
 if UB then .done 4 else if b.skip/\b.inter then .done (Xg b.w b.h)else
 .sym (if An b=3 then 10 else 11) (An b-4) (QB wr b) λd=>.done (((Xg b.w b.h).toNat/2^d:Nat):Int)
def uj(v:Int):Nat:=v.natAbs-1
def Po(c:Nat)(v:Int):Pr Int :=
 .num 1 (Yc (decide (v<0))) λbelow =>
 .sym 18 c (Nat.log2 (uj v/8+1):Nat) λcl =>
 .num cl ((uj v/8+1-2^Nat.log2 (uj v/8+1):Nat):Int) λrest =>
 .sym 19 c (uj v%8:Nat) λfr =>
 .done (if below=1 then -(((2^cl+rest-1)*8+fr:Nat):Int)-1 else (((2^cl+rest-1)*8+fr:Nat):Int)+1)
def T8(on:Bool)(c:Nat)(a v:Int):Pr Int:=if on then (Po c (v-a)).bind λd=>.done (a+d)else .done a
def Y8(mode:Int)(a v:Vc):Pr Vc :=
 if mode≠3 then .done a else
 .sym 17 0 ((if v.1≠a.1 then 1 else 0)+(if v.2≠a.2 then 2 else 0)) λj =>
 (T8 (decide (j%2=1)) 0 a.1 v.1).bind λx=>(T8 (decide (2<=j)) 1 a.2 v.2).bind λy=>if Y5 (x,y)then .done (x,y)else .stop
abbrev Vs:=Int->(Vc×Vc)×Nat
def YM(vs:Vs)(b:Bk):Pr Bk :=
 (Sg 15 0 b.comp).bind λcm=>.sym 14 0 b.r0 λr0 =>
 (if cm then Pr.sym 14 1 b.r1 λr1=>Pr.done ((r1:Nat):Int)else Pr.done b.r1).bind λr1 =>
 .sym 16 (vs (r0:Nat)).2 b.mm λmm =>
 (Y8 (mm:Nat) (Y2 (mm:Nat) (vs (r0:Nat)).1) b.m0).bind λm0 =>
 (if cm then Y8 (mm:Nat) (Y2 (mm:Nat) (vs r1).1) b.m1 else .done b.m1).bind λm1 =>
 .sym 20 0 b.fl λfl =>
 (if cm then .done b.ob else Sg 21 0 b.ob).bind λob =>
 .done {b with comp:=cm,r0:=(r0:Nat),r1:=r1,mm:=(mm:Nat),m0:=m0,m1:=m1,fl:=(fl:Nat),ob:=ob}
def TY(wr key UB:Bool)(sc ic:Nat)(vs:Vs)(b:Bk):Pr Bk :=
 (Sg 2 sc b.skip).bind λsk =>
 (if key then .done b.inter else Sg 3 ic b.inter).bind λit =>
 (if it then .done {b with skip:=sk,inter:=it}else Xd {b with skip:=sk,inter:=it}).bind λb1 =>
 (Vb wr UB b1).bind λtx =>
 if it then YM vs {b1 with tx:=tx}else .done {b1 with tx:=tx}
def X6(n:Int):Prop:=n=8\/n=16\/n=32\/n=64
def UA(n:Int):Prop:=0<=n/\n<=248/\n%8=0
def YR(b:Bk):Prop:=UA b.x/\UA b.y/\X6 b.w/\X6 b.h/\imax b.w b.h<=4*Xg b.w b.h
def VY(UB:Bool)(b:Bk):Prop :=
 if UB then b.tx=4 else if b.skip/\b.inter then b.tx=Xg b.w b.h else
 b.tx=Xg b.w b.h\/b.tx=Xg b.w b.h/2\/(Xg b.w b.h>8/\b.tx=Xg b.w b.h/4)
def XX(m d:Int):Prop:=d=0\/(1<=m/\m<=8/\-3<=d/\d<=3)
def S3(b:Bk):Prop:=if b.um=13 then ¬(b.cu=0/\b.cv=0)/\imax b.w b.h<=32/\(-16<=b.cu/\b.cu<=16)/\(-16<=b.cv/\b.cv<=16)else b.cu=0/\b.cv=0
def Xc(b:Bk):Prop :=
 (b.inter=false/\b.comp=false/\b.r0=0/\b.r1=0/\b.mm=0/\b.m0=(0,0)/\b.m1=(0,0)/\b.fl=0/\b.ob=false) /\
 (0<=b.ym/\b.ym<=12)/\(0<=b.um/\b.um<=13)/\XX b.ym b.yd/\XX b.um b.ud/\S3 b
def X9(b:Bk):Prop:=if b.comp then (0<=b.r1/\b.r1<=2)/\Y5 b.m1/\b.ob=false else b.r1=0/\b.m1=(0,0)
def XD(b:Bk):Prop :=
 (b.inter=true/\b.ym=0/\b.yd=0/\b.um=0/\b.ud=0/\b.cu=0/\b.cv=0) /\
 (0<=b.r0/\b.r0<=2)/\(0<=b.mm/\b.mm<=3)/\Y5 b.m0/\(0<=b.fl/\b.fl<=2)/\X9 b
def WE(key UB:Bool)(b:Bk):Prop:=YR b/\¬(b.inter=true/\key=true)/\VY UB b/\if b.inter then XD b else Xc b
def Yl(vs:Vs)(b:Bk):Prop:=b.inter=true->b.mm≠3->b.m0=Y2 b.mm (vs b.r0).1/\(b.comp=true->b.m1=Y2 b.mm (vs b.r1).1)
open Go.Zf (ZS)
open Pr (Rd Fit MN ML Rs)
theorem JE(v:Int):Xv v<=2/\(Xv v=0↔v=0)/\(Xv v=1↔v<0):=by
 unfold Xv;split
 . omega
 . split<;>omega
variable{b:Bk}
theorem YR.min(a:YR b):∃n,3<=n/\n<=6/\Xg b.w b.h=((2^n:Nat):Int)/\An b=n:=by
 obtain⟨_,_,h1,h2,_⟩:=a;have m:=Fw b.w b.h;unfold An;have:Xg b.w b.h=8\/Xg b.w b.h=16\/Xg b.w b.h=32\/Xg b.w b.h=64:=by unfold X6 at h1 h2;omega
 rcases this with e|e|e|e<;>rw[e]
 . exact⟨3,by decide,by decide,rfl,by decide⟩
 . exact⟨4,by decide,by decide,rfl,by decide⟩
 . exact⟨5,by decide,by decide,rfl,by decide⟩
 . exact⟨6,by decide,by decide,rfl,by decide⟩
open Go.Zf (ZS)
open Pr (Rd Fit MN ML Rs Bd)
theorem Rd.eq{α:Type}{a b:α}(h:a=b):Rd (.done a) (some b) []:=h▸.done a
theorem YR.lg(a:YR b):3<=An b/\An b<=6:=by
 obtain⟨n,h1,h2,_,h3⟩:=a.min;omega
def Bj(vs:Vs):Prop:=∀r,0<=r->r<=2->Y5 (vs r).1.1/\Y5 (vs r).1.2/\(vs r).2<=2
theorem Bj.said{vs:Vs}(a:Bj vs)(m:Int){r:Int}(h0:0<=r)(h2:r<=2):Y5 (Y2 m (vs r).1):=by
 obtain⟨h1,h2,_⟩:=a r h0 h2;unfold Y2;split
 . exact h2
 . split
   .decide
   .exact h1
open Go.Zf (ZS)
theorem TF:∀(n:Nat) (t:T) (k:Nat) (x y:WI),T.put n (T.put n t k x) k y=T.put n t k y
 |0,t,k,x,y=>rfl
 |n+1,.lf,k,x,y=>by
   simp only[T.put];by_cases k0:k=0
   .simp only[k0,if_true,T.put]
   .simp only[if_neg k0]
    by_cases k1:k%2=1
    .simp only[if_pos k1,T.put,if_neg k0,TF n]
    .simp only[if_neg k1,T.put,if_neg k0,TF n]
 |n+1,.nd l v r,k,x,y=>by
   simp only[T.put];by_cases k0:k=0
   .simp only[k0,if_true,T.put]
   .simp only[if_neg k0]
    by_cases k1:k%2=1
    .simp only[if_pos k1,T.put,if_neg k0,TF n]
    .simp only[if_neg k1,T.put,if_neg k0,TF n]
theorem MK(h:H)(x y:WI):(h.new x).put h.n y=h.new y:=by
 simp only[H.put,H.new,TF]
@[simp] theorem YO(h:H)(z l:List V)(t:TypeId)(e:l.length=z.length):(h.new (.cells z t false)).X4 h.n 0 l=some (h.new (.cells l t false)):=by
 rw[ZF ZY (by omega),MK];have:splice z 0 l=l:=by simp[splice,e]
 rw[this]
@[simp] theorem PE(h:H)(z:List V)(o:Nat)(v:V)(t:TypeId)(e:o<z.length):(h.new (.cells z t false)).WO h.n o v=some (h.new (.cells (z.set o v) t false)):=by
 rw[Zw ZY e,MK]
@[simp] theorem rW(h:H)(z:List V)(o:Nat)(t:TypeId)(ro:Bool):(h.new (.cells z t ro)).Zp h.n o=z[o]?:=ZZ ZY
@[simp] theorem VZ(h:H)(z:List V)(o n:Nat)(t:TypeId)(ro:Bool)(e:o+n<=z.length):(h.new (.cells z t ro)).Ze h.n o n=some ((z.drop o).take n):=ZU ZY e
def Bk.cs(b:Bk):List V :=
 [.int .i64 b.x,.int .i64 b.y,.int .i64 b.w,.int .i64 b.h,.bool b.skip,.bool b.inter,.int .i64 b.ym,.int .i64 b.yd,.int .i64 b.um,.int .i64 b.ud,.int .i64 b.cu,.int .i64 b.cv,.int .i64 b.tx,.bool b.comp,
  .int .i64 b.r0,.int .i64 b.r1,.int .i64 b.mm,.int .i64 b.m0.1,.int .i64 b.m0.2,.int .i64 b.m1.1,.int .i64 b.m1.2,.int .i64 b.fl,.bool b.ob]
abbrev Bk.v(b:Bk):V:=.agg b.cs
theorem zcs:([.int .i64 0,.int .i64 0,.int .i64 0,.int .i64 0,.bool false,.bool false,.int .i64 0,.int .i64 0,.int .i64 0,.int .i64 0,.int .i64 0,.int .i64 0,.int .i64 0,.bool false,.int .i64 0,.int .i64 0,.int .i64 0,.int .i64 0,.int .i64 0,.int .i64 0,.int .i64 0,.int .i64 0,.bool false]:List V)=YC.cs:=rfl
attribute [simp] zcs
@[simp] theorem EC(b:Bk):b.cs.length=23:=id rfl
@[simp] theorem cs0(b:Bk):b.cs[0]?=some (.int .i64 b.x):=id rfl
@[simp] theorem cs1(b:Bk):b.cs[1]?=some (.int .i64 b.y):=id rfl
@[simp] theorem cs2(b:Bk):b.cs[2]?=some (.int .i64 b.w):=id rfl
@[simp] theorem cs3(b:Bk):b.cs[3]?=some (.int .i64 b.h):=id rfl
@[simp] theorem cs4(b:Bk):b.cs[4]?=some (.bool b.skip):=id rfl
@[simp] theorem cs5(b:Bk):b.cs[5]?=some (.bool b.inter):=id rfl
@[simp] theorem cs6(b:Bk):b.cs[6]?=some (.int .i64 b.ym):=id rfl
@[simp] theorem cs7(b:Bk):b.cs[7]?=some (.int .i64 b.yd):=id rfl
@[simp] theorem cs8(b:Bk):b.cs[8]?=some (.int .i64 b.um):=id rfl
@[simp] theorem cs9(b:Bk):b.cs[9]?=some (.int .i64 b.ud):=id rfl
@[simp] theorem xqv(b:Bk):b.cs[10]?=some (.int .i64 b.cu):=id rfl
@[simp] theorem xqu(b:Bk):b.cs[11]?=some (.int .i64 b.cv):=id rfl
@[simp] theorem xqt(b:Bk):b.cs[12]?=some (.int .i64 b.tx):=id rfl
@[simp] theorem xqs(b:Bk):b.cs[13]?=some (.bool b.comp):=id rfl
@[simp] theorem xqr(b:Bk):b.cs[14]?=some (.int .i64 b.r0):=id rfl
@[simp] theorem xqq(b:Bk):b.cs[15]?=some (.int .i64 b.r1):=id rfl
@[simp] theorem xqp(b:Bk):b.cs[16]?=some (.int .i64 b.mm):=id rfl
@[simp] theorem xqo(b:Bk):b.cs[17]?=some (.int .i64 b.m0.1):=id rfl
@[simp] theorem xqn(b:Bk):b.cs[18]?=some (.int .i64 b.m0.2):=id rfl
@[simp] theorem xqm(b:Bk):b.cs[19]?=some (.int .i64 b.m1.1):=id rfl
@[simp] theorem xql(b:Bk):b.cs[20]?=some (.int .i64 b.m1.2):=id rfl
@[simp] theorem xqk(b:Bk):b.cs[21]?=some (.int .i64 b.fl):=id rfl
@[simp] theorem xqj(b:Bk):b.cs[22]?=some (.bool b.ob):=id rfl
@[simp] theorem cg0(b:Bk)(h:0<b.cs.length):b.cs[0]'h=.int .i64 b.x:=id rfl
@[simp] theorem cg1(b:Bk)(h:1<b.cs.length):b.cs[1]'h=.int .i64 b.y:=id rfl
@[simp] theorem cg2(b:Bk)(h:2<b.cs.length):b.cs[2]'h=.int .i64 b.w:=id rfl
@[simp] theorem cg3(b:Bk)(h:3<b.cs.length):b.cs[3]'h=.int .i64 b.h:=id rfl
@[simp] theorem cg4(b:Bk)(h:4<b.cs.length):b.cs[4]'h=.bool b.skip:=id rfl
@[simp] theorem cg5(b:Bk)(h:5<b.cs.length):b.cs[5]'h=.bool b.inter:=id rfl
@[simp] theorem cg6(b:Bk)(h:6<b.cs.length):b.cs[6]'h=.int .i64 b.ym:=id rfl
@[simp] theorem cg7(b:Bk)(h:7<b.cs.length):b.cs[7]'h=.int .i64 b.yd:=id rfl
@[simp] theorem cg8(b:Bk)(h:8<b.cs.length):b.cs[8]'h=.int .i64 b.um:=id rfl
@[simp] theorem cg9(b:Bk)(h:9<b.cs.length):b.cs[9]'h=.int .i64 b.ud:=id rfl
@[simp] theorem xqi(b:Bk)(h:10<b.cs.length):b.cs[10]'h=.int .i64 b.cu:=id rfl
@[simp] theorem xqh(b:Bk)(h:11<b.cs.length):b.cs[11]'h=.int .i64 b.cv:=id rfl
@[simp] theorem xqg(b:Bk)(h:12<b.cs.length):b.cs[12]'h=.int .i64 b.tx:=id rfl
@[simp] theorem xqf(b:Bk)(h:13<b.cs.length):b.cs[13]'h=.bool b.comp:=id rfl
@[simp] theorem xqe(b:Bk)(h:14<b.cs.length):b.cs[14]'h=.int .i64 b.r0:=id rfl
@[simp] theorem xqd(b:Bk)(h:15<b.cs.length):b.cs[15]'h=.int .i64 b.r1:=id rfl
@[simp] theorem xqc(b:Bk)(h:16<b.cs.length):b.cs[16]'h=.int .i64 b.mm:=id rfl
@[simp] theorem xqb(b:Bk)(h:17<b.cs.length):b.cs[17]'h=.int .i64 b.m0.1:=id rfl
@[simp] theorem xqa(b:Bk)(h:18<b.cs.length):b.cs[18]'h=.int .i64 b.m0.2:=id rfl
@[simp] theorem wq9(b:Bk)(h:19<b.cs.length):b.cs[19]'h=.int .i64 b.m1.1:=id rfl
@[simp] theorem wq8(b:Bk)(h:20<b.cs.length):b.cs[20]'h=.int .i64 b.m1.2:=id rfl
@[simp] theorem wq7(b:Bk)(h:21<b.cs.length):b.cs[21]'h=.int .i64 b.fl:=id rfl
@[simp] theorem wq6(b:Bk)(h:22<b.cs.length):b.cs[22]'h=.bool b.ob:=id rfl
@[simp] theorem kqK(b:Bk):(b.cs.drop 0).take 23=b.cs:=id rfl
@[simp] theorem Bqu(b:Bk):b.cs.take 23=b.cs:=id rfl
@[simp] theorem xq3(b:Bk):(b.cs.drop 17).take 2=[.int .i64 b.m0.1,.int .i64 b.m0.2]:=id rfl
@[simp] theorem xq2(b:Bk):(b.cs.drop 19).take 2=[.int .i64 b.m1.1,.int .i64 b.m1.2]:=id rfl
theorem xt{a:Bk}(h:WX a.cs b.cs=true):a=b:=by
 cases a;cases b;simp only[Bk.cs,WX,ui,Bool.and_eq_true,beq_iff_eq,and_true]at h;obtain⟨h0,h1,h2,h3,h4,h5,h6,h7,h8,h9,IE,BQ,IC,Gw,mC,xr,HB,h17,h18,h19,h20,h21,h22⟩:=h;simp only[Bk.mk.injEq];exact⟨h0,h1,h2,h3,h4,h5,h6,h7,h8,h9,IE,BQ,IC,Gw,mC,xr,HB,Prod.ext h17 h18,Prod.ext h19 h20,h21,h22⟩
theorem Da(a:Bk):WX a.cs a.cs=true:=by simp[Bk.cs,WX,ui]
instance:DecidableEq Bk:=λa b=>decidable_of_iff (WX a.cs b.cs=true) ⟨xt,λh=>h▸Da a⟩
abbrev bkL:List Lf:=[.i .i64,.i .i64,.i .i64,.i .i64,.b,.b,.i .i64,.i .i64,.i .i64,.i .i64,.i .i64,.i .i64,.i .i64,.b,.i .i64,.i .i64,.i .i64,.i .i64,.i .i64,.i .i64,.i .i64,.i .i64,.b]
theorem pT(b:Bk):Yr bkL b.cs=true:=rfl
@[simp] theorem cV(a b:Bk):VO bkL .eql (.agg a.cs) (.agg b.cs)=some (.bool (decide (a=b))):=by
 have:WX a.cs b.cs=decide (a=b):=by
   by_cases h:a=b
   .subst h;simp[Da]
   .have:WX a.cs b.cs=false:=by
     cases e:WX a.cs b.cs with
     |false=>rfl
     |true=>exact (h (xt e)).elim
    simp[this,h]
 simp only[VO,pT,Bool.and_self,if_true,this]
@[simp] theorem xq1(a b:Bk):VO bkL .neq (.agg a.cs) (.agg b.cs)=some (.bool (!decide (a=b))):=by
 have:=cV a b;simp only[VO,pT,Bool.and_self,if_true,Option.some.injEq,V.bool.injEq]at this ⊢;rw[this]
@[simp] theorem kqJ(a b c d:Int):VO [.i .i64,.i .i64] .eql (.agg [.int .i64 a,.int .i64 b]) (.agg [.int .i64 c,.int .i64 d])=some (.bool (decide ((a,b)=(c,d)))):=by
 simp[VO,Yr,Ky,WX,ui];rfl
@[simp] theorem kqI(a b c d:Int):VO [.i .i64,.i .i64] .neq (.agg [.int .i64 a,.int .i64 b]) (.agg [.int .i64 c,.int .i64 d])=some (.bool (!decide ((a,b)=(c,d)))):=by
 simp[VO,Yr,Ky,WX,ui];rfl
@[simp] theorem kqH{β:Type}(a b:Int)(x:Option β):ck (some (.agg [.int .i64 a,.int .i64 b])) (.agg [.int .i64 a,.int .i64 b]) x=x:=by simp[ck,V.same,V.Xm]
@[simp] theorem xq0{β:Type}(b:Bk)(x:Option β):ck (some (.agg b.cs)) (.agg b.cs) x=x:=Kk _ rfl (by simp[Bk.cs,V.same,V.Xm])
@[simp] theorem Bqt(z:List V):bl z []=some (.agg z):=id rfl
theorem mB{β:Type}(b:Nat)(x:Option β):ck (some (.map b)) (.map b) x=x:=by simp[ck,V.same]
attribute [simp] mB
@[simp] theorem wq5{β:Type}(x:Option β):ck (some (.Zt [])) (.Zt []) x=x:=id rfl
@[simp] theorem xqZ(want:Bool)(x:Option V):gl (.Zt []) want x=some (.Zt []):=id rfl
@[simp] theorem xqY(want:Bool)(h:H)(x:Option (Rv×H)):gk (.Zt []) want h x=some (.ret (.Zt []),h):=id rfl
theorem mA(h:H)(b o:Nat):KP Tryz.prog 125 h (.ptr b o)=XM 2 h (.ptr b o):=by
 have h1:Ve Tryz.prog 125=some true:=by kernel_rfl
 have h2:S8 Tryz.prog 125=some 2:=by kernel_rfl
 simp[KP,h1,h2,XM]
attribute [simp] mA
theorem mz(h:H)(b o:Nat):KP Tryz.prog 39 h (.ptr b o)=XM 2 h (.ptr b o):=by
 have h1:Ve Tryz.prog 39=some true:=by kernel_rfl
 have h2:S8 Tryz.prog 39=some 2:=by kernel_rfl
 simp[KP,h1,h2,XM]
theorem mu(h:H)(b o:Nat):KP Tryz.prog 36 h (.ptr b o)=XM 4 h (.ptr b o):=by
 have h1:Ve Tryz.prog 36=some true:=by kernel_rfl
 have h2:S8 Tryz.prog 36=some 4:=by kernel_rfl
 simp[KP,h1,h2,XM]
theorem mr(h:H)(b o:Nat):KP Tryz.prog 40 h (.ptr b o)=XM 4 h (.ptr b o):=by
 have h1:Ve Tryz.prog 40=some true:=by kernel_rfl
 have h2:S8 Tryz.prog 40=some 4:=by kernel_rfl
 simp[KP,h1,h2,XM]
theorem mq(h:H)(b o:Nat):KP Tryz.prog 42 h (.ptr b o)=XM 23 h (.ptr b o):=by
 have h1:Ve Tryz.prog 42=some true:=by kernel_rfl
 have h2:S8 Tryz.prog 42=some 23:=by kernel_rfl
 simp[KP,h1,h2,XM]
attribute [simp] mz mu mr mq
@[simp] theorem bl2(x y:V)(a b:Int):bl [x,y] [(some (0,1),.int .i64 a),(some (1,1),.int .i64 b)]=some (.agg [.int .i64 a,.int .i64 b]):=id rfl
@[simp] theorem bl4(x y z w:V)(a b c d:Int):bl [x,y,z,w] [(some (0,2),.agg [.int .i64 a,.int .i64 b]),(some (2,2),.agg [.int .i64 c,.int .i64 d])]=some (.agg [.int .i64 a,.int .i64 b,.int .i64 c,.int .i64 d]):=id rfl
@[simp] theorem bl8(z0 z1 z2 z3 z4 z5 z6 z7:V)(a b c d a' b' c' d':Int):bl [z0,z1,z2,z3,z4,z5,z6,z7] [(some (0,2),.agg [.int .i64 a,.int .i64 b]),(some (2,2),.agg [.int .i64 c,.int .i64 d]),(some (4,2),.agg [.int .i64 a',.int .i64 b']),(some (6,2),.agg [.int .i64 c',.int .i64 d'])]=some (.agg [.int .i64 a,.int .i64 b,.int .i64 c,.int .i64 d,.int .i64 a',.int .i64 b',.int .i64 c',.int .i64 d']):=id rfl
structure Gr where
 bs:List Bk
 cs:List ((Int×Int)×Nat)
def Vd(x y:Int):Prop:=0<=x/\x<64/\0<=y/\y<64
instance(x y:Int):Decidable (Vd x y):=inferInstanceAs (Decidable (_/\_))
def XW(k:Int×Int):List ((Int×Int)×Nat)->Option Nat
 |[]=>none
 |(a,n)::r=>if k=a then some n else XW k r
def Gr.at(G:Gr)(x y:Int):Option Bk:=if Vd x y then (XW (x/8,y/8) G.cs).bind λn=>G.bs[n]? else none
def Gv(e:(Int×Int)×Nat):V×V:=(.agg [.int .i64 e.1.1,.int .i64 e.1.2],.int .i64 (e.2:Nat))
structure I7(G:Gr):Prop where
 lt:∀e∈G.cs,e.2<G.bs.length
 vec:∀b∈G.bs,Y5 b.m0/\Y5 b.m1
 len:G.bs.length<=100000
variable{n:Nat}
theorem Rp{k:Int×Int}:∀{l:List ((Int×Int)×Nat)},XW k l=some n->(k,n)∈l
 |[],h=>by cases h
 |(a,m)::r,h=>by
   unfold XW at h;by_cases e:k=a
   .rw[if_pos e]at h;cases h;subst e;exact List.mem_cons_self ..
   .rw[if_neg e]at h;exact List.mem_cons_of_mem _ (Rp h)
theorem Ok(x y:Int):∀(l:List ((Int×Int)×Nat)) (i:Nat),∃j,NG [.i .i64,.i .i64] [.int .i64 x,.int .i64 y] (l.map Gv) i=some ((XW (x,y) l).map λn=>(j,.int .i64 (n:Nat)))
 |[],i=>⟨0,rfl⟩
 |((a,b),n)::r,i=>by
   have h1:Yr [.i .i64,.i .i64] [V.int .i64 a,.int .i64 b]=true:=rfl;have h2:WX [V.int .i64 x,.int .i64 y] [V.int .i64 a,.int .i64 b]=decide ((x,y)=(a,b)):=by simp[WX,ui];rfl
   simp only[List.map_cons,Gv,NG,h1,if_true,h2,XW];by_cases e:(x,y)=(a,b)
   .simp only[e,if_true]
    exact⟨i,by simp⟩
   .obtain⟨j,hj⟩:=Ok x y r (i+1)
    refine⟨j,?_⟩;simp only[e,if_false,decide_false,Bool.false_eq_true];exact hj
variable{h:H}{m:Nat}
theorem xq{l:List ((Int×Int)×Nat)}(hm:h.get m=some (.map (l.map Gv)))(x y:Int):
   oe [.i .i64,.i .i64] (.int .i64 0) true h (.map m) (.agg [.int .i64 x,.int .i64 y])=some (.Zt [.int .i64 ((XW (x,y) l).getD 0:Nat),.bool (XW (x,y) l).isSome],h):=by
 obtain⟨j,hj⟩:=Ok x y l 0;have h1:Yr [.i .i64,.i .i64] [V.int .i64 x,.int .i64 y]=true:=rfl;simp only[oe,h1,if_true,hm,hj];cases XW (x,y) l with
 |none=>rfl
 |some n=>rfl
structure Zl(D:Nat->Prop)(h:H)(g:Nat)(G:Gr):Prop where
 at_:∃vb m,h.get g=some (.cells [.bool true,.int .i64 0,.int .i64 0,.int .i64 64,.int .i64 64,vb,.map m] 83 false)/\h.get m=some (.map (G.cs.map Gv))/\Zv 0 h vb 42 23 (G.bs.flatMap Bk.cs) G.bs.length /\
   D g/\D m/\g≠m/\(∀c o n k,vb=.sl c o n k->D c/\c≠g/\c≠m)
 ok:I7 G
 hD:∀b,D b->b<h.n
variable{D:Nat->Prop}{h':H}{g:Nat}{G:Gr}
theorem Zl.keep(a:Zl D h g G)(hn:h.n<=h'.n)(hk:∀b,D b->h'.get b=h.get b):Zl D h' g G:=by
 obtain⟨⟨vb,m,h1,h2,h3,h4,h5,h6,h7⟩,ok,hD⟩:=a;exact⟨⟨vb,m,by rw[hk g h4,h1],by rw[hk m h5,h2],h3.keep λc o n k e=>hk c (h7 c o n k e).1,h4,h5,h6,h7⟩,ok,λb hb=>by have:=hD b hb;omega⟩
theorem Zl.ext(a:Zl D h g G)(x:Ext h h'):Zl D h' g G:=a.keep x.n λb hb=>x.get b (a.hD b hb)
abbrev Vw(x:Int):Prop := -9223372036854775808<=x/\x<=9223372036854775807
theorem F1(h:H):KW 58 [.Zh] h=some (.ret (.bool true),h):=by rw[W1 fk,s58];simp
theorem UN(a:Zl D h g G):KW 58 [.ptr g 0] h=some (.ret (.bool false),h):=by
 obtain⟨⟨vb,m,h1,_⟩,_⟩:=a;have r0:=ZZ (o:=0) h1;rw[W1 fk,s58];simp[r0]
variable{x y:Int}
theorem Te(a:Zl D h g G)(hx:Vw x)(hy:Vw y):KW 60 [.ptr g 0,.int .i64 x,.int .i64 y] h=some (.ret (.bool (decide (Vd x y))),h):=by
 obtain⟨⟨vb,m,h1,_⟩,_⟩:=a;have r1:=ZZ (o:=1) h1;have r2:=ZZ (o:=2) h1;have r3:=ZZ (o:=3) h1;have r4:=ZZ (o:=4) h1;have z1:IntKind.i64.wrap x=x:=ZS (by omega) (by omega);have z2:IntKind.i64.wrap y=y:=ZS (by omega) (by omega);have e:decide (Vd x y)=(decide (0<=x)&&(decide (x<64)&&(decide (0<=y)&&decide (y<64)))):=by rw[Bool.eq_iff_iff];simp only[decide_eq_true_eq,Bool.and_eq_true];exact Iff.rfl
 rw[W3 r60,s60,e];by_cases c1:0<=x
 . by_cases c2:x<64
   .by_cases c3:0<=y
    .simp[r1,r2,r3,r4,z1,z2,c1,c2,c3]
    .simp[r1,r2,r3,r4,z1,z2,c1,c2,c3]
   .simp[r1,r2,r3,r4,z1,z2,c1,c2]
 . simp[r1,r2,r3,r4,z1,z2,c1]
theorem Qr(x y:Int)(hx:0<=x/\x<=1000)(hy:0<=y/\y<=1000)(h:H):KW 61 [.int .i64 x,.int .i64 y] h=some (.ret (.agg [.int .i64 (x/8),.int .i64 (y/8)]),h.new (.cells [.int .i64 (x/8),.int .i64 (y/8)] 125 false)):=by
 have z1:IntKind.i64.wrap (x.tdiv 8)=x/8:=by rw[Int.tdiv_eq_ediv_of_nonneg hx.1];exact ZS (by omega) (by omega)
 have z2:IntKind.i64.wrap (y.tdiv 8)=y/8:=by rw[Int.tdiv_eq_ediv_of_nonneg hy.1];exact ZS (by omega) (by omega)
 rw[W2 r61,s61];simp[nw,z1,z2]
open Go.Zf (ZS)
theorem Gu{α:Type}{f:α->List V}(hf:∀x,(f x).length=23):∀(bs:List α),(bs.flatMap f).length=bs.length*23/\∀(n:Nat) (b:α),bs[n]?=some b->((bs.flatMap f).drop (n*23)).take 23=f b:=by
 intro bs
 induction bs with
 |nil=>exact⟨rfl,λn b h=>by simp at h⟩
 |cons x bs ih =>
   refine⟨by rw[List.flatMap_cons,List.length_append,ih.1,hf,List.length_cons];omega,λn b h=>?_⟩;rw[List.flatMap_cons];cases n with
   |zero=>simp at h;subst h;rw[Nat.zero_mul,List.drop_zero,List.take_left' (hf x)]
   |succ n =>
    have e:(n+1)*23=23+n*23:=by omega
    rw[e,<-List.drop_drop,List.drop_left' (hf x)];exact ih.2 n b (by simpa using h)
theorem rV(bs:List Bk)(n:Nat)(b:Bk)(h:bs[n]?=some b):((bs.flatMap Bk.cs).drop (n*23)).take 23=b.cs:=(Gu EC bs).2 n b h
theorem xp(bs:List Bk):(bs.flatMap Bk.cs).length=bs.length*23:=(Gu EC bs).1
variable{p:Nat}
theorem PI{v:V}{bs:List Bk}{t:TypeId}(a:Zv p h v t 23 (bs.flatMap Bk.cs) bs.length)(hb:bs[n]?=some b):
   ∃c o,PY 23 v (.int .i64 (n:Nat))=some (.ptr c o)/\h.Ze c o 23=some b.cs/\(∃o' k m,v=.sl c o' k m):=by
 have hn:n<bs.length:=by
   rcases Nat.lt_or_ge n bs.length with h|h
   .exact h
   .rw[List.getElem?_eq_none h]at hb;cases hb
 rcases a with ⟨rfl,h0,_⟩|⟨c,rfl,h2,h3,_⟩
 . omega
 . refine⟨c,n*23,by simp[hn],?_,_,_,_,rfl⟩
   rw[ZU h2 (by rw[xp];omega),rV _ _ _ hb]
def RD:Option Bk->V
 |some b=>.Zt [b.v,.bool true]
 |none=>.Zt [YC.v,.bool false]
theorem MT(a:Zl D h g G)(hx:Vw x)(hy:Vw y):
   RT (λw h'=>w=RD (G.at x y)/\Ext h h') (KW 85 [.ptr g 0,.int .i64 x,.int .i64 y] h):=by
 obtain⟨h1,ZL⟩:∃z,z=h.new (.cells YC.cs 42 false):=⟨_,rfl⟩
 have x1:Ext h h1:=by rw[ZL];exact (Ext.refl h).new _
 have n1:h1.n=h.n+1:=by rw[ZL,H.ZP]
 have g1:h1.get h.n=some (.cells YC.cs 42 false):=by rw[ZL,ZY]
 have a1:=a.ext x1;have OU:=UN a1;have PX:=Te a1 hx hy;have r1:h1.Ze h.n 0 23=some YC.cs:=by rw[ZU g1 (by simp)];rfl
 have w1:h1.X4 h.n 0 YC.cs=some (h1.put h.n (.cells YC.cs 42 false)):=by rw[ZF g1 (by simp)];rfl
 have jR:(h1.put h.n (.cells YC.cs 42 false)).Ze h.n 0 23=some YC.cs:=by rw[ZU (ZV (by omega)) (by simp)];rfl
 have x1':Ext h (h1.put h.n (.cells YC.cs 42 false)):=x1.put (Nat.le_refl _) _;rw[W3 r85,s85];by_cases c:Vd x y
 . have pS:=Qr x y ⟨c.1,by have:=c.2.1;omega⟩ ⟨c.2.2.1,by have:=c.2.2.2;omega⟩ h1
   obtain⟨h2,Zq⟩:∃z,z=h1.new (.cells [.int .i64 (x/8),.int .i64 (y/8)] 125 false):=⟨_,rfl⟩
   rw[<-Zq]at pS;have x2:Ext h1 h2:=by rw[Zq];exact (Ext.refl h1).new _
   have a2:=a1.ext x2;have JD:=x1.trans x2;have g2:h2.get h.n=_:=(x2.get _ (by omega)).trans g1;have gg1:=a1.at_;obtain⟨⟨vb,m,k1,k2,k3,k4,k5,k6,k7⟩,ok,hD⟩:=a;have gg:h2.get g=_:=(JD.get g (H.ZW k1)).trans k1;have gm:h2.get m=_:=(JD.get m (H.ZW k2)).trans k2;have gg1:h1.get g=_:=(x1.get g (H.ZW k1)).trans k1;have q6:=ZZ (o:=6) gg;have cU:=ZZ (o:=6) gg1;have q5:=ZZ (o:=5) gg;have lk:=xq gm (x/8) (y/8);have w2:h2.X4 h.n 0 YC.cs=some (h2.put h.n (.cells YC.cs 42 false)):=by rw[ZF g2 (by simp)];rfl
   have n2:=x2.n;have r2:(h2.put h.n (.cells YC.cs 42 false)).Ze h.n 0 23=some YC.cs:=by rw[ZU (ZV (by omega)) (by simp)];rfl
   have eat:G.at x y=(XW (x/8,y/8) G.cs).bind λn=>G.bs[n]?:=by unfold Gr.at;rw[if_pos c]
   rw[eat];cases hf:XW (x/8,y/8) G.cs with
   |none =>
    rw[hf]at lk;simp[nw,<-ZL,OU,PX,c,pS,q6,cU,lk,w2,r2];exact⟨rfl,JD.put (Nat.le_refl _) _⟩
   |some n =>
    rw[hf]at lk;have hn:=ok.lt _ (Rp hf);obtain⟨b,hb⟩:∃b,G.bs[n]?=some b:=⟨_,List.getElem?_eq_getElem hn⟩
    obtain⟨cc,o,i1,i2,i3⟩:=PI (k3.ext JD) hb;have w3:h2.X4 h.n 0 b.cs=some (h2.put h.n (.cells b.cs 42 false)):=by
     rw[ZF g2 (by simp)];have:splice YC.cs 0 b.cs=b.cs:=by simp[splice]
     rw[this]
    have r3:(h2.put h.n (.cells b.cs 42 false)).Ze h.n 0 23=some b.cs:=by rw[ZU (ZV (by omega)) (by simp)];rfl
    simp[nw,<-ZL,OU,PX,c,pS,q6,cU,q5,lk,hb,i1,i2,w3,r3];exact⟨rfl,JD.put (Nat.le_refl _) _⟩
 . have eat:G.at x y=none:=by unfold Gr.at;rw[if_neg c]
   rw[eat];simp[nw,<-ZL,OU,PX,c,w1,jR];exact⟨rfl,x1'⟩
theorem Bi(b:Bk)(h:H):RT (λw h'=>w=.bool b.skip/\Ext h h') (KW 90 [b.v] h):=by
 rw[W1 r90,s90];simp[bx];exact⟨rfl,(Ext.refl h).new _⟩
theorem EB(b:Bk)(h:H):RT (λw h'=>w=.bool b.inter/\Ext h h') (KW 91 [b.v] h):=by
 rw[W1 r91,s91];simp[bx];exact⟨rfl,(Ext.refl h).new _⟩
def KU(is:Bk->Bool):Option Bk->Nat
 |some b=>if is b then 1 else 0
 |none=>0
def Wd(is:Bk->Bool)(G:Gr)(x y:Int):Nat:=KU is (G.at (x-1) y)+KU is (G.at x (y-1))
theorem QG(is:Bk->Bool)(o:Option Bk):KU is o<=1:=by
 unfold KU;split
 . split<;>omega
 . omega
abbrev cT:List Nat:=[0,1,2,3,8,9,10,12,13,14,42,43]
def cS(f:V)(is:Bk->Bool):Prop:=V.Zr f=true/\∀(b:Bk) (h:H),RT (λw h'=>w=.bool (is b)/\Ext h h') (ti KW f [b.v] h)
structure I50(g0:H)(g:Nat)(f:V)(x y:Int)(n j:Nat)(e:E)(h:H):Prop where
 xx:Ext g0 h
 e0:e.s cT 0=.ptr g 0
 e3:e.s cT 3=f
 Yu:e.s cT 10=.int .i64 (n:Nat)
 xu:e.s cT 42=.agg [.int .i64 (x-1),.int .i64 y,.int .i64 x,.int .i64 (y-1)]
 C0:e.s cT 43=.int .i64 (j:Nat)
def NF(is:Bk->Bool)(G:Gr)(x y:Int)(j:Nat):Nat:=(if 1<=j then KU is (G.at (x-1) y)else 0)+(if 2<=j then KU is (G.at x (y-1))else 0)
variable{g0:H}{f:V}{is:Bk->Bool}
theorem mj(a:Zl D g0 g G)(hf:cS f is)(hx:0<=x/\x<=900)(hy:0<=y/\y<=900):
   ∀m e h,(m<=2/\I50 g0 g f x y (NF is G x y (2-m)) (2-m) e h)->LS (λm e h=>m<=2/\I50 g0 g f x y (NF is G x y (2-m)) (2-m) e h) (λs=>s.x=.ex 1/\I50 g0 g f x y (Wd is G x y) 2 s.e s.h) m (Ke KW ZI e h):=by
 rintro m e h ⟨hm,xx,e0,e3,Yu,xu,C0⟩;obtain⟨j,hj⟩:∃j,j=2-m:=⟨_,rfl⟩
 rw[<-hj]at Yu C0;by_cases jX:j=2
 . subst jX
   simp[Ke,C0];exact⟨rfl,xx,by simp[e0],by simp[e3],by simp[Yu,NF,Wd],by simp[xu],by simp[C0]⟩
 obtain⟨n,hn⟩:∃n,n=NF is G x y j:=⟨_,rfl⟩
 rw[<-hn]at Yu;obtain⟨u,hu⟩:∃u,u=if j=0 then x-1 else x:=⟨_,rfl⟩
 obtain⟨v,hv⟩:∃v,v=if j=0 then y else y-1:=⟨_,rfl⟩
 have cR:n+KU is (G.at u v)=NF is G x y (j+1):=by
   rcases (by omega:j=0\/j=1)with rfl|rfl<;>subst hu hv hn<;>simp[NF]
 have nb:n<=1:=by
   have:=QG is (G.at (x-1) y);rw[hn];unfold NF;rw[if_neg (show ¬2<=j by omega)];split<;>omega
 have ub : -1000<=u/\u<=1000:=by rw[hu];split<;>omega
 have vb : -1000<=v/\v<=1000:=by rw[hv];split<;>omega
 have ix:y9 2 2 (.agg [.int .i64 (x-1),.int .i64 y,.int .i64 x,.int .i64 (y-1)]) (.int .i64 (j:Nat))=some (.agg [.int .i64 u,.int .i64 v]):=by
   rcases (by omega:j=0\/j=1)with rfl|rfl<;>subst hu hv<;>rfl
 obtain⟨h1,ZL⟩:∃z,z=h.new (.cells [.int .i64 u,.int .i64 v] 37 false):=⟨_,rfl⟩
 have x1:Ext h h1:=by rw[ZL];exact (Ext.refl h).new _
 have g1:h1.get h.n=some (.cells [.int .i64 u,.int .i64 v] 37 false):=by rw[ZL,ZY]
 have q0:=ZZ (o:=0) g1;have q1:=ZZ (o:=1) g1;have zw:(h.new (.cells [.int .i64 0,.int .i64 0] 37 false)).X4 h.n 0 [.int .i64 u,.int .i64 v]=some h1:=by rw[ZL];exact YO _ _ _ _ rfl
 obtain⟨w,h2,a2,rfl,x2⟩:=(MT (a.ext (xx.trans x1)) (x:=u) (y:=v) (by omega) (by omega)).elim;have z1:IntKind.i64.wrap ((n:Int)+1)=((n+1:Nat):Int):=by rw[ZS (by omega) (by omega)];omega
 have z2:IntKind.i64.wrap ((j:Int)+1)=((j+1:Nat):Int):=by rw[ZS (by omega) (by omega)];omega
 have hj3:(j:Int)<2:=by omega
 have pR:2-(m-1)=j+1:=by omega
 cases ho:G.at u v with
 |none =>
   rw[ho]at a2 cR;simp[Ke,C0,hj3,xu,ix,nw,zw,q0,q1,e0,a2,RD,e3,z2,Yu,-Int.natCast_add];refine⟨m-1,by omega,by omega,?_⟩;rw[pR,<-cR];exact⟨((xx.trans x1).trans x2).new _,by simp[e0],by simp[e3],by simp[Yu,KU],by simp[xu],by simp⟩
 |some b =>
   rw[ho]at a2 cR;obtain⟨w,h3,a3,rfl,x3⟩:=(hf.2 b (h2.new (.cells b.cs 42 false))).elim;have rb:(h2.new (.cells b.cs 42 false)).Ze h2.n 0 23=some b.cs:=VZ _ _ _ _ _ _ (by simp);cases hb:is b with
   |true =>
    rw[hb]at a3;simp[Ke,C0,hj3,xu,ix,nw,zw,q0,q1,e0,a2,RD,e3,z2,Yu,rb,a3,z1,-Int.natCast_add];refine⟨m-1,by omega,by omega,?_⟩;rw[pR,<-cR];exact⟨(((xx.trans x1).trans x2).new _).trans x3,by simp[e0],by simp[e3],by simp[Yu,KU,hb],by simp[xu],by simp⟩
   |false =>
    rw[hb]at a3;simp[Ke,C0,hj3,xu,ix,nw,zw,q0,q1,e0,a2,RD,e3,z2,Yu,rb,a3,-Int.natCast_add];refine⟨m-1,by omega,by omega,?_⟩;rw[pR,<-cR];exact⟨(((xx.trans x1).trans x2).new _).trans x3,by simp[e0],by simp[e3],by simp[Yu,KU,hb],by simp[xu],by simp⟩
def kz(x y:Int):Prop:=0<=x/\x<=248/\x%8=0/\0<=y/\y<=248/\y%8=0
theorem Uf(h:0<=x)(e:x%8=0):x.tmod 8=0:=by rw[Int.tmod_eq_emod_of_nonneg h];exact e
theorem LL(a:Zl D h g G)(hf:cS f is)(p:kz x y):
   RT (λw h'=>w=.Zt (if Vd x y then [.int .i64 (Wd is G x y:Nat),.int .i64 0]else [.int .i64 0,.int .i64 2])/\Ext h h') (KW 89 [.ptr g 0,.int .i64 x,.int .i64 y,f] h):=by
 obtain⟨p1,p2,p3,p4,p5,p6⟩:=p;have OU:=UN a;have PX:=Te a (x:=x) (y:=y) (by omega) (by omega);have t1:=Uf p1 p3;have t2:=Uf p4 p6;have z1:IntKind.i64.wrap (x-1)=x-1:=ZS (by omega) (by omega);have z2:IntKind.i64.wrap (y-1)=y-1:=ZS (by omega) (by omega);rw[W4 r89,s89];by_cases c:Vd x y
 . simp[OU,PX,t1,t2,c,z1,z2]
   refine XV (C:=λo=>RT _ (fin Tryz.prog _ _ (sq (Y9 1 o) _))) _ _ (mj a hf (x:=x) (y:=y) ⟨p1,by omega⟩ ⟨p4,by omega⟩) 2 ⟨Nat.le_refl _,Ext.refl _,by simp,by simp,by simp[NF],by simp,by simp⟩ ?_;rintro⟨sx,se,sh⟩ ⟨h1,xx,e0,e3,Yu,xu,C0⟩;simp only at h1 Yu xx;subst h1;simp[Yu];exact⟨rfl,xx⟩
 . simp[OU,PX,t1,t2,c]
   exact⟨rfl,Ext.refl _⟩
theorem OL(a:Zl D h g G)(p:kz x y):
   RT (λw h'=>w=.Zt (if Vd x y then [.int .i64 (Wd Bk.skip G x y:Nat),.int .i64 0]else [.int .i64 0,.int .i64 2])/\Ext h h') (KW 46 [.ptr g 0,.int .i64 x,.int .i64 y] h):=by
 obtain⟨w,h1,a1,rfl,x1⟩:=(LL a (f:=.fn (.func 90) [] []) (is:=Bk.skip) ⟨rfl,λb h=>by rw[Ww];exact Bi b h⟩ p).elim;rw[W3 r46,fq];by_cases c:Vd x y
 . rw[if_pos c]at a1;simp[a1,c];exact⟨rfl,x1⟩
 . rw[if_neg c]at a1;simp[a1,c];exact⟨rfl,x1⟩
theorem Mx(a:Zl D h g G)(p:kz x y):
   RT (λw h'=>w=.Zt (if Vd x y then [.int .i64 (Wd Bk.inter G x y:Nat),.int .i64 0]else [.int .i64 0,.int .i64 2])/\Ext h h') (KW 47 [.ptr g 0,.int .i64 x,.int .i64 y] h):=by
 obtain⟨w,h1,a1,rfl,x1⟩:=(LL a (f:=.fn (.func 91) [] []) (is:=Bk.inter) ⟨rfl,λb h=>by rw[Ww];exact EB b h⟩ p).elim;rw[W3 r47,s47];by_cases c:Vd x y
 . rw[if_pos c]at a1;simp[a1,c];exact⟨rfl,x1⟩
 . rw[if_neg c]at a1;simp[a1,c];exact⟨rfl,x1⟩
theorem Ro(is:Bk->Bool)(G:Gr)(x y:Int):Wd is G x y<3:=by
 have:=QG is (G.at (x-1) y);have:=QG is (G.at x (y-1));unfold Wd;omega
open Go.Zf (ZS)
abbrev IY(v:Vc):V:=.agg [.int .i64 v.1,.int .i64 v.2]
def OO(b:Bk)(ref:Int):Option Vc:=if b.inter then (if b.r0=ref then some b.m0 else if b.comp/\b.r1=ref then some b.m1 else none)else none
def ovV:Option Vc->V
 |some v=>.Zt [IY v,.bool true]
 |none=>.Zt [IY (0,0),.bool false]
theorem xo(b:Bk)(ref:Int)(h:H):RT (λw h'=>w=ovV (OO b ref)/\Ext h h') (KW 141 [b.v,.int .i64 ref] h):=by
 obtain⟨h1,ZL⟩:∃z,z=h.new (.cells b.cs 42 false):=⟨_,rfl⟩
 obtain⟨h2,Zq⟩:∃z,z=h1.new (.cells [.int .i64 0,.int .i64 0] 39 false):=⟨_,rfl⟩
 have n1:h1.n=h.n+1:=by rw[ZL,H.ZP]
 have n2:h2.n=h1.n+1:=by rw[Zq,H.ZP]
 have x2:Ext h h2:=by rw[Zq,ZL];exact ((Ext.refl h).new _).new _
 have g1:h2.get h.n=some (.cells b.cs 42 false):=by rw[Zq,ZR (by omega),ZL,ZY]
 have rd:∀o,h2.Zp h.n o=b.cs[o]?:=λo=>ZZ g1;have I3:h2.Ze h.n 17 2=some [.int .i64 b.m0.1,.int .i64 b.m0.2]:=by rw[ZU g1 (by simp)];rfl
 have Aq:h2.Ze h.n 19 2=some [.int .i64 b.m1.1,.int .i64 b.m1.2]:=by rw[ZU g1 (by simp)];rfl
 have wr:∀a c:Int,h2.X4 h1.n 0 [.int .i64 a,.int .i64 c]=some (h1.new (.cells [.int .i64 a,.int .i64 c] 39 false)):=λa c=>by rw[Zq];exact YO _ _ _ _ rfl
 have rr:∀a c:Int,(h1.new (.cells [.int .i64 a,.int .i64 c] 39 false)).Ze h1.n 0 2=some [.int .i64 a,.int .i64 c]:=λa c=>VZ _ _ _ _ _ _ (by simp);have r2:h2.Ze h1.n 0 2=some [.int .i64 0,.int .i64 0]:=by rw[Zq];exact rr 0 0
 have xe:∀c,Ext h (h1.new c):=λc=>by rw[ZL];exact ((Ext.refl h).new _).new _
 rw[W2 Wqo,fP];unfold OO;by_cases c0:b.inter=true
 . by_cases c1:b.r0=ref
   .simp[bx,nw,<-ZL,<-Zq,rd,c0,c1,I3,wr,rr,r2];exact⟨rfl,by first|exact xe _|exact x2⟩
   .by_cases c2:b.comp=true
    .by_cases c3:b.r1=ref
     .simp[bx,nw,<-ZL,<-Zq,rd,c0,c1,c2,c3,Aq,wr,rr,r2];exact⟨rfl,by first|exact xe _|exact x2⟩
     .simp[bx,nw,<-ZL,<-Zq,rd,c0,c1,c2,c3,wr,rr,r2];exact⟨rfl,by first|exact xe _|exact x2⟩
    .simp[bx,nw,<-ZL,<-Zq,rd,c0,c1,c2,wr,rr,r2];exact⟨rfl,by first|exact xe _|exact x2⟩
 . simp[bx,nw,<-ZL,<-Zq,rd,c0,wr,rr,r2];exact⟨rfl,by first|exact xe _|exact x2⟩
structure JC(h:H)(b:Nat)(l:List Vc):Prop where
 lt:b<h.n
 rd:∀i:Nat,i<l.length->h.Ze b (i*2) 2=some [.int .i64 (l.getD i (0,0)).1,.int .i64 (l.getD i (0,0)).2]
variable{l:List Vc}
theorem JC.ext{b:Nat}(a:JC h b l)(x:Ext h h'):JC h' b l :=
 ⟨by have:=a.lt;have:=x.n;omega,λi hi=>by rw[<-a.rd i hi];unfold H.Ze;rw[x.get b a.lt]⟩
abbrev cQ:List Nat:=[0,1,3,4,5,7,8]
structure I87(g0:H)(b p:Nat)(k:J5)(v:Vc)(l:List Vc)(j:Nat)(e:E)(h:H):Prop where
 xx:Ext g0 h
 no:v ∉ l.take j
 e0:e.s cQ 0=.sl b 0 l.length k
 e3:e.s cQ 3=.ptr p 0
 e7:e.s cQ 7=.int .i64 (l.length:Nat)
 e8:e.s cQ 8=.int .i64 (j:Nat)
theorem EA{b:Nat}(a:JC h b l)(k:J5)(hl:l.length<1000)(v:Vc):
   RT (λw h'=>(∃i:Int,w=.int .i64 i/\-1<=i/\i<1000/\(0<=i↔v∈l))/\Ext h h') (KW 166 [.sl b 0 l.length k,IY v] h):=by
 obtain⟨h1,ZL⟩:∃z,z=h.new (.cells [.int .i64 v.1,.int .i64 v.2] 39 false):=⟨_,rfl⟩
 have x1:Ext h h1:=by rw[ZL];exact (Ext.refl h).new _
 have g1:h1.get h.n=some (.cells [.int .i64 v.1,.int .i64 v.2] 39 false):=by rw[ZL,ZY]
 rw[W2 kqG,cP];simp[bx,<-ZL];refine XV (C:=λo=>RT _ (fin Tryz.prog _ _ (sq (Y9 0 o) _))) (λm e g=>m<=l.length/\I87 h1 b h.n k v l (l.length-m) e g)
   (λs=>(s.x=.ex 0/\v ∉ l/\Ext h1 s.h)\/(s.x=.rt/\v∈l/\Ext h1 s.h/\∃i:Nat,i<l.length/\s.e.s cQ 4=.int .i64 (i:Nat))) ?_ l.length ⟨Nat.le_refl _,by simp;exact⟨Ext.refl _,by simp,by simp,by simp,by simp,by simp⟩⟩ ?_
 . rintro m e g ⟨hm,xx,no,e0,e3,e7,e8⟩
   obtain⟨j,hj⟩:∃j,j=l.length-m:=⟨_,rfl⟩
   rw[<-hj]at no e8;by_cases c:j=l.length
   .subst c
    simp[Ig,e8,e7];refine .inl ⟨rfl,?_,xx⟩;rw[List.take_length]at no;exact no
   .have QW:j<l.length:=by omega
    have xl:(j:Int)<l.length:=by omega
    have rv:g.Ze h.n 0 2=some [.int .i64 v.1,.int .i64 v.2]:=by rw[ZU ((xx.get _ (H.ZW g1)).trans g1) (by simp)];rfl
    have rj:=((a.ext (x1.trans xx)).rd j QW)
    obtain⟨u,hu⟩:∃u,u=l.getD j (0,0):=⟨_,rfl⟩
    rw[<-hu]at rj;have cO:l[j]=u:=by rw[hu];simp[List.getD,QW]
    have z2:IntKind.i64.wrap ((j:Int)+1)=((j+1:Nat):Int):=by rw[ZS (by omega) (by omega)];omega
    by_cases cu:v=u
    .have cN:(v.1,v.2)=(u.1,u.2):=by rw[cu]
     simp only[Prod.mk.injEq]at cN;simp[Ig,e8,e7,QW,xl,e3,rv,e0,rj,cN.1,cN.2];exact .inr ⟨rfl,by rw[cu,<-cO];exact List.getElem_mem _,xx,j,QW,by simp⟩
    .have cN:¬(v.1=u.1/\v.2=u.2):=λh=>cu (Prod.ext h.1 h.2)
     simp[Ig,e8,e7,QW,xl,e3,rv,e0,rj,cN,z2,-Int.natCast_add];refine⟨m-1,by omega,by omega,?_⟩;rw[show l.length-(m-1)=j+1 by omega];refine⟨xx,?_,by simp[e0],by simp[e3],by simp[e7],by simp⟩;rw[List.take_add_one,List.mem_append,List.getElem?_eq_getElem QW,cO];rintro (h|h)
     .exact no h
     .simp at h;exact cu h
 . rintro⟨sx,se,sh⟩ (⟨Tt,h2,xx⟩|⟨Tt,h2,xx,i,hi,e4⟩)
   .simp only at Tt
    subst Tt;simp;exact⟨⟨_,rfl,by decide,by decide,by simp[h2]⟩,x1.trans xx⟩
   .simp only at Tt e4
    subst Tt;simp[e4];exact⟨⟨_,rfl,by omega,by omega,by simp[h2]⟩,x1.trans xx⟩
theorem Kx{b:Nat}(a:JC h b l)(k:J5)(hl:l.length<1000)(v:Vc):
   RT (λw h'=>w=.bool (decide (v∈l))/\Ext h h') (KW 142 [.sl b 0 l.length k,IY v] h):=by
 obtain⟨h1,ZL⟩:∃z,z=h.new (.cells [.int .i64 v.1,.int .i64 v.2] 39 false):=⟨_,rfl⟩
 have x1:Ext h h1:=by rw[ZL];exact (Ext.refl h).new _
 have rv:h1.Ze h.n 0 2=some [.int .i64 v.1,.int .i64 v.2]:=by rw[ZL];exact VZ _ _ _ _ _ _ (by simp)
 obtain⟨w,h2,a2,⟨i,rfl,i1,i2,i3⟩,x2⟩:=(EA (a.ext x1) k hl v).elim;rw[W2 Wqn,fO];simp[bx,<-ZL,rv,a2];exact⟨by simp[i3],x1.trans x2⟩
def TR(ref:Int)(acc:List Vc)(o:Option Bk):List Vc :=
 match o.bind λb=>OO b ref with
 |some v=>if acc.length<2/\¬v∈acc then acc++[v]else acc
 |none=>acc
def Hp(x y w:Int):List (Int×Int):=[(x-1,y),(x,y-1),(x+w,y-1),(x-1,y-1)]
def XJ(G:Gr)(x y w ref:Int)(j:Nat):List Vc:=((Hp x y w).take j).foldl (λacc p=>TR ref acc (G.at p.1 p.2)) []
def cM(G:Gr)(x y w ref:Int):(Vc×Vc)×Nat :=
 let l:=XJ G x y w ref 4
 ((l.getD 0 (0,0),l.getD 1 (0,0)),l.length)
variable{j:Nat}
theorem Kj(G:Gr)(x y w ref:Int){p:Int×Int}(h:(Hp x y w)[j]?=some p):XJ G x y w ref (j+1)=TR ref (XJ G x y w ref j) (G.at p.1 p.2):=by
 unfold XJ;rw[List.take_add_one,h,Option.toList_some,List.foldl_append];rfl
theorem Bh(ref:Int)(acc:List Vc)(o:Option Bk)(h:acc.length<=2):(TR ref acc o).length<=2:=by
 unfold TR;split
 . split
   .rw[List.length_append,List.length_singleton];omega
   .exact h
 . exact h
theorem Gt(G:Gr)(x y w ref:Int):∀j,(XJ G x y w ref j).length<=2:=by
 intro j;unfold XJ;generalize (Hp x y w).take j=l;have:∀(l:List (Int×Int)) (acc:List Vc),acc.length<=2->(l.foldl (λacc p=>TR ref acc (G.at p.1 p.2)) acc).length<=2:=by
   intro l
   induction l with
   |nil=>intro acc h;exact h
   |cons p l ih=>intro acc h;exact ih _ (Bh ref acc _ h)
 exact this l [] (by decide)
def Oj(l:List Vc):List V:=[.int .i64 (l.getD 0 (0,0)).1,.int .i64 (l.getD 0 (0,0)).2,.int .i64 (l.getD 1 (0,0)).1,.int .i64 (l.getD 1 (0,0)).2]
theorem Bg{acc:List Vc}(h:acc.length<2)(v:Vc):splice (Oj acc) (acc.length*2) [.int .i64 v.1,.int .i64 v.2]=Oj (acc++[v]):=by
 match acc,h with
 |[],_=>rfl
 |[a],_=>rfl
variable{ro:Bool}
theorem rU{b:Nat}{t:TypeId}(hb:h.get b=some (.cells (Oj l) t ro))(hl:l.length<=2):JC h b l:=by
 refine⟨H.ZW hb,λi hi=>?_⟩;rw[ZU hb (by show _<=4;omega)];rcases (by omega:i=0\/i=1)with rfl|rfl<;>rfl
open Go.Zf (ZS)
theorem mh(o:Option Bk):RD o=.Zt [(o.getD YC).v,.bool o.isSome]:=by cases o<;>rfl
theorem mg(o:Option Vc):ovV o=.Zt [IY (o.getD (0,0)),.bool o.isSome]:=by cases o<;>rfl
theorem xj(ref:Int)(acc:List Vc)(o:Option Bk):TR ref acc o=(match OO (o.getD YC) ref with
   |some v=>if acc.length<2/\¬v∈acc then acc++[v]else acc
   |none=>acc):=by
 cases o<;>rfl
abbrev mf:List Nat:=[0,1,2,4,6,7,8,9,10,12,13,15,16,94,95]
structure I57(g0:H)(g B6 B9:Nat)(x y w ref:Int)(acc:List Vc)(j:Nat)(e:E)(h:H):Prop where
 xx:Ext g0 h
 h6:h.get B6=some (.cells [.int .i64 0,.int .i64 0,.int .i64 0,.int .i64 0] 40 false)
 h9:h.get B9=some (.cells (Oj acc) 40 false)
 e0:e.s mf 0=.ptr g 0
 e2:e.s mf 2=.int .i64 ref
 e6:e.s mf 6=.ptr B6 0
 e9:e.s mf 9=.ptr B9 0
 Yu:e.s mf 10=.int .i64 (acc.length:Nat)
 Ac:e.s mf 94=.agg [.int .i64 (x-1),.int .i64 y,.int .i64 x,.int .i64 (y-1),.int .i64 (x+w),.int .i64 (y-1),.int .i64 (x-1),.int .i64 (y-1)]
 uh:e.s mf 95=.int .i64 (j:Nat)
variable{w ref:Int}
theorem me{B6 B9:Nat}(a:Zl D g0 g G)(hB6:g0.n<=B6)(hB9:g0.n<=B9)(hB:B6≠B9)(hx:0<=x/\x<=300)(hy:0<=y/\y<=300)(hw:0<=w/\w<=300):
   ∀m e h,(m<=4/\I57 g0 g B6 B9 x y w ref (XJ G x y w ref (4-m)) (4-m) e h) ->
    LS (λm e h=>m<=4/\I57 g0 g B6 B9 x y w ref (XJ G x y w ref (4-m)) (4-m) e h) (λs=>s.x=.ex 1/\I57 g0 g B6 B9 x y w ref (XJ G x y w ref 4) 4 s.e s.h) m (Ms KW ZI e h):=by
 rintro m e h ⟨hm,xx,h6,h9,e0,e2,e6,e9,Yu,Ac,uh⟩;obtain⟨j,hj⟩:∃j,j=4-m:=⟨_,rfl⟩
 rw[<-hj]at Yu uh h9;by_cases hj4:j=4
 . subst hj4
   simp[Ms,uh];exact⟨rfl,xx,h6,h9,by simp[e0],by simp[e2],by simp[e6],by simp[e9],by simp[Yu],by simp[Ac],by simp[uh]⟩
 have kqF:j<4:=by omega
 have hj5:(j:Int)<4:=by omega
 obtain⟨⟨u,v⟩,hp⟩:∃p,(Hp x y w)[j]?=some p:=⟨_,List.getElem?_eq_getElem (by show j<4;exact kqF)⟩
 have hs:=Kj G x y w ref hp;have al:=Gt G x y w ref j;obtain⟨acc,zv⟩:∃acc,acc=XJ G x y w ref j:=⟨_,rfl⟩
 rw[<-zv]at hs al Yu h9;have ub:(-1000<=u/\u<=1000)/\(-1000<=v/\v<=1000):=by
   rcases (by omega:j=0\/j=1\/j=2\/j=3)with rfl|rfl|rfl|rfl<;>simp[Hp]at hp<;>omega
 have ix:y9 4 2 (.agg [.int .i64 (x-1),.int .i64 y,.int .i64 x,.int .i64 (y-1),.int .i64 (x+w),.int .i64 (y-1),.int .i64 (x-1),.int .i64 (y-1)]) (.int .i64 (j:Nat))=some (.agg [.int .i64 u,.int .i64 v]):=by
   rcases (by omega:j=0\/j=1\/j=2\/j=3)with rfl|rfl|rfl|rfl<;>simp[Hp]at hp<;>obtain⟨rfl,rfl⟩:=hp<;>rfl
 obtain⟨h1,ZL⟩:∃z,z=h.new (.cells [.int .i64 u,.int .i64 v] 37 false):=⟨_,rfl⟩
 have x1:Ext h h1:=by rw[ZL];exact (Ext.refl h).new _
 have g1:h1.get h.n=some (.cells [.int .i64 u,.int .i64 v] 37 false):=by rw[ZL,ZY]
 have q0:=ZZ (o:=0) g1;have q1:=ZZ (o:=1) g1;have zw:(h.new (.cells [.int .i64 0,.int .i64 0] 37 false)).X4 h.n 0 [.int .i64 u,.int .i64 v]=some h1:=by rw[ZL];exact YO _ _ _ _ rfl
 obtain⟨_,h2,a2,rfl,x2⟩:=(MT (a.ext (xx.trans x1)) (x:=u) (y:=v) (by omega) (by omega)).elim;rw[mh]at a2;have hs:XJ G x y w ref (j+1)=TR ref acc (G.at u v):=hs;rw[xj]at hs;obtain⟨b,hb⟩:∃b,b=(G.at u v).getD YC:=⟨_,rfl⟩
 rw[<-hb]at a2 hs;obtain⟨h3,Zc⟩:∃z,z=h2.new (.cells b.cs 42 false):=⟨_,rfl⟩
 have x3:Ext h2 h3:=by rw[Zc];exact (Ext.refl h2).new _
 have r3:h3.Ze h2.n 0 23=some b.cs:=by rw[Zc];exact VZ _ _ _ _ _ _ (by simp)
 have HJ:(h2.new (.cells YC.cs 42 false)).X4 h2.n 0 b.cs=some h3:=by rw[Zc];exact YO _ _ _ _ (by simp)
 obtain⟨_,h4,a4,rfl,x4⟩:=(xo b ref h3).elim;rw[mg]at a4;obtain⟨ov,hov⟩:∃ov,ov=OO b ref:=⟨_,rfl⟩
 rw[<-hov]at a4 hs;obtain⟨vv,sH⟩:∃vv,vv=ov.getD (0,0):=⟨_,rfl⟩
 rw[<-sH]at a4;obtain⟨h5,Vv⟩:∃z,z=h4.new (.cells [.int .i64 vv.1,.int .i64 vv.2] 39 false):=⟨_,rfl⟩
 have x5:Ext h4 h5:=by rw[Vv];exact (Ext.refl h4).new _
 have r5:h5.Ze h4.n 0 2=some [.int .i64 vv.1,.int .i64 vv.2]:=by rw[Vv];exact VZ _ _ _ _ _ _ (by simp)
 have zw5:(h4.new (.cells [.int .i64 0,.int .i64 0] 39 false)).X4 h4.n 0 [.int .i64 vv.1,.int .i64 vv.2]=some h5:=by rw[Vv];exact YO _ _ _ _ rfl
 have jM:Ext h h5:=(((x1.trans x2).trans x3).trans x4).trans x5;have g5:h5.get h4.n=some (.cells [.int .i64 vv.1,.int .i64 vv.2] 39 false):=by rw[Vv,ZY]
 have cL:h5.get B9=_:=(jM.get _ (H.ZW h9)).trans h9;have h66:h5.get B6=_:=(jM.get _ (H.ZW h6)).trans h6;have z2:IntKind.i64.wrap ((j:Int)+1)=((j+1:Nat):Int):=by rw[ZS (by omega) (by omega)];omega
 have zn:IntKind.i64.wrap ((acc.length:Int)+1)=((acc.length+1:Nat):Int):=by rw[ZS (by omega) (by omega)];omega
 have jm:4-(m-1)=j+1:=by omega
 have base:∀s:Bool,s=(G.at u v).isSome->True:=λ_ _=>trivial;cases cK:ov with
 |none =>
   rw[cK]at a4 hs;simp[Ms,uh,hj5,Ac,ix,nw,zw,q0,q1,e0,a2,HJ,r3,e2,a4,zw5,r5,z2,-Int.natCast_add];refine⟨m-1,by omega,by omega,?_⟩;rw[jm,hs];exact⟨xx.trans jM,h66,cL,by simp[e0],by simp[e2],by simp[e6],by simp[e9],by simp[Yu],by simp[Ac],by simp⟩
 |some vs =>
   rw[cK]at a4 hs sH;have sH:vv=vs:=sH;subst sH;simp only at hs;by_cases c1:acc.length<2
   .have Hy:(acc.length:Int)<2:=by omega
    have sla:slA 2 2 (.ptr B9 0) none (some (.int .i64 (acc.length:Nat))) none=some (.sl B9 0 acc.length (.ex 2)):=by
     simp[slA,Up,XK,show acc.length<=2 by omega,show (acc.length:Int)<=2 by omega]
    obtain⟨_,h7,a7,rfl,x7⟩:=(Kx (rU cL al) (.ex 2) (by omega) vv).elim;have r7:h7.Ze h4.n 0 2=some [.int .i64 vv.1,.int .i64 vv.2]:=by rw[ZU ((x7.get _ (H.ZW g5)).trans g5) (by simp)];rfl
    have h79:h7.get B9=_:=(x7.get _ (H.ZW cL)).trans cL;have h76:h7.get B6=_:=(x7.get _ (H.ZW h66)).trans h66;by_cases c2:vv∈acc
    .rw[if_neg (by rintro⟨_,h⟩;exact h c2)]at hs
     simp[Ms,uh,hj5,Ac,ix,nw,zw,q0,q1,e0,a2,HJ,r3,e2,a4,zw5,r5,r7,z2,Yu,c1,Hy,e9,sla,a7,c2,-Int.natCast_add];refine⟨m-1,by omega,by omega,?_⟩;rw[jm,hs];exact⟨(xx.trans jM).trans x7,h76,h79,by simp[e0],by simp[e2],by simp[e6],by simp[e9],by simp[Yu],by simp[Ac],by simp⟩
    .rw[if_pos ⟨c1,c2⟩]at hs
     obtain⟨h8,WM⟩:∃z,z=h7.put B9 (.cells (Oj (acc++[vv])) 40 false):=⟨_,rfl⟩
     have wr8:h7.X4 B9 (acc.length*2) [.int .i64 vv.1,.int .i64 vv.2]=some h8:=by
      rw[ZF h79 (by show _<=4;simp only[List.length_cons,List.length_nil];omega),Bg c1,WM]
     have x8:Ext g0 h8:=by rw[WM];exact ((xx.trans jM).trans x7).put hB9 _
     have h89:h8.get B9=some (.cells (Oj (acc++[vv])) 40 false):=by rw[WM,ZV (H.ZW h79)]
     have h86:h8.get B6=_:=(by rw[WM,ZX hB]:h8.get B6=h7.get B6).trans h76;simp[Ms,uh,hj5,Ac,ix,nw,zw,q0,q1,e0,a2,HJ,r3,e2,a4,zw5,r5,r7,z2,Yu,c1,Hy,e9,sla,a7,c2,wr8,zn,-Int.natCast_add];refine⟨m-1,by omega,by omega,?_⟩;rw[jm,hs];exact⟨x8,h86,h89,by simp[e0],by simp[e2],by simp[e6],by simp[e9],by simp,by simp[Ac],by simp⟩
   .have Hy:¬(acc.length:Int)<2:=by omega
    rw[if_neg (by rintro⟨h,_⟩;exact c1 h)]at hs;simp[Ms,uh,hj5,Ac,ix,nw,zw,q0,q1,e0,a2,HJ,r3,e2,a4,zw5,r5,z2,Yu,Hy,-Int.natCast_add];refine⟨m-1,by omega,by omega,?_⟩;rw[jm,hs];exact⟨xx.trans jM,h66,cL,by simp[e0],by simp[e2],by simp[e6],by simp[e9],by simp[Yu],by simp[Ac],by simp⟩
theorem Bf(a:Zl D h g G){hh:Int}(p:kz x y)(hi:Vd x y)(hw:X6 w)(hr:0<=ref/\ref<=2):
   RT (λr h'=>r=.Zt [.agg (Oj (XJ G x y w ref 4)),.int .i64 ((XJ G x y w ref 4).length:Nat),.int .i64 0]/\Ext h h') (KW 95 [.ptr g 0,.agg [.int .i64 x,.int .i64 y,.int .i64 w,.int .i64 hh],.int .i64 ref] h):=by
 obtain⟨p1,p2,p3,p4,p5,p6⟩:=p;have BT:8<=w/\w<=64/\w%8=0:=by unfold X6 at hw;omega
 obtain⟨h1,ZL⟩:∃z,z=h.new (.cells [.int .i64 x,.int .i64 y,.int .i64 w,.int .i64 hh] 36 false):=⟨_,rfl⟩
 obtain⟨h2,Zq⟩:∃z,z=h1.new (.cells [.int .i64 0,.int .i64 0,.int .i64 0,.int .i64 0] 40 false):=⟨_,rfl⟩
 obtain⟨h3,Zc⟩:∃z,z=h2.new (.cells [.int .i64 0,.int .i64 0,.int .i64 0,.int .i64 0] 40 false):=⟨_,rfl⟩
 have n1:h1.n=h.n+1:=by rw[ZL,H.ZP]
 have n2:h2.n=h1.n+1:=by rw[Zq,H.ZP]
 have x3:Ext h h3:=by rw[Zc,Zq,ZL];exact (((Ext.refl h).new _).new _).new _
 have g4:h3.get h.n=some (.cells [.int .i64 x,.int .i64 y,.int .i64 w,.int .i64 hh] 36 false):=by rw[Zc,ZR (by omega),Zq,ZR (by omega),ZL,ZY]
 have g6:h3.get h1.n=some (.cells [.int .i64 0,.int .i64 0,.int .i64 0,.int .i64 0] 40 false):=by rw[Zc,ZR (by omega),Zq,ZY]
 have g9:h3.get h2.n=some (.cells [.int .i64 0,.int .i64 0,.int .i64 0,.int .i64 0] 40 false):=by rw[Zc,ZY]
 have OU:=UN (a.ext x3);have PX:=Te (a.ext x3) (x:=x) (y:=y) (by omega) (by omega);have t1:=Uf p1 p3;have t2:=Uf p4 p6;have t3:=Uf (show 0<=w by omega) BT.2.2;have z1:IntKind.i64.wrap (x-1)=x-1:=ZS (by omega) (by omega);have z2:IntKind.i64.wrap (y-1)=y-1:=ZS (by omega) (by omega);have z3:IntKind.i64.wrap (x+w)=x+w:=ZS (by omega) (by omega);have q0:=ZZ (o:=0) g4;have q1:=ZZ (o:=1) g4;have q2:=ZZ (o:=2) g4;rw[W3 r95,s95];simp[nw,bx,<-ZL,<-Zq,<-Zc,OU,PX,q0,q1,q2,t1,t2,t3,hi,z1,z2,z3,show ¬w<8 by omega,show ¬64<w by omega,show ¬ref<0 by omega,show ¬2<ref by omega];refine XV (C:=λo=>RT _ (fin Tryz.prog _ _ (sq (Y9 1 o) _))) _ _ (me a (B6:=h1.n) (B9:=h2.n) (ref:=ref) (by omega) (by omega) (by omega) (x:=x) (y:=y) (w:=w) ⟨p1,by omega⟩ ⟨p4,by omega⟩ ⟨by omega,by omega⟩) 4
   ⟨Nat.le_refl _,x3,g6,g9,by simp,by simp,by simp,by simp,by simp[XJ],by simp,by simp⟩ ?_
 rintro⟨sx,se,sh⟩ ⟨s1,xx,h6,h9,e0,e2,e6,e9,Yu,Ac,uh⟩;simp only at s1 xx h6 h9 e0 e2 e6 e9 Yu Ac uh;subst s1;obtain⟨acc,zv⟩:∃acc,acc=XJ G x y w ref 4:=⟨_,rfl⟩
 rw[<-zv]at h9 Yu ⊢;have r9:sh.Ze h2.n 0 4=some (Oj acc):=by rw[ZU h9 (by show _<=4;omega)];rfl
 have w6:sh.X4 h1.n 0 (Oj acc)=some (sh.put h1.n (.cells (Oj acc) 40 false)):=by rw[ZF h6 (by show 0+4<=4;omega)];rfl
 have r6:(sh.put h1.n (.cells (Oj acc) 40 false)).Ze h1.n 0 4=some (Oj acc):=by rw[ZU (ZV (H.ZW h6)) (by show _<=4;omega)];rfl
 have l4:(Oj acc).length=4:=rfl;simp[e9,r9,e6,w6,Yu,r6,l4];exact⟨rfl,xx.put (by omega) _⟩
open Go.Zf (ZS)
abbrev cJ:List Nat:=[0,1,4,5,7,8]
structure I81(g0:H)(b:Nat)(k:J5)(v:Int)(l:List Int)(j:Nat)(e:E)(h:H):Prop where
 hh:h=g0
 no:v ∉ l.take j
 e0:e.s cJ 0=.sl b 0 l.length k
 e1:e.s cJ 1=.int .i64 v
 e7:e.s cJ 7=.int .i64 (l.length:Nat)
 e8:e.s cJ 8=.int .i64 (j:Nat)
theorem Ez{b:Nat}{l:List Int}{t:TypeId}(a:h.get b=some (.cells (CZ l) t ro))(k:J5)(hl:l.length<1000)(v:Int):
   RT (λw h'=>(∃i:Int,w=.int .i64 i/\-1<=i/\i<1000/\(0<=i↔v∈l))/\h'=h) (KW 146 [.sl b 0 l.length k,.int .i64 v] h):=by
 rw[W2 Wqk,fL];simp;refine XV (C:=λo=>RT _ (fin Tryz.prog _ _ (sq (Y9 0 o) _))) (λm e g=>m<=l.length/\I81 h b k v l (l.length-m) e g)
   (λs=>(s.x=.ex 0/\v ∉ l/\s.h=h)\/(s.x=.rt/\v∈l/\s.h=h/\∃i:Nat,i<l.length/\s.e.s cJ 4=.int .i64 (i:Nat))) ?_ l.length ⟨Nat.le_refl _,by simp;exact⟨rfl,by simp,by simp,by simp,by simp,by simp⟩⟩ ?_
 . rintro m e g ⟨hm,xx,no,e0,e1,e7,e8⟩
   subst xx;obtain⟨j,hj⟩:∃j,j=l.length-m:=⟨_,rfl⟩
   rw[<-hj]at no e8;by_cases c:j=l.length
   .subst c
    simp[IL,e8,e7];refine .inl ⟨rfl,?_,rfl⟩;rw[List.take_length]at no;exact no
   .have QW:j<l.length:=by omega
    have xl:(j:Int)<l.length:=by omega
    have rj:g.Zp b j=some (.int .i64 (l.getD j 0)):=by rw[ZZ a,Be _ _ QW]
    obtain⟨u,hu⟩:∃u,u=l.getD j 0:=⟨_,rfl⟩
    rw[<-hu]at rj;have cO:l[j]=u:=by rw[hu];simp[List.getD,QW]
    have z2:IntKind.i64.wrap ((j:Int)+1)=((j+1:Nat):Int):=by rw[ZS (by omega) (by omega)];omega
    by_cases cu:v=u
    .simp[IL,e8,e7,QW,xl,e0,rj,e1,cu]
     exact .inr ⟨rfl,by rw[<-cO];exact List.getElem_mem _,rfl,j,QW,by simp⟩
    .simp[IL,e8,e7,QW,xl,e0,rj,e1,cu,z2,-Int.natCast_add]
     refine⟨m-1,by omega,by omega,?_⟩;rw[show l.length-(m-1)=j+1 by omega];refine⟨rfl,?_,by simp[e0],by simp[e1],by simp[e7],by simp⟩;rw[List.take_add_one,List.mem_append,List.getElem?_eq_getElem QW,cO];rintro (h|h)
     .exact no h
     .simp at h;exact cu h
 . rintro⟨sx,se,sh⟩ (⟨Tt,h2,xx⟩|⟨Tt,h2,xx,i,hi,e4⟩)
   .simp only at Tt
    subst Tt;simp;exact⟨⟨_,rfl,by decide,by decide,by simp[h2]⟩,xx⟩
   .simp only at Tt e4
    subst Tt;simp[e4];exact⟨⟨_,rfl,by omega,by omega,by simp[h2]⟩,xx⟩
theorem Kw{b:Nat}{l:List Int}{t:TypeId}(a:h.get b=some (.cells (CZ l) t ro))(k:J5)(hl:l.length<1000)(v:Int):
   RT (λw h'=>w=.bool (decide (v∈l))/\h'=h) (KW 108 [.sl b 0 l.length k,.int .i64 v] h):=by
 obtain⟨w,h2,a2,⟨i,rfl,i1,i2,i3⟩,rfl⟩:=(Ez a k hl v).elim;rw[W2 WqG,gG];simp[a2];exact⟨by simp[i3],rfl⟩
instance(n:Int):Decidable (X6 n):=inferInstanceAs (Decidable (_\/_))
theorem Gs(h:H)(n:Int):RT (λw h'=>w=.bool (decide (X6 n))/\Ext h h') (KW 108 [.sl h.n 0 4 (.ex 4),.int .i64 n] (h.new (.cells [.int .i64 8,.int .i64 16,.int .i64 32,.int .i64 64] 3 false))):=by
 refine (Kw (l:=[8,16,32,64]) (b:=h.n) (ZY) (.ex 4) (by decide) n).mono ?_;rintro w h' ⟨rfl,rfl⟩;exact⟨by rw[V.bool.injEq,decide_eq_decide];simp[X6],(Ext.refl h).new _⟩
@[simp] theorem bs4(h:H)(t:Nat)(x y z w:V)(a b c d:Int):bs h t 4 [x,y,z,w] [(some (0,1),.int .i64 a),(some (1,1),.int .i64 b),(some (2,1),.int .i64 c),(some (3,1),.int .i64 d)]=some (.sl h.n 0 4 (.ex 4),h.new (.cells [.int .i64 a,.int .i64 b,.int .i64 c,.int .i64 d] t false)):=id rfl
theorem JB(n:Int)(h:H):RT (λw h'=>w=.bool (decide (X6 n))/\Ext h h') (KW 59 [.int .i64 n] h):=by
 obtain⟨w,h1,a1,rfl,x1⟩:=(Gs h n).elim;rw[W1 r59,s59];simp[a1];exact⟨rfl,x1⟩
theorem JA(n:Int)(h:H):RT (λw h'=>w=.bool (decide (X6 n))/\Ext h h') (KW 93 [.int .i64 n] h):=by
 obtain⟨w,h1,a1,rfl,x1⟩:=(Gs h n).elim;rw[W1 r93,s93];simp[a1];exact⟨rfl,x1⟩
def QV(X Y:Int)(n:Nat):List (Int×Int):=(List.range n).map λi=>(X+(i:Nat),Y)
def Pn(X Y:Int)(c r:Nat):List (Int×Int):=(List.range r).flatMap λj=>QV X (Y+(j:Nat)) c
theorem Bc(X Y:Int)(n:Nat):QV X Y (n+1)=QV X Y n++[(X+(n:Nat),Y)]:=by simp[QV,List.range_succ]
theorem Oi(X Y:Int)(c r:Nat):Pn X Y c (r+1)=Pn X Y c r++QV X (Y+(r:Nat)) c:=by simp[Pn,List.range_succ]
theorem Gq(X Y:Int)(n:Nat):(QV X Y n).length=n:=by simp[QV]
theorem LK(X Y:Int)(c:Nat):∀r,(Pn X Y c r).length=r*c
 |0=>by simp[Pn]
 |r+1=>by rw[Oi,List.length_append,LK X Y c r,Gq,Nat.succ_mul]
variable{c:Nat}
theorem Pm{X Y:Int}{r:Nat}{p:Int×Int}:p∈Pn X Y c r↔∃i j:Nat,i<c/\j<r/\p=(X+i,Y+j):=by
 unfold Pn QV;simp only[List.mem_flatMap,List.mem_range,List.mem_map];constructor
 . rintro⟨j,hj,i,hi,rfl⟩;exact⟨i,j,hi,hj,rfl⟩
 . rintro⟨i,j,hi,hj,rfl⟩;exact⟨j,hj,i,hi,rfl⟩
theorem Ey(X Y:Int)(n:Nat):(QV X Y n).Nodup:=by
 unfold QV;rw[List.nodup_iff_pairwise_ne,List.pairwise_map];refine List.Pairwise.imp ?_ (List.nodup_range (n:=n));intro a b hab e;simp only[Prod.mk.injEq]at e;omega
theorem LJ(X Y:Int)(c:Nat):∀r,(Pn X Y c r).Nodup
 |0=>by simp[Pn]
 |r+1=>by
   rw[Oi,List.nodup_append];refine⟨LJ X Y c r,Ey _ _ _,?_⟩;intro p hp q hq e;subst e;obtain⟨i,j,_,hj,rfl⟩:=Pm.1 hp;unfold QV at hq;simp only[List.mem_map,List.mem_range,Prod.mk.injEq]at hq;obtain⟨k,_,_,h2⟩:=hq;omega
def Xf(b:Bk):List (Int×Int):=Pn (b.x/8) (b.y/8) (b.w/8).toNat (b.h/8).toNat
def VH(G:Gr)(b:Bk):Gr×Int :=
 if Vd b.x b.y/\Vd (b.x+b.w-1) (b.y+b.h-1)then
   if ∀p∈Xf b,XW p G.cs=none then (⟨G.bs++[b],G.cs++(Xf b).map λp=>(p,G.bs.length)⟩,0)else (G,2)
 else (G,2)
theorem S2(k:Int×Int):∀(l m:List ((Int×Int)×Nat)),XW k (l++m)=match XW k l with|some n=>some n|none=>XW k m
 |[],m=>rfl
 |(a,n)::l,m=>by
   simp only[List.cons_append,XW];by_cases e:k=a
   .simp only[e,if_true]
   .simp only[e,if_false];exact S2 k l m
theorem Qq{k:Int×Int}:∀{l:List ((Int×Int)×Nat)},(∀e∈l,e.1≠k)->XW k l=none
 |[],_=>rfl
 |(a,n)::l,h=>by
   unfold XW;rw[if_neg (λe=>h (a,n) (List.mem_cons_self ..) e.symm)];exact Qq λe he=>h e (List.mem_cons_of_mem _ he)
theorem l9{l:List ((Int×Int)×Nat)}(hm:h.get m=some (.map (l.map Gv)))(hn:XW (x,y) l=none)(n:Nat):
   km [.i .i64,.i .i64] h (.map m) (.agg [.int .i64 x,.int .i64 y]) (.int .i64 (n:Nat))=some (.Wz,h.put m (.map ((l++[((x,y),n)]).map Gv))):=by
 obtain⟨j,hj⟩:=Ok x y l 0;have h1:Yr [.i .i64,.i .i64] [V.int .i64 x,.int .i64 y]=true:=rfl;rw[hn]at hj;simp only[km,h1,if_true,hm,hj,Option.map_none,Option.bind_some,List.map_append,List.map_cons,List.map_nil,Gv]
open Go.Zf (ZS)
def Ie(p:Int×Int):List V:=[.int .i64 p.1,.int .i64 p.2]
theorem rT:∀(l:List (Int×Int)),(l.flatMap Ie).length=l.length*2/\∀(n:Nat) (p:Int×Int),l[n]?=some p->((l.flatMap Ie).drop (n*2)).take 2=Ie p:=by
 intro l
 induction l with
 |nil=>exact⟨rfl,λn p h=>by simp at h⟩
 |cons x l ih =>
   refine⟨by rw[List.flatMap_cons,List.length_append,ih.1,List.length_cons];show 2+_=_;omega,λn p h=>?_⟩;rw[List.flatMap_cons];cases n with
   |zero=>simp at h;subst h;rfl
   |succ n =>
    have e:(n+1)*2=2+n*2:=by omega
    rw[e,<-List.drop_drop,List.drop_left' (show (Ie x).length=2 from rfl)];exact ih.2 n p (by simpa using h)
@[simp] theorem kqE(h:H)(t:Nat)(x y:V)(a b:Int):bs h t 1 [x,y] [(some (0,2),.agg [.int .i64 a,.int .i64 b])]=some (.sl h.n 0 1 (.ex 1),h.new (.cells [.int .i64 a,.int .i64 b] t false)):=id rfl
@[simp] theorem xqX(h:H)(t:Nat)(b:Bk):bs h t 1 YC.cs [(some (0,23),.agg b.cs)]=some (.sl h.n 0 1 (.ex 1),h.new (.cells b.cs t false)):=id rfl
theorem Ic{b z:Nat}{l:List V}{t:TypeId}(hb:h.get b=some (.cells l t ro))(hl:l.length=z):XY h z 1 (.sl b 0 1 (.ex 1))=some l:=by
 unfold XY;simp only[Nat.one_mul];rw[ZU hb (by omega),List.drop_zero,List.take_of_length_le (by omega)]
def pQ(b:Bk)(G:Gr):Prop:=∃q∈Xf b,XW q G.cs≠none
abbrev Hx:List Nat:=[0,1,3,4,5,6,7,9,11,104,105,106]
def SJ(b:Bk)(j i:Nat):List (Int×Int):=Pn (b.x/8) (b.y/8) (b.w/8).toNat j++QV (b.x/8) (b.y/8+(j:Nat)) i
structure jL(h1:H)(g p:Nat)(b:Bk)(G:Gr)(L:List (Int×Int))(e:E)(h:H):Prop where
 xx:Ext h1 h
 no:∀q∈L,XW q G.cs=none
 own:Zv h1.n h (e.s Hx 5) 125 2 (L.flatMap Ie) L.length
 e0:e.s Hx 0=.ptr g 0
 e3:e.s Hx 3=.ptr p 0
structure As(b:Bk):Prop where
 sh:YR b
 i1:Vd b.x b.y
 i2:Vd (b.x+b.w-1) (b.y+b.h-1)
theorem As.MB(a:As b):∃X Y c r:Nat,b.x=8*(X:Int)/\b.y=8*(Y:Int)/\b.w=8*(c:Int)/\b.h=8*(r:Int)/\b.x/8=X/\b.y/8=Y/\(b.w/8).toNat=c/\(b.h/8).toNat=r/\X+c<=8/\Y+r<=8/\1<=c/\1<=r:=by
 obtain⟨⟨hx,hy,hw,hh,_⟩,i1,i2⟩:=a;unfold UA at hx hy;unfold X6 at hw hh;unfold Vd at i1 i2;refine⟨(b.x/8).toNat,(b.y/8).toNat,(b.w/8).toNat,(b.h/8).toNat,?_,?_,?_,?_,?_,?_,rfl,rfl,?_,?_,?_,?_⟩<;>omega
variable{h1:H}
theorem xi(a:Zl D h1 g G)(hp:h1.get p=some (.cells b.cs 42 false))(ib:As b)(hj:j<(b.h/8).toNat):
   ∀m e h,(m<=(b.w/8).toNat/\jL h1 g p b G (SJ b j ((b.w/8).toNat-m)) e h/\e.s Hx 6=.int .i64 (b.y+8*(j:Nat))/\e.s Hx 7=.int .i64 (b.x+8*((b.w/8).toNat-m:Nat))) ->
    LS (λm e h=>m<=(b.w/8).toNat/\jL h1 g p b G (SJ b j ((b.w/8).toNat-m)) e h/\e.s Hx 6=.int .i64 (b.y+8*(j:Nat))/\e.s Hx 7=.int .i64 (b.x+8*((b.w/8).toNat-m:Nat)))
     (λs=>(s.x=.ex 3/\jL h1 g p b G (SJ b j (b.w/8).toNat) s.e s.h/\s.e.s Hx 6=.int .i64 (b.y+8*(j:Nat)))\/(s.x=.rt/\s.e.s Hx 4=.int .i64 2/\Ext h1 s.h/\pQ b G)) m (G9 KW ZI e h):=by
 rintro m e h ⟨hm,⟨xx,no,own,e0,e3⟩,e6,e7⟩;obtain⟨X,Y,c,r,bx,HK,bw,bh,dx,dy,dw,dh,l1,l2,l3,l4⟩:=ib.MB;obtain⟨i,hi⟩:∃i,i=(b.w/8).toNat-m:=⟨_,rfl⟩
 rw[<-hi]at no own e7;have gp:h.get p=_:=(xx.get _ (H.ZW hp)).trans hp;have rd:∀o,h.Zp p o=b.cs[o]?:=λo=>ZZ gp;have z1:IntKind.i64.wrap (b.x+b.w)=b.x+b.w:=ZS (by omega) (by omega);by_cases ci:i=c
 . have:¬b.x+8*(i:Int)<b.x+b.w:=by omega
   simp[G9,e3,rd,z1,e7,this];refine .inl ⟨rfl,⟨xx,by rw[dw,<-ci];exact no,by simp;rw[dw,<-ci];simpa using own,by simp[e0],by simp[e3]⟩,by simp[e6]⟩
 . have pP:i<c:=by omega
   have lt:b.x+8*(i:Int)<b.x+b.w:=by omega
   have pS:=Qr (b.x+8*(i:Nat)) (b.y+8*(j:Nat)) ⟨by omega,by omega⟩ ⟨by omega,by omega⟩ h;have d1:(b.x+8*(i:Int))/8=((X+i:Nat):Int):=by omega
   have d2:(b.y+8*(j:Int))/8=((Y+j:Nat):Int):=by omega
   rw[d1,d2]at pS;obtain⟨h2,Zq⟩:∃z,z=h.new (.cells [.int .i64 ((X+i:Nat):Int),.int .i64 ((Y+j:Nat):Int)] 125 false):=⟨_,rfl⟩
   rw[<-Zq]at pS;have x2:Ext h h2:=by rw[Zq];exact (Ext.refl h).new _
   have a2:=a.ext (xx.trans x2);obtain⟨⟨vb,mm,k1,k2,k3,k4,k5,k6,k7⟩,ok,hD⟩:=a2;have gg:h.get g=h2.get g:=by rw[x2.get g];have:=hD g k4;have:=a.hD g k4;have:=xx.n;omega
   have q6:=ZZ (o:=6) k1;have cU:h.Zp g 6=some (.map mm):=by rw[ZZ (gg.trans k1)];rfl
   have lk:=xq k2 ((X+i:Nat):Int) ((Y+j:Nat):Int);have l7:=Qr (b.x+8*(i:Nat)) (b.y+8*(j:Nat)) ⟨by omega,by omega⟩ ⟨by omega,by omega⟩ h2;rw[d1,d2]at l7;obtain⟨h3,Zc⟩:∃z,z=h2.new (.cells [.int .i64 ((X+i:Nat):Int),.int .i64 ((Y+j:Nat):Int)] 125 false):=⟨_,rfl⟩
   rw[<-Zc]at l7;have x3:Ext h2 h3:=by rw[Zc];exact (Ext.refl h2).new _
   obtain⟨h4,Xs⟩:∃z,z=h3.new (.cells [.int .i64 ((X+i:Nat):Int),.int .i64 ((Y+j:Nat):Int)] 125 false):=⟨_,rfl⟩
   have x4:Ext h3 h4:=by rw[Xs];exact (Ext.refl h3).new _
   have g4:h4.get h3.n=some (.cells [.int .i64 ((X+i:Nat):Int),.int .i64 ((Y+j:Nat):Int)] 125 false):=by rw[Xs];exact ZY
   have Aa:=(x2.trans x3).trans x4;have xn:=xx.n;have wq4:=Aa.n;have ln:(SJ b j i).length=j*c+i:=by unfold SJ;rw[List.length_append,LK,Gq,dw]
   have jc:j*c<=8*8:=Nat.mul_le_mul (by omega) (by omega);obtain⟨v',h5,ap,Dr,n5,qv,_⟩:=Vq (bytes:=16) (own.ext Aa) (by omega) (y:=.sl h3.n 0 1 (.ex 1)) (m:=1) rfl (Ic g4 rfl) rfl (by rw[ln];omega);have z8:IntKind.i64.wrap (b.x+8*(i:Int)+8)=b.x+8*(i:Int)+8:=ZS (by omega) (by omega);cases hf:XW (((X+i:Nat):Int),((Y+j:Nat):Int)) G.cs with
   |some n =>
    rw[hf]at lk;simp[G9,e3,rd,z1,e7,lt,e0,e6,-Int.natCast_add,pS,q6,cU,lk];refine .inr ⟨rfl,by simp,xx.trans x2,(((X+i:Nat):Int),((Y+j:Nat):Int)),?_,by rw[hf];exact λh=>by cases h⟩;unfold Xf;rw[Pm];exact⟨i,j,by omega,hj,by rw[dx,dy];simp⟩
   |none =>
    rw[hf]at lk;simp[G9,e3,rd,z1,e7,lt,e0,e6,-Int.natCast_add,pS,q6,cU,lk,l7,<-Xs,ap,z8];have xh:SJ b j (i+1)=SJ b j i++[(((X+i:Nat):Int),((Y+j:Nat):Int))]:=by
     unfold SJ;rw[Bc,List.append_assoc,dx,dy];simp
    refine⟨m-1,by omega,by omega,?_,by simp[e6],by simp;omega⟩;rw[show (b.w/8).toNat-(m-1)=i+1 by omega,xh];refine⟨⟨by omega,λq hq=>?_⟩,λq hq=>?_,by simp[List.flatMap_append];simpa [Ie]using Dr,by simp[e0],by simp[e3]⟩
    .rw[qv q (by omega) (λo n k e=>by have:=own.fresh _ _ _ _ e;omega),Aa.get q (by omega),xx.get q hq]
    .rcases List.mem_append.1 hq with hq|hq
     .exact no q hq
     .rw[List.mem_singleton.1 hq];exact hf
theorem xd(a:Zl D h1 g G)(hp:h1.get p=some (.cells b.cs 42 false))(ib:As b):
   ∀m e h,(m<=(b.h/8).toNat/\jL h1 g p b G (SJ b ((b.h/8).toNat-m) 0) e h/\e.s Hx 6=.int .i64 (b.y+8*((b.h/8).toNat-m:Nat))) ->
    LS (λm e h=>m<=(b.h/8).toNat/\jL h1 g p b G (SJ b ((b.h/8).toNat-m) 0) e h/\e.s Hx 6=.int .i64 (b.y+8*((b.h/8).toNat-m:Nat)))
     (λs=>(s.x=.ex 1/\jL h1 g p b G (Xf b) s.e s.h)\/(s.x=.rt/\s.e.s Hx 4=.int .i64 2/\Ext h1 s.h/\pQ b G)) m (DC KW ZI e h):=by
 rintro m e h ⟨hm,⟨xx,no,own,e0,e3⟩,e6⟩;obtain⟨X,Y,c,r,bx,HK,bw,bh,dx,dy,dw,dh,l1,l2,l3,l4⟩:=ib.MB;obtain⟨j,hj⟩:∃j,j=(b.h/8).toNat-m:=⟨_,rfl⟩
 rw[<-hj]at no own e6;have gp:h.get p=_:=(xx.get _ (H.ZW hp)).trans hp;have rd:∀o,h.Zp p o=b.cs[o]?:=λo=>ZZ gp;have z1:IntKind.i64.wrap (b.y+b.h)=b.y+b.h:=ZS (by omega) (by omega);have kqD:SJ b j 0=Pn (b.x/8) (b.y/8) (b.w/8).toNat j:=by simp[SJ,QV]
 by_cases cj:j=r
 . have:¬b.y+8*(j:Int)<b.y+b.h:=by omega
   have ec:Xf b=SJ b j 0:=by rw[kqD];unfold Xf;rw[cj,dh]
   simp[DC,e3,rd,z1,e6,this];refine .inl ⟨rfl,⟨xx,by rw[ec];exact no,by rw[ec];simpa using own,by simp[e0],by simp[e3]⟩⟩
 . have hjr:j<(b.h/8).toNat:=by omega
   have lt:b.y+8*(j:Int)<b.y+b.h:=by omega
   have z8:IntKind.i64.wrap (b.y+8*(j:Int)+8)=b.y+8*(j:Int)+8:=ZS (by omega) (by omega);simp[DC,e3,rd,z1,e6,lt];refine XV (C:=λo=>LS _ _ m (sq (Y9 2 (Y9 3 o)) _)) _ _ (xi a hp ib hjr) (b.w/8).toNat ⟨Nat.le_refl _,⟨xx,by rw[Nat.sub_self];exact no,by rw[Nat.sub_self];simpa using own,by simp[e0],by simp[e3]⟩,by simp[e6],by simp⟩ ?_;rintro⟨sx,se,sh⟩ (⟨s1,⟨yy,no',cI,f0,f3⟩,f6⟩|⟨s1,f4,yy,kn⟩)
   .simp only at s1 yy cI f0 f3 f6
    subst s1;simp[f6,z8];have ec:SJ b (j+1) 0=SJ b j (b.w/8).toNat:=by unfold SJ;rw[Oi];simp[QV]
    refine⟨m-1,by omega,by omega,?_,by simp;omega⟩;rw[show (b.h/8).toNat-(m-1)=j+1 by omega,ec];exact⟨yy,no',by simpa using cI,by simp[f0],by simp[f3]⟩
   .simp only at s1 f4 yy
    subst s1;simp;exact .inr ⟨rfl,f4,yy,kn⟩
structure J12(h2:H)(g m:Nat)(cs:List ((Int×Int)×Nat))(n:Nat)(ob p:Nat)(L:List (Int×Int))(i:Nat)(e:E)(h:H):Prop where
 n_:h2.n<=h.n
 get:∀c,c<h2.n->c≠m->h.get c=h2.get c
 mp:h.get m=some (.map ((cs++(L.take i).map λq=>(q,n)).map Gv))
 e0:e.s Hx 0=.ptr g 0
 e3:e.s Hx 3=.ptr p 0
 rS:e.s Hx 104=.sl ob 0 L.length (.op 2)
 xc:e.s Hx 105=.int .i64 (L.length:Nat)
 xb:e.s Hx 106=.int .i64 (i:Nat)
variable{h2:H}
theorem xa{ob:Nat}{cs:List ((Int×Int)×Nat)}{L:List (Int×Int)}{vb:V}(hg:h2.Zp g 6=some (.map m))(UR:h2.Zp g 5=some vb)(hvb:Kc vb=some (.int .i64 (n:Nat)))(Oo:V.same vb vb=true)(gm:g≠m)(gl:g<h2.n)(ml:m<h2.n)
   (hob:h2.get ob=some (.cells (L.flatMap Ie) 125 false)) (om:ob≠m) (nd:L.Nodup) (no:∀q∈L,XW q cs=none) (hL:L.length<=1000) :
   ∀k e h,(k<=L.length/\J12 h2 g m cs n ob p L (L.length-k) e h)->LS (λk e h=>k<=L.length/\J12 h2 g m cs n ob p L (L.length-k) e h) (λs=>s.x=.ex 5/\J12 h2 g m cs n ob p L L.length s.e s.h) k (DB KW ZI e h):=by
 rintro k e h ⟨hk,hn,get,mp,e0,e3,rS,xc,xb⟩;obtain⟨i,hi⟩:∃i,i=L.length-k:=⟨_,rfl⟩
 rw[<-hi]at mp xb;by_cases ci:i=L.length
 . subst ci
   simp[DB,xb,xc];exact⟨rfl,hn,get,mp,by simp[e0],by simp[e3],by simp[rS],by simp[xc],by simp[xb]⟩
 . have TW:i<L.length:=by omega
   have OI:(i:Int)<L.length:=by omega
   obtain⟨⟨x,y⟩,hq⟩:∃q,L[i]?=some q:=⟨_,List.getElem?_eq_getElem TW⟩
   obtain⟨t1,t2⟩:=rT L;have kqC:h.get ob=_:=(get ob (H.ZW hob) om).trans hob;have rd:h.Ze ob (i*2) 2=some [.int .i64 x,.int .i64 y]:=by rw[ZU kqC (by omega),t2 i _ hq];rfl
   obtain⟨h3,Zc⟩:∃z,z=h.new (.cells [.int .i64 x,.int .i64 y] 125 false):=⟨_,rfl⟩
   have x3:Ext h h3:=by rw[Zc];exact (Ext.refl h).new _
   have zw:(h.new (.cells [.int .i64 0,.int .i64 0] 125 false)).X4 h.n 0 [.int .i64 x,.int .i64 y]=some h3:=by rw[Zc];exact YO _ _ _ _ rfl
   have r3:h3.Ze h.n 0 2=some [.int .i64 x,.int .i64 y]:=by rw[Zc];exact VZ _ _ _ _ _ _ (by simp)
   have x3n:=x3.n;have gg:h3.get g=h2.get g:=by rw[x3.get g (by omega),get g gl gm]
   have q6:h3.Zp g 6=some (.map m):=by rw[<-hg];unfold H.Zp;rw[gg]
   have q5:h3.Zp g 5=some vb:=by rw[<-UR];unfold H.Zp;rw[gg]
   have m3:h3.get m=_:=(x3.get m (by omega)).trans mp;have hx:(x,y) ∉ L.take i:=by
    intro hm;obtain⟨k',PQ,e⟩:=List.mem_iff_getElem.1 hm;rw[List.length_take]at PQ;rw[List.getElem_take]at e;have e2:L[k']=L[i]:=by rw[e];rw[List.getElem?_eq_getElem TW]at hq;exact (Option.some.inj hq).symm
    exact (List.pairwise_iff_getElem.1 (List.nodup_iff_pairwise_ne.1 nd)) k' i (by omega) TW (by omega) e2
   have MW:XW (x,y) (cs++(L.take i).map λq=>(q,n))=none:=by
    rw[S2,no (x,y) (List.mem_of_getElem? hq)];refine Qq λe he=>?_;obtain⟨q,pO,rfl⟩:=List.mem_map.1 he;rintro rfl;exact hx pO
   have up:=l9 m3 MW n;rw[show (cs++(L.take i).map λq=>(q,n))++[((x,y),n)]=cs++(L.take (i+1)).map λq=>(q,n)by rw[List.take_add_one,hq];simp]at up;have z2:IntKind.i64.wrap ((i:Int)+1)=((i+1:Nat):Int):=by rw[ZS (by omega) (by omega)];omega
   have nZ:∀{β:Type} (z:Option β),ck (some vb) vb z=z:=λz=>Kk z rfl Oo;have hxy:L.length-(k-1)=i+1:=by omega
   simp only[Ba]at up;simp[DB,xb,xc,TW,OI,rS,rd,nw,zw,r3,e0,q6,q5,hvb,up,nZ,z2,-Int.natCast_add];refine⟨k-1,by omega,by omega,?_⟩;rw[hxy];exact⟨by rw[H.ZJ];omega,λc hc hm=>by rw[ZX hm,x3.get c (by omega),get c hc hm],by rw[ZV (by omega)];simp[List.map_take],by simp[e0],by simp[e3],by simp[rS],by simp[xc],by simp⟩
theorem Ki(a:Zl D h g G)(sh:YR b)(hv:Y5 b.m0/\Y5 b.m1)(hn:G.bs.length<100000):
   RT (λw h'=>w=.int .i64 (VH G b).2/\Zl (grow D h h') h' g (VH G b).1/\Mod D h h') (KW 15 [.ptr g 0,b.v] h):=by
 obtain⟨h1,ZL⟩:∃z,z=h.new (.cells b.cs 42 false):=⟨_,rfl⟩
 have x1:Ext h h1:=by rw[ZL];exact (Ext.refl h).new _
 have n1:h1.n=h.n+1:=by rw[ZL,H.ZP]
 have g1:h1.get h.n=some (.cells b.cs 42 false):=by rw[ZL,ZY]
 have rd:∀o,h1.Zp h.n o=b.cs[o]?:=λo=>ZZ g1;have a1:=a.ext x1;have OU:=UN a1;obtain⟨⟨px0,px1,iH⟩,⟨py0,py1,iG⟩,sw,MC,smx⟩:=sh;have bw:8<=b.w/\b.w<=64:=by unfold X6 at sw;omega
 have bh:8<=b.h/\b.h<=64:=by unfold X6 at MC;omega
 have t1:=Uf px0 iH;have t2:=Uf py0 iG;have Ue:∀{h':H},Ext h h'->Zl (grow D h h') h' g G:=λ{h'} x=>by
   obtain⟨⟨vb,m,k1,k2,k3,k4,k5,k6,k7⟩,ok,hD⟩:=a;have xn:=x.n;exact⟨⟨vb,m,by rw[x.get g (hD g k4),k1],by rw[x.get m (hD m k5),k2],k3.ext x,.inl k4,.inl k5,k6,λc o n k e=>⟨.inl (k7 c o n k e).1,(k7 c o n k e).2⟩⟩,ok,λb hb=>by
    rcases hb with hb|hb
    .have:=hD b hb;omega
    .exact hb.2⟩
 obtain⟨_,h2,a2,rfl,x2⟩:=(JB b.w h1).elim;obtain⟨_,h3,a3,rfl,x3⟩:=(JB b.h h2).elim;simp only[sw,MC,decide_true]at a2 a3;have A9:=x2.trans x3;have PN:=x1.trans A9;have g2:h2.get h.n=_:=(x2.get _ (H.ZW g1)).trans g1;have g3:h3.get h.n=_:=(x3.get _ (H.ZW g2)).trans g2;have QU:∀o,h2.Zp h.n o=b.cs[o]?:=λo=>ZZ g2;have RC:∀o,h3.Zp h.n o=b.cs[o]?:=λo=>ZZ g3;have PX:=Te (a.ext PN) (x:=b.x) (y:=b.y) (by omega) (by omega);have zA:=Te (a.ext PN) (x:=b.x+b.w-1) (y:=b.y+b.h-1) (by omega) (by omega);have z1:IntKind.i64.wrap (b.x+b.w)=b.x+b.w:=ZS (by omega) (by omega);have z2:IntKind.i64.wrap (b.x+b.w-1)=b.x+b.w-1:=ZS (by omega) (by omega);have z3:IntKind.i64.wrap (b.y+b.h)=b.y+b.h:=ZS (by omega) (by omega);have z4:IntKind.i64.wrap (b.y+b.h-1)=b.y+b.h-1:=ZS (by omega) (by omega);rw[W2 r15,s15];by_cases c1:Vd b.x b.y;rotate_left
 . have ep:VH G b=(G,2):=by unfold VH;rw[if_neg (λh=>c1 h.1)]
   rw[ep];simp[bx,<-ZL,OU,rd,t1,t2,a2,QU,a3,RC,PX,c1];exact⟨rfl,Ue PN,Mod.of PN⟩
 by_cases c2:Vd (b.x+b.w-1) (b.y+b.h-1);rotate_left
 . have ep:VH G b=(G,2):=by unfold VH;rw[if_neg (λh=>c2 h.2)]
   rw[ep];simp[bx,<-ZL,OU,rd,t1,t2,a2,QU,a3,RC,PX,c1,z1,z2,z3,z4,zA,c2];exact⟨rfl,Ue PN,Mod.of PN⟩
 have ib:As b:=⟨⟨⟨px0,px1,iH⟩,⟨py0,py1,iG⟩,sw,MC,smx⟩,c1,c2⟩
 obtain⟨X,Y,c,r,bx_,HK,bw_,bh_,dx,dy,dw,dh,l1,l2,l3,l4⟩:=ib.MB;simp[bx,<-ZL,OU,rd,t1,t2,a2,QU,a3,RC,PX,c1,z1,z2,z3,z4,zA,c2];refine XV (C:=λo=>RT _ (fin Tryz.prog _ _ (sq (Y9 1 o) _))) _ _ (xd (a.ext PN) g3 ib) (b.h/8).toNat
   ⟨Nat.le_refl _,⟨Ext.refl _,by simp[SJ,QV,Pn],by simp[SJ,QV,Pn];exact Zv.nil _ _ _ _,by simp,by simp⟩,by simp⟩ ?_
 rintro⟨sx,se,sh⟩ (⟨s1,⟨xx,no,own,e0,e3⟩⟩|⟨s1,e4,xx,q,hq,qc⟩);rotate_left
 . simp only at s1 e4 xx
   subst s1;have ep:VH G b=(G,2):=by unfold VH;rw[if_pos ⟨c1,c2⟩,if_neg (λh=>qc (h q hq))]
   rw[ep];simp[e4];exact⟨rfl,Ue (PN.trans xx),Mod.of (PN.trans xx)⟩
 simp only at s1 xx own e0 e3;subst s1;have ep:VH G b=(⟨G.bs++[b],G.cs++(Xf b).map λp=>(p,G.bs.length)⟩,0):=by unfold VH;rw[if_pos ⟨c1,c2⟩,if_pos no]
 rw[ep];have Ll:(Xf b).length=r*c:=by unfold Xf;rw[LK,dw,dh]
 have rc:1<=r*c/\r*c<=64:=⟨Nat.mul_pos l4 l3,by have:=Nat.mul_le_mul (show r<=8 by omega) (show c<=8 by omega);omega⟩
 obtain⟨L,hL⟩:∃L,L=Xf b:=⟨_,rfl⟩
 rw[<-hL]at no own Ll ⊢;have nd:L.Nodup:=by rw[hL];exact LJ _ _ _ _
 obtain⟨ob,eo,hob,wq3,wq2⟩:∃ob,se.s Hx 5=.sl ob 0 L.length (.op 2)/\sh.get ob=some (.cells (L.flatMap Ie) 125 false)/\(L.flatMap Ie).length=L.length*2/\h3.n<=ob:=by
   rcases own with ⟨_,h0,_⟩|⟨ob,o1,o2,o3,o4⟩
   .omega
   .exact⟨ob,o1,o2,o3,o4⟩
 have x0s:=PN.trans xx;have asx:=a.ext x0s;obtain⟨⟨vb,m,k1,k2,k3,k4,k5,k6,k7⟩,ok,hD⟩:=asx;have hDg:=a.hD g k4;have hDm:=a.hD m k5;have wq1:=PN.n;have dI:h.n<h3.n:=by have:=A9.n;omega
 have xxn:=xx.n;have q6:=ZZ (o:=6) k1;have q5:=ZZ (o:=5) k1;have lv:=k3.len;simp[eo];refine XV (C:=λo=>RT _ (fin Tryz.prog _ _ (sq (Y9 5 o) _))) _ _ (xa (h2:=sh) (g:=g) (m:=m) (ob:=ob) (p:=h.n) (n:=G.bs.length) (cs:=G.cs) (L:=L) (vb:=vb) q6 q5 lv k3.same k6 (H.ZW k1) (H.ZW k2) hob (by omega) nd no (by omega)) L.length
   ⟨Nat.le_refl _,Nat.le_refl _,λ_ _ _=>rfl,by simp[k2],by simp[e0],by simp[e3],by simp,by simp,by simp⟩ ?_
 rintro⟨tx,te,th⟩ ⟨s1,tn,wZ,tm,e0',e3',_,_,_⟩;simp only at s1 tn wZ tm e0' e3';subst s1;rw[List.take_length]at tm;have gs:sh.get h.n=_:=(xx.get _ (by omega)).trans g3;have gt:th.get h.n=_:=(wZ _ (by omega) (by omega)).trans gs;have tg:th.get g=_:=(wZ g (by omega) k6).trans k1;have r5:=ZZ (o:=5) tg;have rb:th.Ze h.n 0 23=some b.cs:=by rw[ZU gt (by simp)];rfl
 have k3t:Zv 0 th vb 42 23 (G.bs.flatMap Bk.cs) G.bs.length:=k3.keep λc o n k e=>by
   have:=k7 c o n k e;exact wZ c (by have:=a.hD c this.1;omega) this.2.2
 obtain⟨h4,Xs⟩:∃z,z=th.new (.cells b.cs 42 false):=⟨_,rfl⟩
 have x4:Ext th h4:=by rw[Xs];exact (Ext.refl th).new _
 have g4:h4.get th.n=some (.cells b.cs 42 false):=by rw[Xs,ZY]
 have dU:=x4.n;obtain⟨v',h5,ap,Dr,n5,qv,kv⟩:=Vq (bytes:=176) (k3t.ext x4) (Nat.zero_le _) (y:=.sl th.n 0 1 (.ex 1)) (m:=1) rfl (Ic g4 (EC b)) rfl (by omega);have Ca:∀c,c=g\/c=m->∀o n k,vb≠.sl c o n k:=λc hc o n k e=>by
   have:=k7 c o n k e;rcases hc with rfl|rfl
   .exact this.2.1 rfl
   .exact this.2.2 rfl
 have g5:h5.get g=_:=(qv g (by omega) (Ca g (.inl rfl))).trans ((x4.get g (by omega)).trans tg);have m5:h5.get m=_:=(qv m (by omega) (Ca m (.inr rfl))).trans ((x4.get m (by omega)).trans tm);obtain⟨h6,OP⟩:∃z,z=h5.put g (.cells [.bool true,.int .i64 0,.int .i64 0,.int .i64 64,.int .i64 64,v',.map m] 83 false):=⟨_,rfl⟩
 have w6:h5.WO g 5 v'=some h6:=by rw[Zw g5 (by simp),OP];rfl
 have T1:=Dr.Zx h5 g 5;rw[w6]at T1;have Tl:∀{β:Type} (z:Option β),ck (some vb) vb z=z:=λz=>Kk z rfl k3.same;simp[e0',r5,e3',rb,<-Xs,ap,T1,Tl];have S9:∀c,c<h.n->¬D c->h6.get c=h.get c:=λc hc hd=>by
   have hcg:c≠g:=by rintro rfl;exact hd k4
   have I2:c≠m:=by rintro rfl;exact hd k5
   rw[OP,ZX hcg,qv c (by omega) (λo n k e=>hd (k7 c o n k e).1),x4.get c (by omega),wZ c (by omega) I2,x0s.get c hc]
 have hn6:h6.n=h5.n:=by rw[OP,H.ZJ]
 refine⟨rfl,⟨⟨v',m,by rw[OP,ZV (H.ZW g5)],by rw[OP,ZX (Ne.symm k6),m5],?_,.inl k4,.inl k5,k6,?_⟩,⟨?_,?_,?_⟩,?_⟩,⟨by omega,S9⟩⟩
 . have:=Dr.put (c:=g) (y:=.cells [.bool true,.int .i64 0,.int .i64 0,.int .i64 64,.int .i64 64,v',.map m] 83 false) (λo n k e=>by
    rcases kv with ⟨rfl,_⟩|kv
    .exact Ca g (.inl rfl) o n k e
    .have:=kv g o n k e;omega)
   rw[<-OP]at this;simpa [List.flatMap_append]using this
 . intro c o n k e
   rcases kv with ⟨rfl,_⟩|kv
   .exact⟨.inl (k7 c o n k e).1,(k7 c o n k e).2⟩
   .have h0:=kv c o n k e
    have iF:=Dr.under c o n k e;exact⟨.inr ⟨by omega,by omega⟩,by omega,by omega⟩
 . intro e he
   rw[List.length_append,List.length_singleton];rcases List.mem_append.1 he with he|he
   .have:=ok.lt e he;omega
   .obtain⟨q,_,rfl⟩:=List.mem_map.1 he
    simp
 . intro b' RG
   rcases List.mem_append.1 RG with RG|RG
   .exact ok.vec b' RG
   .rw[List.mem_singleton.1 RG];exact hv
 . rw[List.length_append,List.length_singleton];omega
 . rintro c (hc|hc)
   .have:=a.hD c hc;omega
   .omega
open Go.Zf (ZS)
def XG(Yn:E->H->Prop):Out->Prop
 |some ⟨.nm,e,h⟩=>Yn e h
 |_=>False
theorem l6{Yn:E->H->Prop}{x y:Out}(h:x=y):XG Yn x=XG Yn y:=by rw[h]
attribute [congr] l6
theorem Ym{C:Out->Prop}{X:Out}{k:E->H->Out}(Yn:E->H->Prop)(h1:XG Yn X)(h2:∀e h,Yn e h->C (k e h)):C (sq X k):=by
 unfold XG at h1;split at h1
 . rw[GV];exact h2 _ _ h1
 . exact h1.elim
theorem Zk(n a b:Int)(h:H):KW 43 [.int .i64 n,.int .i64 a,.int .i64 b] h=some (.ret (.bool (decide (a<=n/\n<=b))),h):=by
 rw[W3 r43,s43];by_cases c:a<=n<;>simp[c]
theorem Pk(n:Int)(h:H):KW 107 [.int .i64 n] h=some (.ret (.bool (decide (1<=n/\n<=8))),h):=by
 rw[W1 WqH,gH];simp[Zk]
theorem TE{x:Nat}(h0:x≠0)(hx:x<4294967296)(h:H):KW 100 [.int .i64 x] h=some (.ret (.int .i64 (Nat.log2 x:Nat)),h):=by
 have lb:Nat.log2 x<32:=(Nat.log2_lt h0).2 (by omega);have z1:IntKind.u64.wrap (x:Int)=x:=eX (by omega) (by omega);have z2:IntKind.i64.wrap (((Nat.log2 x+1:Nat):Int)-1)=(Nat.log2 x:Nat):=by rw[ZS (by omega) (by omega)];omega
 rw[W1 WqO,gS];simp only[wY,GV,E_s,wX,BY,l5,z1];simp[z1,zJ h0 hx,z2,-Int.natCast_add]
theorem Qp(b:Bk)(h:H):RT (λw h'=>w=.int .i64 (Xg b.w b.h)/\Ext h h') (KW 101 [b.v] h):=by
 rw[W1 WqN,gO];simp[bx,-zP,zQ];exact⟨rfl,(Ext.refl h).new _⟩
theorem Gp(b:Bk)(h:H):RT (λw h'=>w=.bool (decide (imax b.w b.h<=32))/\Ext h h') (KW 102 [b.v] h):=by
 rw[W1 WqM,gN];simp[bx,-PK,Fx];exact⟨rfl,(Ext.refl h).new _⟩
instance(n:Int):Decidable (UA n):=inferInstanceAs (Decidable (_/\_))
theorem Uz(n:Int)(h:H):KW 92 [.int .i64 n] h=some (.ret (.bool (decide (UA n))),h):=by
 rw[W1 r92,s92];by_cases c:0<=n/\n<=248
 . have t:n.tmod 8=n%8:=Int.tmod_eq_emod_of_nonneg c.1
   have e:decide (UA n)=decide (n%8=0):=by rw[decide_eq_decide];unfold UA;exact⟨λh=>h.2.2,λh=>⟨c.1,c.2,h⟩⟩
   simp[Zk,c,t,e]
 . have e:decide (UA n)=false:=by rw[decide_eq_false_iff_not];unfold UA;omega
   simp[Zk,c,e]
instance(b:Bk):Decidable (YR b):=inferInstanceAs (Decidable (_/\_))
theorem SA(b:Bk)(h:H):RT (λw h'=>w=.bool (decide (YR b))/\Ext h h') (KW 48 [b.v] h):=by
 obtain⟨h1,ZL⟩:∃z,z=h.new (.cells b.cs 42 false):=⟨_,rfl⟩
 have x1:Ext h h1:=by rw[ZL];exact (Ext.refl h).new _
 have g1:h1.get h.n=some (.cells b.cs 42 false):=by rw[ZL,ZY]
 have rd:∀o,h1.Zp h.n o=b.cs[o]?:=λo=>ZZ g1;obtain⟨_,h2,a2,rfl,x2⟩:=(JA b.w h1).elim;obtain⟨_,h3,a3,rfl,x3⟩:=(JA b.h h2).elim;have g2:h2.get h.n=_:=(x2.get _ (H.ZW g1)).trans g1;have g3:h3.get h.n=_:=(x3.get _ (H.ZW g2)).trans g2;have QU:∀o,h2.Zp h.n o=b.cs[o]?:=λo=>ZZ g2;have RC:∀o,h3.Zp h.n o=b.cs[o]?:=λo=>ZZ g3;rw[W1 r48,s48];by_cases c1:UA b.x
 . by_cases c2:UA b.y
   .by_cases c3:X6 b.w
    .by_cases c4:X6 b.h
     .have z:IntKind.i64.wrap (4*Xg b.w b.h)=4*Xg b.w b.h:=by
       have:=Fw b.w b.h;unfold X6 at c3 c4;exact ZS (by omega) (by omega)
      have e:decide (YR b)=decide (imax b.w b.h<=4*Xg b.w b.h):=by rw[decide_eq_decide];exact⟨λh=>h.2.2.2.2,λh=>⟨c1,c2,c3,c4,h⟩⟩
      simp[bx,<-ZL,Ww,Uz,rd,c1,c2,a2,c3,QU,a3,c4,RC,-zP,zQ,-PK,Fx,z,e];exact⟨rfl,(x1.trans x2).trans x3⟩
     .have e:decide (YR b)=false:=by rw[decide_eq_false_iff_not];exact λh=>c4 h.2.2.2.1
      simp[bx,<-ZL,Ww,Uz,rd,c1,c2,a2,c3,QU,a3,c4,e];exact⟨rfl,(x1.trans x2).trans x3⟩
    .have e:decide (YR b)=false:=by rw[decide_eq_false_iff_not];exact λh=>c3 h.2.2.1
     simp[bx,<-ZL,Ww,Uz,rd,c1,c2,a2,c3,e];exact⟨rfl,x1.trans x2⟩
   .have e:decide (YR b)=false:=by rw[decide_eq_false_iff_not];exact λh=>c2 h.2.1
    simp[bx,<-ZL,Ww,Uz,rd,c1,c2,e];exact⟨rfl,x1⟩
 . have e:decide (YR b)=false:=by rw[decide_eq_false_iff_not];exact λh=>c1 h.1
   simp[bx,<-ZL,Ww,Uz,rd,c1,e];exact⟨rfl,x1⟩
@[simp] theorem cH(a b c d:Int):bl YC.cs [(some (0,1),.int .i64 a),(some (1,1),.int .i64 b),(some (2,1),.int .i64 c),(some (3,1),.int .i64 d)]=some (.agg ({YC with x:=a,y:=b,w:=c,h:=d}:Bk).cs):=id rfl
@[simp] theorem Bqs(x y z w:V)(a b c d:Int):bl [x,y,z,w] [(some (0,1),.int .i64 a),(some (1,1),.int .i64 b),(some (2,1),.int .i64 c),(some (3,1),.int .i64 d)]=some (.agg [.int .i64 a,.int .i64 b,.int .i64 c,.int .i64 d]):=id rfl
theorem Qo(b:Bk)(h:H):RT (λw h'=>w=(ZD b).v/\Ext h h') (KW 49 [b.v] h):=by
 obtain⟨h1,ZL⟩:∃z,z=h.new (.cells b.cs 42 false):=⟨_,rfl⟩
 have x1:Ext h h1:=by rw[ZL];exact (Ext.refl h).new _
 have n1:h1.n=h.n+1:=by rw[ZL,H.ZP]
 have g1:h1.get h.n=some (.cells b.cs 42 false):=by rw[ZL,ZY]
 have rd:∀X o,(h1.new X).Zp h.n o=b.cs[o]?:=λX o=>ZZ (by rw[ZR (by omega)];exact g1);rw[W1 r49,s49];simp[bx,nw,<-ZL,rd];exact⟨rfl,x1.new _⟩
theorem Jz(b:Bk)(h:H):RT (λw h'=>w=.agg [.int .i64 b.x,.int .i64 b.y,.int .i64 b.w,.int .i64 b.h]/\Ext h h') (KW 96 [b.v] h):=by
 obtain⟨h1,ZL⟩:∃z,z=h.new (.cells b.cs 42 false):=⟨_,rfl⟩
 have x1:Ext h h1:=by rw[ZL];exact (Ext.refl h).new _
 have n1:h1.n=h.n+1:=by rw[ZL,H.ZP]
 have g1:h1.get h.n=some (.cells b.cs 42 false):=by rw[ZL,ZY]
 have rd:∀X o,(h1.new X).Zp h.n o=b.cs[o]?:=λX o=>ZZ (by rw[ZR (by omega)];exact g1);rw[W1 r96,s96];simp[bx,nw,<-ZL,rd];exact⟨rfl,x1.new _⟩
theorem Oh(b:Bk)(h:H):RT (λw h'=>w=.int .i64 (if b.comp then 2 else 1)/\Ext h h') (KW 94 [b.v] h):=by
 rw[W1 r94,s94];cases c:b.comp<;>simp[bx,c]<;>exact⟨rfl,(Ext.refl h).new _⟩
theorem Sf(v:Vc)(h:H):RT (λw h'=>w=.bool (decide (Y5 v))/\Ext h h') (KW 105 [IY v] h):=by
 rw[W1 WqJ,gK];by_cases c : -4095<=v.1/\v.1<=4095
 . have e:decide (Y5 v)=decide (-4095<=v.2/\v.2<=4095):=by rw[decide_eq_decide];exact⟨λh=>⟨h.2.2.1,h.2.2.2⟩,λh=>⟨c.1,c.2,h.1,h.2⟩⟩
   simp[bx,Zk,c,e];exact⟨rfl,(Ext.refl h).new _⟩
 . have e:decide (Y5 v)=false:=by rw[decide_eq_false_iff_not];exact λh=>c ⟨h.1,h.2.1⟩
   simp[bx,Zk,c,e];exact⟨rfl,(Ext.refl h).new _⟩
theorem Jy(mode:Int)(l:Vc×Vc)(h:H):RT (λw h'=>w=IY (Y2 mode l)/\Ext h h') (KW 97 [.int .i64 mode,.agg [.int .i64 l.1.1,.int .i64 l.1.2,.int .i64 l.2.1,.int .i64 l.2.2]] h):=by
 obtain⟨h1,ZL⟩:∃z,z=h.new (.cells [.int .i64 l.1.1,.int .i64 l.1.2,.int .i64 l.2.1,.int .i64 l.2.2] 40 false):=⟨_,rfl⟩
 have x1:Ext h h1:=by rw[ZL];exact (Ext.refl h).new _
 have n1:h1.n=h.n+1:=by rw[ZL,H.ZP]
 have g1:h1.get h.n=some (.cells [.int .i64 l.1.1,.int .i64 l.1.2,.int .i64 l.2.1,.int .i64 l.2.2] 40 false):=by rw[ZL,ZY]
 have r0:∀X,(h1.new X).Ze h.n 0 2=some [.int .i64 l.1.1,.int .i64 l.1.2]:=λX=>by rw[ZU (by rw[ZR (by omega)];exact g1) (by simp)];rfl
 have r2:∀X,(h1.new X).Ze h.n 2 2=some [.int .i64 l.2.1,.int .i64 l.2.2]:=λX=>by rw[ZU (by rw[ZR (by omega)];exact g1) (by simp)];rfl
 rw[W2 r97,s97];unfold Y2;by_cases c1:mode=1
 . simp[bx,nw,<-ZL,c1,r2];exact⟨rfl,x1.new _⟩
 . by_cases c2:mode=2
   .simp[bx,nw,<-ZL,c2];exact⟨rfl,x1.new _⟩
   .simp[bx,nw,<-ZL,c1,c2,r0];exact⟨rfl,x1.new _⟩
instance(m d:Int):Decidable (XX m d):=inferInstanceAs (Decidable (_\/_))
theorem Qn(m d:Int)(h:H):KW 106 [.int .i64 m,.int .i64 d] h=some (.ret (.bool (decide (XX m d))),h):=by
 rw[W2 WqI,gI];by_cases c0:d=0
 . have e:decide (XX m d)=true:=by rw[decide_eq_true_iff];exact .inl c0
   simp[c0,e,XX]
 . by_cases c1:1<=m/\m<=8
   .have e:decide (XX m d)=decide (-3<=d/\d<=3):=by rw[decide_eq_decide];exact⟨λh=>h.elim (λh=>(c0 h).elim) λh=>h.2.2,λh=>.inr ⟨c1.1,c1.2,h.1,h.2⟩⟩
    simp[c0,e,Pk,c1,Zk]
   .have e:decide (XX m d)=false:=by rw[decide_eq_false_iff_not];exact λh=>h.elim c0 λh=>c1 ⟨h.1,h.2.1⟩
    simp[c0,e,Pk,c1]
instance(ll:Bool)(b:Bk):Decidable (VY ll b):=by unfold VY;infer_instance
theorem Ew(sh:YR b)(ll:Bool)(h:H):RT (λw h'=>w=.bool (decide (VY ll b))/\Ext h h') (KW 57 [b.v,.bool ll] h):=by
 obtain⟨h1,ZL⟩:∃z,z=h.new (.cells b.cs 42 false):=⟨_,rfl⟩
 have x1:Ext h h1:=by rw[ZL];exact (Ext.refl h).new _
 have g1:h1.get h.n=some (.cells b.cs 42 false):=by rw[ZL,ZY]
 have rb:h1.Ze h.n 0 23=some b.cs:=by rw[ZU g1 (by simp)];rfl
 obtain⟨_,h2,a2,rfl,x2⟩:=(Qp b h1).elim;have g2:h2.get h.n=_:=(x2.get _ (H.ZW g1)).trans g1;have rd:∀o,h2.Zp h.n o=b.cs[o]?:=λo=>ZZ g2;obtain⟨n,n3,n6,hm,_⟩:=sh.min;have mb:8<=Xg b.w b.h/\Xg b.w b.h<=64:=by
   rw[hm];rcases (by omega:n=3\/n=4\/n=5\/n=6)with rfl|rfl|rfl|rfl<;>decide
 obtain⟨m,M5⟩:∃m,m=Xg b.w b.h:=⟨_,rfl⟩
 rw[<-M5]at a2 mb;have q2:m.tdiv 2=m/2:=Int.tdiv_eq_ediv_of_nonneg (by omega);have q4:m.tdiv 4=m/4:=Int.tdiv_eq_ediv_of_nonneg (by omega);have z2:IntKind.i64.wrap (m/2)=m/2:=ZS (by omega) (by omega);have z4:IntKind.i64.wrap (m/4)=m/4:=ZS (by omega) (by omega);have JD:=x1.trans x2;rw[W2 r57,s57];have e:VY ll b↔(if ll=true then b.tx=4 else if b.skip=true/\b.inter=true then b.tx=m else b.tx=m\/b.tx=m/2\/(m>8/\b.tx=m/4)):=by unfold VY;rw[M5]
 cases ll with
 |true=>simp[e,bx,<-ZL,rb,a2,rd];exact⟨rfl,JD⟩
 |false =>
   by_cases c1:b.skip=true
   .by_cases c2:b.inter=true
    .simp[e,bx,<-ZL,rb,a2,rd,c1,c2];exact⟨rfl,JD⟩
    .by_cases c3:b.tx=m
     .simp[e,bx,<-ZL,rb,a2,rd,c1,c2,c3];exact⟨rfl,JD⟩
     .by_cases c4:b.tx=m/2
      .simp[e,bx,<-ZL,rb,a2,rd,c1,c2,c3,q2,z2,c4,show ¬m/2=m by omega];exact⟨rfl,JD⟩
      .by_cases c5:8<m
       .simp[e,bx,<-ZL,rb,a2,rd,c1,c2,c3,q2,z2,c4,c5,q4,z4];exact⟨rfl,JD⟩
       .simp[e,bx,<-ZL,rb,a2,rd,c1,c2,c3,q2,z2,c4,c5];exact⟨rfl,JD⟩
   .by_cases c3:b.tx=m
    .simp[e,bx,<-ZL,rb,a2,rd,c1,c3];exact⟨rfl,JD⟩
    .by_cases c4:b.tx=m/2
     .simp[e,bx,<-ZL,rb,a2,rd,c1,c3,q2,z2,c4,show ¬m/2=m by omega];exact⟨rfl,JD⟩
     .by_cases c5:8<m
      .simp[e,bx,<-ZL,rb,a2,rd,c1,c3,q2,z2,c4,c5,q4,z4];exact⟨rfl,JD⟩
      .simp[e,bx,<-ZL,rb,a2,rd,c1,c3,q2,z2,c4,c5];exact⟨rfl,JD⟩
open Go.Zf (ZS)
instance(b:Bk):Decidable (S3 b):=by unfold S3;infer_instance
instance(b:Bk):Decidable (Xc b):=inferInstanceAs (Decidable (_/\_))
instance(b:Bk):Decidable (X9 b):=by unfold X9;infer_instance
instance(b:Bk):Decidable (XD b):=inferInstanceAs (Decidable (_/\_))
instance(k l:Bool)(b:Bk):Decidable (WE k l b):=by unfold WE;infer_instance
def Qm(b:Bk):Bk:={b with ym:=0,yd:=0,um:=0,ud:=0,cu:=0,cv:=0}
def LI(b:Bk):Bk:={ZD b with skip:=b.skip,tx:=b.tx}
theorem Ev(b:Bk):(((((b.cs.set 6 (.int .i64 0)).set 7 (.int .i64 0)).set 8 (.int .i64 0)).set 9 (.int .i64 0)).set 10 (.int .i64 0)).set 11 (.int .i64 0)=(Qm b).cs:=id rfl
theorem A7(b:Bk):((ZD b).cs.set 4 (.bool b.skip)).set 12 (.int .i64 b.tx)=(LI b).cs:=id rfl
theorem Eu(b:Bk):Qm b=LI b↔(b.inter=false/\b.comp=false/\b.r0=0/\b.r1=0/\b.mm=0/\b.m0=(0,0)/\b.m1=(0,0)/\b.fl=0/\b.ob=false):=by
 unfold Qm LI ZD;simp only[Bk.mk.injEq,true_and]
abbrev uf:List Nat:=[0,1,2,3,4,5,6]
theorem Et(b:Bk)(h:H):RT (λw h'=>w=.bool (decide (Xc b))/\Ext h h') (KW 56 [b.v] h):=by
 obtain⟨h1,ZL⟩:∃z,z=h.new (.cells b.cs 42 false):=⟨_,rfl⟩
 have x1:Ext h h1:=by rw[ZL];exact (Ext.refl h).new _
 have n1:h1.n=h.n+1:=by rw[ZL,H.ZP]
 have g1:h1.get h.n=some (.cells b.cs 42 false):=by rw[ZL,ZY]
 have LH:h1.Ze h.n 0 23=some b.cs:=by rw[ZU g1 (by simp)];rfl
 obtain⟨h2,Zq⟩:∃z,z=h1.new (.cells (Qm b).cs 42 false):=⟨_,rfl⟩
 have x2:Ext h1 h2:=by rw[Zq];exact (Ext.refl h1).new _
 have g2:h2.get h.n=_:=(x2.get _ (H.ZW g1)).trans g1;have p2:h2.get h1.n=some (.cells (Qm b).cs 42 false):=by rw[Zq,ZY]
 have Ql:h2.Ze h.n 0 23=some b.cs:=by rw[ZU g2 (by simp)];rfl
 have n2:h2.n=h1.n+1:=by rw[Zq,H.ZP]
 obtain⟨_,h3,a3,rfl,x3⟩:=(Qo b h2).elim;have n3:=x3.n;have g3:h3.get h.n=_:=(x3.get _ (H.ZW g2)).trans g2;have p3:h3.get h1.n=_:=(x3.get _ (H.ZW p2)).trans p2;have rd:∀X o,(h3.new X).Zp h.n o=b.cs[o]?:=λX o=>ZZ (by rw[ZR (by omega)];exact g3);obtain⟨h4,Xs⟩:∃z,z=h3.new (.cells (LI b).cs 42 false):=⟨_,rfl⟩
 have x4:Ext h3 h4:=by rw[Xs];exact (Ext.refl h3).new _
 have g4:h4.get h.n=_:=(x4.get _ (H.ZW g3)).trans g3;have p4:h4.get h1.n=_:=(x4.get _ (H.ZW p3)).trans p3;have q4:h4.get h3.n=some (.cells (LI b).cs 42 false):=by rw[Xs,ZY]
 have SB:∀o,h4.Zp h.n o=b.cs[o]?:=λo=>ZZ g4;have CY:h4.Ze h.n 0 23=some b.cs:=by rw[ZU g4 (by simp)];rfl
 have ue:=((x1.trans x2).trans x3).trans x4;rw[W1 r56,s56];simp[bx,nw,<-ZL,LH,Ev,<-Zq,Ql,a3,rd,A7,<-Xs,SB];obtain⟨_,h5,a5,rfl,x5⟩:=(Gp b h4).elim;have g5:h5.get h.n=_:=(x5.get _ (H.ZW g4)).trans g4;have rd5:∀o,h5.Zp h.n o=b.cs[o]?:=λo=>ZZ g5;refine Ym (C:=λo=>RT _ (fin Tryz.prog _ _ o)) (λe g=>g=h4/\e.s uf 6=.bool (decide (b.cu=0/\b.cv=0))/\e.s uf 1=.ptr h.n 0/\e.s uf 3=.ptr h1.n 0/\e.s uf 4=.ptr h3.n 0/\e.s uf 5=.fn (.func 106) [] []) ?_ ?_
 . by_cases cu0:b.cu=0<;>simp[cu0,XG,SB]
 rintro e g ⟨rfl,e6,e1,e3,e4,e5⟩;refine Ym (C:=λo=>RT _ (fin Tryz.prog _ _ o)) (λe g'=>Ext g g'/\e.s uf 6=.bool (decide (S3 b))/\e.s uf 1=.ptr h.n 0/\e.s uf 3=.ptr h1.n 0/\e.s uf 4=.ptr h3.n 0/\e.s uf 5=.fn (.func 106) [] []) ?_ ?_
 . by_cases Tq:b.um=13
   .have e:S3 b↔(¬(b.cu=0/\b.cv=0)/\imax b.w b.h<=32/\(-16<=b.cu/\b.cu<=16)/\(-16<=b.cv/\b.cv<=16)):=by unfold S3;rw[if_pos Tq]
    by_cases cz:b.cu=0/\b.cv=0
    .simp[Tq,e1,e6,e3,e4,e5,SB,cz,XG,e]
     exact Ext.refl _
    .by_cases cm:imax b.w b.h<=32
     .by_cases cu : -16<=b.cu/\b.cu<=16
      .simp[Tq,e1,e6,e3,e4,e5,SB,cz,XG,e,CY,a5,cm,rd5,Zk,cu]
       exact x5
      .simp[Tq,e1,e6,e3,e4,e5,SB,cz,XG,e,CY,a5,cm,rd5,Zk,cu]
       exact x5
     .simp[Tq,e1,e6,e3,e4,e5,SB,cz,XG,e,CY,a5,cm]
      exact x5
   .have e:S3 b↔(b.cu=0/\b.cv=0):=by unfold S3;rw[if_neg Tq]
    simp[Tq,e1,e6,e3,e4,e5,SB,XG,e];exact Ext.refl _
 . rintro e g ⟨xg,e6,e1,e3,e4,e5⟩
   have gg:g.get h.n=_:=(xg.get _ (H.ZW g4)).trans g4;have pg:g.get h1.n=_:=(xg.get _ (H.ZW p4)).trans p4;have qg:g.get h3.n=_:=(xg.get _ (H.ZW q4)).trans q4;have wW:∀o,g.Zp h.n o=b.cs[o]?:=λo=>ZZ gg;have rp:g.Ze h1.n 0 23=some (Qm b).cs:=by rw[ZU pg (by simp)];rfl
   have rq:g.Ze h3.n 0 23=some (LI b).cs:=by rw[ZU qg (by simp)];rfl
   have A6:=ue.trans xg;have pi:=Eu b;by_cases c1:Qm b=LI b
   .by_cases c2:0<=b.ym/\b.ym<=12
    .by_cases c3:0<=b.um/\b.um<=13
     .by_cases c4:XX b.ym b.yd
      .by_cases c5:XX b.um b.ud
       .have ei:decide (Xc b)=decide (S3 b):=by rw[decide_eq_decide];exact⟨λh=>h.2.2.2.2.2,λh=>⟨pi.1 c1,c2,c3,c4,c5,h⟩⟩
        simp[e3,rp,e4,rq,c1,e1,wW,Zk,c2,c3,e5,Ww,Qn,c4,c5,e6,ei];exact⟨rfl,A6⟩
       .have ei:decide (Xc b)=false:=by rw[decide_eq_false_iff_not];exact λh=>c5 h.2.2.2.2.1
        simp[e3,rp,e4,rq,c1,e1,wW,Zk,c2,c3,e5,Ww,Qn,c4,c5,ei];exact⟨rfl,A6⟩
      .have ei:decide (Xc b)=false:=by rw[decide_eq_false_iff_not];exact λh=>c4 h.2.2.2.1
       simp[e3,rp,e4,rq,c1,e1,wW,Zk,c2,c3,e5,Ww,Qn,c4,ei];exact⟨rfl,A6⟩
     .have ei:decide (Xc b)=false:=by rw[decide_eq_false_iff_not];exact λh=>c3 h.2.2.1
      simp[e3,rp,e4,rq,c1,e1,wW,Zk,c2,c3,ei];exact⟨rfl,A6⟩
    .have ei:decide (Xc b)=false:=by rw[decide_eq_false_iff_not];exact λh=>c2 h.2.1
     simp[e3,rp,e4,rq,c1,e1,wW,Zk,c2,ei];exact⟨rfl,A6⟩
   .have ei:decide (Xc b)=false:=by rw[decide_eq_false_iff_not];exact λh=>c1 (pi.2 h.1)
    simp[e3,rp,e4,rq,c1,ei];exact⟨rfl,A6⟩
def Qk(b:Bk):Bk:={b with comp:=false,r0:=0,r1:=0,mm:=0,m0:=(0,0),m1:=(0,0),fl:=0,ob:=false}
def LG(b:Bk):Bk:={ZD b with skip:=b.skip,inter:=true,tx:=b.tx}
theorem Es(b:Bk):Qk b=LG b↔(b.inter=true/\b.ym=0/\b.yd=0/\b.um=0/\b.ud=0/\b.cu=0/\b.cv=0):=by
 unfold Qk LG ZD;simp only[Bk.mk.injEq,true_and,and_true]
theorem Er(b:Bk):((splice ((splice (b.cs.set 13 (.bool false)) 14 [.int .i64 0,.int .i64 0]).set 16 (.int .i64 0)) 17 [.int .i64 0,.int .i64 0,.int .i64 0,.int .i64 0]).set 21 (.int .i64 0)).set 22 (.bool false)=(Qk b).cs:=id rfl
theorem A5(b:Bk):(((ZD b).cs.set 4 (.bool b.skip)).set 5 (.bool true)).set 12 (.int .i64 b.tx)=(LG b).cs:=id rfl
theorem ND(c:List V)(o:Nat)(vs:List V)(h:o+vs.length<=c.length):(splice c o vs).length=c.length:=by simp[splice];omega
@[simp] theorem Bqr(c:List V)(o:Nat)(a b:V)(h:o+2<=c.length):(splice c o [a,b]).length=c.length:=ND _ _ _ h
@[simp] theorem Bqq(c:List V)(o:Nat)(a b d f:V)(h:o+4<=c.length):(splice c o [a,b,d,f]).length=c.length:=ND _ _ _ h
@[simp] theorem kqB(h:H)(z:List V)(a b:V)(t:TypeId)(e:16<=z.length):(h.new (.cells z t false)).X4 h.n 14 [a,b]=some (h.new (.cells (splice z 14 [a,b]) t false)):=by
 rw[ZF ZY e,MK]
@[simp] theorem kqA(h:H)(z:List V)(a b c d:V)(t:TypeId)(e:21<=z.length):(h.new (.cells z t false)).X4 h.n 17 [a,b,c,d]=some (h.new (.cells (splice z 17 [a,b,c,d]) t false)):=by
 rw[ZF ZY e,MK]
abbrev pN:List Nat:=[0,1,2,3,4,5]
theorem Ep(b:Bk)(h:H):RT (λw h'=>w=.bool (decide (XD b))/\Ext h h') (KW 55 [b.v] h):=by
 obtain⟨h1,ZL⟩:∃z,z=h.new (.cells b.cs 42 false):=⟨_,rfl⟩
 have x1:Ext h h1:=by rw[ZL];exact (Ext.refl h).new _
 have n1:h1.n=h.n+1:=by rw[ZL,H.ZP]
 have g1:h1.get h.n=some (.cells b.cs 42 false):=by rw[ZL,ZY]
 have LH:h1.Ze h.n 0 23=some b.cs:=by rw[ZU g1 (by simp)];rfl
 obtain⟨h2,Zq⟩:∃z,z=h1.new (.cells (Qk b).cs 42 false):=⟨_,rfl⟩
 have x2:Ext h1 h2:=by rw[Zq];exact (Ext.refl h1).new _
 have g2:h2.get h.n=_:=(x2.get _ (H.ZW g1)).trans g1;have p2:h2.get h1.n=some (.cells (Qk b).cs 42 false):=by rw[Zq,ZY]
 have Ql:h2.Ze h.n 0 23=some b.cs:=by rw[ZU g2 (by simp)];rfl
 have n2:h2.n=h1.n+1:=by rw[Zq,H.ZP]
 obtain⟨_,h3,a3,rfl,x3⟩:=(Qo b h2).elim;have n3:=x3.n;have g3:h3.get h.n=_:=(x3.get _ (H.ZW g2)).trans g2;have p3:h3.get h1.n=_:=(x3.get _ (H.ZW p2)).trans p2;have rd:∀X o,(h3.new X).Zp h.n o=b.cs[o]?:=λX o=>ZZ (by rw[ZR (by omega)];exact g3);obtain⟨h4,Xs⟩:∃z,z=h3.new (.cells (LG b).cs 42 false):=⟨_,rfl⟩
 have x4:Ext h3 h4:=by rw[Xs];exact (Ext.refl h3).new _
 have g4:h4.get h.n=_:=(x4.get _ (H.ZW g3)).trans g3;have p4:h4.get h1.n=_:=(x4.get _ (H.ZW p3)).trans p3;have q4:h4.get h3.n=some (.cells (LG b).cs 42 false):=by rw[Xs,ZY]
 have SB:∀o,h4.Zp h.n o=b.cs[o]?:=λo=>ZZ g4;have rm4:h4.Ze h.n 19 2=some [.int .i64 b.m1.1,.int .i64 b.m1.2]:=by rw[ZU g4 (by simp)];rfl
 have ue:=((x1.trans x2).trans x3).trans x4;obtain⟨_,h5,a5,rfl,x5⟩:=(Sf b.m1 h4).elim;have g5:h5.get h.n=_:=(x5.get _ (H.ZW g4)).trans g4;have rd5:∀o,h5.Zp h.n o=b.cs[o]?:=λo=>ZZ g5;have m1z:(b.m1.1,b.m1.2)=b.m1:=rfl;rw[W1 r55,s55];simp (maxDischargeDepth:=8) [bx,nw,<-ZL,LH,Er,<-Zq,Ql,a3,rd,A5,<-Xs];refine Ym (C:=λo=>RT _ (fin Tryz.prog _ _ o)) (λe g=>g=h4/\e.s pN 5=.bool (decide (b.r1=0/\b.m1=(0,0)))/\e.s pN 1=.ptr h.n 0/\e.s pN 3=.ptr h1.n 0/\e.s pN 4=.ptr h3.n 0) ?_ ?_
 . by_cases cr:b.r1=0
   .have e:(b.m1=(0,0))↔(b.m1.1=0/\b.m1.2=0):=by rw[Prod.ext_iff]
    simp[cr,XG,SB,rm4,e]
   .simp[cr,XG,SB]
 rintro e g ⟨rfl,e5,e1,e3,e4⟩;refine Ym (C:=λo=>RT _ (fin Tryz.prog _ _ o)) (λe g'=>Ext g g'/\e.s pN 5=.bool (decide (X9 b))/\e.s pN 1=.ptr h.n 0/\e.s pN 3=.ptr h1.n 0/\e.s pN 4=.ptr h3.n 0) ?_ ?_
 . cases cc:b.comp with
   |true =>
    have es:X9 b↔((0<=b.r1/\b.r1<=2)/\Y5 b.m1/\b.ob=false):=by unfold X9;rw[if_pos cc]
    by_cases c1:0<=b.r1/\b.r1<=2
    .by_cases c2:Y5 b.m1
     .simp[e1,e3,e4,e5,SB,cc,XG,es,Zk,c1,rm4,a5,c2,rd5]
      exact x5
     .simp[e1,e3,e4,e5,SB,cc,XG,es,Zk,c1,rm4,a5,c2]
      exact x5
    .simp[e1,e3,e4,e5,SB,cc,XG,es,Zk,c1]
     exact Ext.refl _
   |false =>
    have es:X9 b↔(b.r1=0/\b.m1=(0,0)):=by unfold X9;rw[if_neg (by rw[cc];decide)]
    simp[e1,e3,e4,e5,SB,cc,XG,es];exact Ext.refl _
 . rintro e g' ⟨xg,e5,e1,e3,e4⟩
   have gg:g'.get h.n=_:=(xg.get _ (H.ZW g4)).trans g4;have pg:g'.get h1.n=_:=(xg.get _ (H.ZW p4)).trans p4;have qg:g'.get h3.n=_:=(xg.get _ (H.ZW q4)).trans q4;have wW:∀o,g'.Zp h.n o=b.cs[o]?:=λo=>ZZ gg;have rmg:g'.Ze h.n 17 2=some [.int .i64 b.m0.1,.int .i64 b.m0.2]:=by rw[ZU gg (by simp)];rfl
   have rp:g'.Ze h1.n 0 23=some (Qk b).cs:=by rw[ZU pg (by simp)];rfl
   have rq:g'.Ze h3.n 0 23=some (LG b).cs:=by rw[ZU qg (by simp)];rfl
   have A6:=ue.trans xg;have pi:=Es b;obtain⟨_,h6,a6,rfl,x6⟩:=(Sf b.m0 g').elim;have g6:h6.get h.n=_:=(x6.get _ (H.ZW gg)).trans gg;have rd6:∀o,h6.Zp h.n o=b.cs[o]?:=λo=>ZZ g6;by_cases c1:Qk b=LG b
   .by_cases c2:0<=b.r0/\b.r0<=2
    .by_cases c3:0<=b.mm/\b.mm<=3
     .by_cases c4:Y5 b.m0
      .by_cases c5:0<=b.fl/\b.fl<=2
       .have ei:decide (XD b)=decide (X9 b):=by rw[decide_eq_decide];exact⟨λh=>h.2.2.2.2.2,λh=>⟨pi.1 c1,c2,c3,c4,c5,h⟩⟩
        simp[e3,rp,e4,rq,c1,e1,wW,Zk,c2,c3,rmg,a6,c4,rd6,c5,e5,ei];exact⟨rfl,A6.trans x6⟩
       .have ei:decide (XD b)=false:=by rw[decide_eq_false_iff_not];exact λh=>c5 h.2.2.2.2.1
        simp[e3,rp,e4,rq,c1,e1,wW,Zk,c2,c3,rmg,a6,c4,rd6,c5,ei];exact⟨rfl,A6.trans x6⟩
      .have ei:decide (XD b)=false:=by rw[decide_eq_false_iff_not];exact λh=>c4 h.2.2.2.1
       simp[e3,rp,e4,rq,c1,e1,wW,Zk,c2,c3,rmg,a6,c4,ei];exact⟨rfl,A6.trans x6⟩
     .have ei:decide (XD b)=false:=by rw[decide_eq_false_iff_not];exact λh=>c3 h.2.2.1
      simp[e3,rp,e4,rq,c1,e1,wW,Zk,c2,c3,ei];exact⟨rfl,A6⟩
    .have ei:decide (XD b)=false:=by rw[decide_eq_false_iff_not];exact λh=>c2 h.2.1
     simp[e3,rp,e4,rq,c1,e1,wW,Zk,c2,ei];exact⟨rfl,A6⟩
   .have ei:decide (XD b)=false:=by rw[decide_eq_false_iff_not];exact λh=>c1 (pi.2 h.1)
    simp[e3,rp,e4,rq,c1,ei];exact⟨rfl,A6⟩
theorem Mw(b:Bk)(key ll:Bool)(h:H):RT (λw h'=>w=.int .i64 (if WE key ll b then 0 else 2)/\Ext h h') (KW 14 [b.v,.bool key,.bool ll] h):=by
 obtain⟨h1,ZL⟩:∃z,z=h.new (.cells b.cs 42 false):=⟨_,rfl⟩
 have x1:Ext h h1:=by rw[ZL];exact (Ext.refl h).new _
 have g1:h1.get h.n=some (.cells b.cs 42 false):=by rw[ZL,ZY]
 have LH:h1.Ze h.n 0 23=some b.cs:=by rw[ZU g1 (by simp)];rfl
 have Zp:∀o,h1.Zp h.n o=b.cs[o]?:=λo=>ZZ g1;obtain⟨_,h2,a2,rfl,x2⟩:=(SA b h1).elim;have g2:h2.get h.n=_:=(x2.get _ (H.ZW g1)).trans g1;have Ql:h2.Ze h.n 0 23=some b.cs:=by rw[ZU g2 (by simp)];rfl
 have QU:∀o,h2.Zp h.n o=b.cs[o]?:=λo=>ZZ g2;rw[W3 nY,s14];by_cases c1:YR b;rotate_left
 . have e:¬WE key ll b:=λh=>c1 h.1
   cases ci:b.inter<;>simp[bx,<-ZL,LH,Zp,ci,a2,c1,e]<;>exact⟨rfl,x1.trans x2⟩
 by_cases c2:b.inter=true/\key=true
 . have e:¬WE key ll b:=λh=>h.2.1 c2
   simp[bx,<-ZL,LH,Zp,c2.1,c2.2,a2,c1,QU,e];simp[c2.2]at e;exact⟨by rw[if_neg e],x1.trans x2⟩
 obtain⟨_,h3,a3,rfl,x3⟩:=(Ew c1 ll h2).elim;have g3:h3.get h.n=_:=(x3.get _ (H.ZW g2)).trans g2;have rR:h3.Ze h.n 0 23=some b.cs:=by rw[ZU g3 (by simp)];rfl
 have PN:=(x1.trans x2).trans x3;by_cases c3:VY ll b;rotate_left
 . have e:¬WE key ll b:=λh=>c3 h.2.2.1
   cases ci:b.inter with
   |true =>
    have ck:key=false:=by cases h:key with
     |false=>rfl
     |true=>exact (c2 ⟨ci,h⟩).elim
    subst ck;simp[bx,<-ZL,LH,Zp,ci,a2,c1,QU,Ql,a3,c3,e];exact⟨rfl,PN⟩
   |false =>
    simp[bx,<-ZL,LH,Zp,ci,a2,c1,QU,Ql,a3,c3,e];exact⟨rfl,PN⟩
 cases ci:b.inter with
 |true =>
   have ck:key=false:=by cases h:key with
    |false=>rfl
    |true=>exact (c2 ⟨ci,h⟩).elim
   subst ck;obtain⟨_,h4,a4,rfl,x4⟩:=(Ep b h3).elim;have e:WE false ll b↔XD b:=⟨λh=>by have:=h.2.2.2;rw[ci]at this;exact this,λh=>⟨c1,by simp,c3,by rw[ci];exact h⟩⟩
   by_cases c4:XD b
   .simp[bx,<-ZL,LH,Zp,ci,a2,c1,QU,Ql,a3,c3,rR,Ww,a4,c4,e]
    exact⟨rfl,PN.trans x4⟩
   .simp[bx,<-ZL,LH,Zp,ci,a2,c1,QU,Ql,a3,c3,rR,Ww,a4,c4,e]
    exact⟨rfl,PN.trans x4⟩
 |false =>
   obtain⟨_,h4,a4,rfl,x4⟩:=(Et b h3).elim;have e:WE key ll b↔Xc b:=⟨λh=>by have:=h.2.2.2;rw[ci]at this;exact this,λh=>⟨c1,by rw[ci];simp,c3,by rw[ci];exact h⟩⟩
   by_cases c4:Xc b
   .simp[bx,<-ZL,LH,Zp,ci,a2,c1,QU,Ql,a3,c3,rR,Ww,a4,c4,e]
    exact⟨rfl,PN.trans x4⟩
   .simp[bx,<-ZL,LH,Zp,ci,a2,c1,QU,Ql,a3,c3,rR,Ww,a4,c4,e]
    exact⟨rfl,PN.trans x4⟩
open Go.Zf (ZS)
structure Co(P:Nat->Prop)(h:H)(c q m:Nat)(st:St)(e:Int):Prop where
 C:∃D,Zy D h c m st/\∀b,D b->b<h.n/\¬P b
 k:h.get q=some (.cells [.ptr c 0,.int .i64 e] 113 false)
 pq:P q
 lt:∀b,P b->b<h.n
structure Kp(P:Nat->Prop)(h h':H):Prop where
 n:h.n<=h'.n
 get:∀b,P b->h'.get b=h.get b
theorem Kp.refl(P:Nat->Prop)(h:H):Kp P h h:=⟨Nat.le_refl _,λ_ _=>rfl⟩
variable{P:Nat->Prop}{a:H}
theorem Kp.trans{b c:H}(x:Kp P a b)(y:Kp P b c):Kp P a c:=⟨Nat.le_trans x.n y.n,λi hi=>(y.get i hi).trans (x.get i hi)⟩
variable{Q:Nat->Prop}
theorem Kp.mono{b:H}(x:Kp P a b)(h:∀i,Q i->P i):Kp Q a b:=⟨x.n,λi hi=>x.get i (h i hi)⟩
theorem Kp.of{b:H}(x:Ext a b)(h:∀i,P i->i<a.n):Kp P a b:=⟨x.n,λi hi=>x.get i (h i hi)⟩
variable{st:St}{m':Nat}
theorem Zy.more(a:Zy D h p m st)(hm:m<=m')(M5:m'<100000000):Zy D h p m' st:=by
 obtain⟨vo,vi,vs,Ds,Dw,h1,h2,h3,h4,h5,h6,h7,h8,h9⟩:=a;refine⟨vo,vi,vs,Ds,Dw,h1,h2,h3,?_,h5,h6,⟨h7.1,by omega⟩,h8,h9⟩;generalize st.sd=sd at h4 ⊢;cases sd with
 |w out low ZH=>exact⟨h4.1,by have:=h4.2.1;omega,M5⟩
 |r rest code ZH=>exact⟨h4.1,h4.2.1,M5⟩
variable{q:Nat}{e:Int}
theorem Co.more(a:Co P h c q m st e)(hm:m<=m')(M5:m'<100000000):Co P h c q m' st e:=by
 obtain⟨⟨D,C,hD⟩,k,pq,lt⟩:=a;exact⟨⟨D,C.more hm M5,hD⟩,k,pq,lt⟩
theorem Co.ok(a:Co P h c q m st e):Yw st.S/\Yp m st.sd:=by
 obtain⟨⟨D,C,hD⟩,k,pq,lt⟩:=a;exact⟨C.ok.1,C.ok.2.1⟩
theorem Co.ext(a:Co P h c q m st e)(x:Ext h h'):Co P h' c q m st e:=by
 obtain⟨⟨D,C,hD⟩,k,pq,lt⟩:=a;have:=x.n;exact⟨⟨D,C.keep x.n λb hb Yv=>x.get b Yv,λb hb=>⟨by have:=(hD b hb).1;omega,(hD b hb).2⟩⟩,(x.get q (lt q pq)).trans k,pq,λb hb=>by have:=lt b hb;omega⟩
theorem Co.less(a:Co P h c q m st e)(hq:Q q)(hQ:∀b,Q b->P b):Co Q h c q m st e:=by
 obtain⟨⟨D,C,hD⟩,k,pq,lt⟩:=a;exact⟨⟨D,C,λb hb=>⟨(hD b hb).1,λh=>(hD b hb).2 (hQ b h)⟩⟩,k,hq,λb hb=>lt b (hQ b hb)⟩
theorem Co.box(a:Co P h c q m st e)(X:WI):Co (λb=>P b\/b=h.n) (h.new X) c q m st e:=by
 obtain⟨⟨D,C,hD⟩,k,pq,lt⟩:=a;have x:Ext h (h.new X):=(Ext.refl h).new X;refine⟨⟨D,C.keep x.n λb hb Yv=>x.get b Yv,λb hb=>⟨by have:=(hD b hb).1;rw[H.ZP];omega,?_⟩⟩,(x.get q (lt q pq)).trans k,.inl pq,?_⟩
 . rintro (h1|h1)
   .exact (hD b hb).2 h1
   .have:=(hD b hb).1;omega
 . rintro b (hb|hb)
   .have:=lt b hb;rw[H.ZP];omega
   .rw[H.ZP];omega
variable{t:Nat}
theorem Co.put(a:Co P h c q m st e)(pt:P t)(nt:t≠q)(X:WI):Co P (h.put t X) c q m st e:=by
 obtain⟨⟨D,C,hD⟩,k,pq,lt⟩:=a;exact⟨⟨D,C.keep (by rw[H.ZJ];exact Nat.le_refl _) λb hb Yv=>ZX (by rintro rfl;exact (hD _ hb).2 pt),λb hb=>by rw[H.ZJ];exact hD b hb⟩,(ZX (Ne.symm nt)).trans k,pq,λb hb=>by rw[H.ZJ];exact lt b hb⟩
structure Se(P:Nat->Prop)(h:H)(c q t tt m:Nat)(st:St)(cs:List V)(h':H):Prop where
 co:Co P h' c q m st 0
 box:h'.get t=some (.cells cs tt false)
 kp:Kp (λb=>P b/\b≠q/\b≠t) h h'
theorem Pj(hq:h.get q=some (.cells [.ptr c 0,.int .i64 e] 113 false))(he:e≠0)(a b d f:V):KW 98 [.ptr q 0,a,b,d,f] h=some (.ret (.Zt []),h):=by
 have r1:=ZZ (o:=1) hq;rw[W5 r98,s98];simp[r1,he]
variable{o k:Nat}
theorem Yt(a:Co P h c q m st 0){tt:Nat}{cs:List V}{v f:Int}{x:Nat}(ht:h.get t=some (.cells cs tt false))(pt:P t)(nt:t≠q)(hv:cs[o]?=some (.int .i64 v))
   (hm:m+1<100000000) (hk:k<32) (hx:x<cx k) (hb : -100000<=v/\v<=100000) (hf : -1000<=f/\f<=1000) (hw:st.sd.writes=true->0<=v-f/\v-f<vl k) :
   RT (λw h'=>w=.Zt []/\Se P h c q t tt (m+1) (st.sym k x (v-f)) (cs.set o (.int .i64 ((st.ZC k x (v-f):Nat)+f))) h') (KW 98 [.ptr q 0,.int .i64 (k:Nat),.int .i64 (x:Nat),.int .i64 f,.ptr t o] h):=by
 obtain⟨⟨D,C,hD⟩,hq,pq,lt⟩:=a;have r1:=ZZ (o:=1) hq;have r0:=ZZ (o:=0) hq;have rv:=(ZZ (o:=o) ht).trans hv;have z1:IntKind.i64.wrap (v-f)=v-f:=ZS (by omega) (by omega);obtain⟨_,h1,a1,rfl,C1,M1⟩:=(N1 C hm hk hx hw).elim;have sv:st.ZC k x (v-f)<16:=by
   have h1:=St.YF C.ok.1 hk hx hw;have h2:=(Px hk).2;omega
 have jf:=M1.n;have nD:∀b,P b->¬D b:=λb hb hd=>(hD b hd).2 hb;have q1:h1.get q=_:=(M1.get q (lt q pq) (nD q pq)).trans hq;have t1:h1.get t=_:=(M1.get t (lt t pt) (nD t pt)).trans ht;have w1:h1.WO q 1 (.int .i64 0)=some (h1.put q (.cells [.ptr c 0,.int .i64 0] 113 false)):=by rw[Zw q1 (by simp)];rfl
 obtain⟨h2,Zq⟩:∃z,z=h1.put q (.cells [.ptr c 0,.int .i64 0] 113 false):=⟨_,rfl⟩
 rw[<-Zq]at w1;have q2:h2.get q=some (.cells [.ptr c 0,.int .i64 0] 113 false):=by rw[Zq,ZV (H.ZW q1)]
 have r2:=ZZ (o:=1) q2;have t2:h2.get t=some (.cells cs tt false):=by rw[Zq,ZX nt,t1]
 have ol:o<cs.length:=by
   rcases Nat.lt_or_ge o cs.length with h|h
   .exact h
   .rw[List.getElem?_eq_none h]at hv;cases hv
 obtain⟨s,hs⟩:∃s,s=st.ZC k x (v-f):=⟨_,rfl⟩
 rw[<-hs]at a1 sv ⊢;have z2:IntKind.i64.wrap ((s:Int)+f)=(s:Int)+f:=ZS (by omega) (by omega);obtain⟨h3,Zc⟩:∃z,z=h2.put t (.cells (cs.set o (.int .i64 ((s:Int)+f))) tt false):=⟨_,rfl⟩
 have w2:h2.WO t o (.int .i64 ((s:Int)+f))=some h3:=by rw[Zw t2 ol,Zc]
 have n3:h3.n=h1.n:=by rw[Zc,H.ZJ,Zq,H.ZJ]
 rw[W5 r98,s98];simp[r1,r0,rv,z1,a1,w1,r2,z2,w2];refine⟨rfl,⟨⟨grow D h h1,C1.keep (by omega) (λb hb Yv=>?_),λb hb=>?_⟩,?_,pq,λb hb=>by have:=lt b hb;omega⟩,?_,⟨by omega,?_⟩⟩
 . have bp:¬P b:=by
    rcases hb with hb|hb
    .exact (hD b hb).2
    .exact λhp=>by have:=lt b hp;omega
   rw[Zc,ZX (by rintro rfl;exact bp pt),Zq,ZX (by rintro rfl;exact bp pq)]
 . rcases hb with hb|hb
   .exact⟨by have:=(hD b hb).1;omega,(hD b hb).2⟩
   .exact⟨by omega,λhp=>by have:=lt b hp;omega⟩
 . rw[Zc,ZX (Ne.symm nt),q2]
 . rw[Zc,ZV (H.ZW t2)]
 . rintro b ⟨hb,bq,bt⟩
   rw[Zc,ZX bt,Zq,ZX bq,M1.get b (lt b hb) (nD b hb)]
theorem Jx(a:Co P h c q m st 0){tt:Nat}{cs:List V}{v:Int}(ht:h.get t=some (.cells cs tt false))(pt:P t)(nt:t≠q)(hv:cs[o]?=some (.int .i64 v))
   (hm:m+n<100000000) (hn:n<=30) (hw:st.sd.writes=true->0<=v/\v<pw n) :
   RT (λw h'=>w=.Zt []/\Se P h c q t tt (m+n) (st.num n v.toNat) (cs.set o (.int .i64 (st.WG n v.toNat:Nat))) h') (KW 169 [.ptr q 0,.int .i64 (n:Nat),.ptr t o] h):=by
 obtain⟨⟨D,C,hD⟩,hq,pq,lt⟩:=a;have r1:=ZZ (o:=1) hq;have r0:=ZZ (o:=0) hq;have rv:=(ZZ (o:=o) ht).trans hv;obtain⟨_,h1,a1,rfl,C1,M1⟩:=(JG C hn hm hw).elim;have jf:=M1.n;have nD:∀b,P b->¬D b:=λb hb hd=>(hD b hd).2 hb;have q1:h1.get q=_:=(M1.get q (lt q pq) (nD q pq)).trans hq;have t1:h1.get t=_:=(M1.get t (lt t pt) (nD t pt)).trans ht;have w1:h1.WO q 1 (.int .i64 0)=some (h1.put q (.cells [.ptr c 0,.int .i64 0] 113 false)):=by rw[Zw q1 (by simp)];rfl
 obtain⟨h2,Zq⟩:∃z,z=h1.put q (.cells [.ptr c 0,.int .i64 0] 113 false):=⟨_,rfl⟩
 rw[<-Zq]at w1;have q2:h2.get q=some (.cells [.ptr c 0,.int .i64 0] 113 false):=by rw[Zq,ZV (H.ZW q1)]
 have r2:=ZZ (o:=1) q2;have t2:h2.get t=some (.cells cs tt false):=by rw[Zq,ZX nt,t1]
 have ol:o<cs.length:=by
   rcases Nat.lt_or_ge o cs.length with h|h
   .exact h
   .rw[List.getElem?_eq_none h]at hv;cases hv
 obtain⟨s,hs⟩:∃s,s=st.WG n v.toNat:=⟨_,rfl⟩
 rw[<-hs]at a1 ⊢;obtain⟨h3,Zc⟩:∃z,z=h2.put t (.cells (cs.set o (.int .i64 (s:Nat))) tt false):=⟨_,rfl⟩
 have w2:h2.WO t o (.int .i64 (s:Nat))=some h3:=by rw[Zw t2 ol,Zc]
 have n3:h3.n=h1.n:=by rw[Zc,H.ZJ,Zq,H.ZJ]
 rw[W3 kqz,cG];simp[r1,r0,rv,a1,w1,r2,w2];refine⟨rfl,⟨⟨grow D h h1,C1.keep (by omega) (λb hb Yv=>?_),λb hb=>?_⟩,?_,pq,λb hb=>by have:=lt b hb;omega⟩,?_,⟨by omega,?_⟩⟩
 . have bp:¬P b:=by
    rcases hb with hb|hb
    .exact (hD b hb).2
    .exact λhp=>by have:=lt b hp;omega
   rw[Zc,ZX (by rintro rfl;exact bp pt),Zq,ZX (by rintro rfl;exact bp pq)]
 . rcases hb with hb|hb
   .exact⟨by have:=(hD b hb).1;omega,(hD b hb).2⟩
   .exact⟨by omega,λhp=>by have:=lt b hp;omega⟩
 . rw[Zc,ZX (Ne.symm nt),q2]
 . rw[Zc,ZV (H.ZW t2)]
 . rintro b ⟨hb,bq,bt⟩
   rw[Zc,ZX bt,Zq,ZX bq,M1.get b (lt b hb) (nD b hb)]
theorem Rm(a:Co P h c q m st 0){tt:Nat}{cs:List V}{b:Bool}{x:Nat}(ht:h.get t=some (.cells cs tt false))(pt:P t)(nt:t≠q)(hv:cs[o]?=some (.bool b))
   (hm:m+1<100000000) (hk:k<32) (hx:x<cx k) (h2:vl k=2) :
   RT (λw h'=>w=.Zt []/\Se P h c q t tt (m+1) (st.sym k x (Yc b)) (cs.set o (.bool (decide (st.ZC k x (Yc b)=1)))) h') (KW 51 [.ptr q 0,.int .i64 (k:Nat),.int .i64 (x:Nat),.ptr t o] h):=by
 have ol:o<cs.length:=by
   rcases Nat.lt_or_ge o cs.length with h|h
   .exact h
   .rw[List.getElem?_eq_none h]at hv;cases hv
 obtain⟨h1,ZL⟩:∃z,z=h.new (.cells [.int .i64 (Yc b)] 3 false):=⟨_,rfl⟩
 have x1:Ext h h1:=by rw[ZL];exact (Ext.refl h).new _
 have n1:h1.n=h.n+1:=by rw[ZL,H.ZP]
 have g1:h1.get h.n=some (.cells [.int .i64 (Yc b)] 3 false):=by rw[ZL,ZY]
 have a1:Co (λb=>P b\/b=h.n) h1 c q m st 0:=by rw[ZL];exact a.box _
 have KS:=a.lt q a.pq;have Kv:=a.lt t pt;have fb:0<=Yc b/\Yc b<=1:=by cases b<;>decide
 obtain⟨_,h3,a3,rfl,R⟩:=(Yt a1 (t:=h.n) (o:=0) (v:=Yc b) (f:=0) g1 (.inr rfl) (by omega) rfl hm hk hx (by omega) (by decide) (λ_=>by rw[h2];omega)).elim;rw[Int.sub_zero,Int.add_zero]at R;obtain⟨s,hs⟩:∃s,s=st.ZC k x (Yc b):=⟨_,rfl⟩
 rw[<-hs]at R ⊢;have R3:=R.kp.n;have t3:h3.get t=_:=(R.kp.get t ⟨.inl pt,nt,by omega⟩).trans ((x1.get t Kv).trans ht);have rn:h3.Zp h.n 0=some (.int .i64 (s:Nat)):=by rw[ZZ R.box];rfl
 obtain⟨h4,Xs⟩:∃z,z=h3.put t (.cells (cs.set o (.bool (decide (s=1)))) tt false):=⟨_,rfl⟩
 have w4:h3.WO t o (.bool (decide (s=1)))=some h4:=by rw[Zw t3 ol,Xs]
 have ds:decide ((s:Int)=1)=decide (s=1):=by rw[decide_eq_decide];omega
 have fin:Se P h c q t tt (m+1) (st.sym k x (Yc b)) (cs.set o (.bool (decide (s=1)))) h4:=by
   refine⟨?_,by rw[Xs,ZV (H.ZW t3)],⟨by rw[Xs,H.ZJ];omega,?_⟩⟩
   .rw[Xs];exact (R.co.put (.inl pt) nt _).less a.pq λb hb=>.inl hb
   .rintro i ⟨hi,iq,it⟩
    rw[Xs,ZX it,R.kp.get i ⟨.inl hi,iq,by have:=a.lt i hi;omega⟩,x1.get i (a.lt i hi)]
 rw[W4 r51,s51];have HC:h1.Zp t o=some (.bool b):=(ZZ ((x1.get t Kv).trans ht)).trans hv;cases b with
 |true =>
   have Df:(h.new (.cells [.int .i64 0] 3 false)).Zp t o=some (.bool true):=by rw[ZZ (by rw[ZR Kv];exact ht)];exact hv
   have e1:Yc true=1:=rfl;rw[e1]at ZL;simp[nw,Df,<-ZL,a3,rn,ds,w4];exact⟨rfl,fin⟩
 |false =>
   have e1:Yc false=0:=rfl;rw[e1]at ZL;have w10:h1.WO h.n 0 (.int .i64 0)=some h1:=by rw[ZL,PE _ _ _ _ _ (by simp)];rfl
   simp[nw,<-ZL,w10,HC,a3,rn,ds,w4];exact⟨rfl,fin⟩
theorem Eo(a:Co P h c q m st e)(he:e≠0){tt:Nat}{cs:List V}{b:Bool}(ht:h.get t=some (.cells cs tt false))(hv:cs[o]?=some (.bool b))(k x:V):
   RT (λw h'=>w=.Zt []/\Ext h h') (KW 51 [.ptr q 0,k,x,.ptr t o] h):=by
 have ol:o<cs.length:=by
   rcases Nat.lt_or_ge o cs.length with h|h
   .exact h
   .rw[List.getElem?_eq_none h]at hv;cases hv
 have Kv:=H.ZW ht;have KS:=H.ZW a.k;have se:∀n:Int,KW 98 [.ptr q 0,k,x,.int .i64 0,.ptr h.n 0] (h.new (.cells [.int .i64 n] 3 false))=some (.ret (.Zt []),h.new (.cells [.int .i64 n] 3 false)):=λn=>Pj (by rw[ZR KS];exact a.k) he _ _ _ _;have hr:∀n:Int,(h.new (.cells [.int .i64 n] 3 false)).Zp t o=some (.bool b):=λn=>by rw[ZZ (by rw[ZR Kv];exact ht)];exact hv
 have wr:∀n:Int,(h.new (.cells [.int .i64 n] 3 false)).WO t o (.bool b)=some ((h.new (.cells [.int .i64 n] 3 false)).put t (.cells (cs.set o (.bool b)) tt false)):=λn=>by rw[Zw (by rw[ZR Kv];exact ht) ol]
 have cse:cs.set o (.bool b)=cs:=by
   have:=List.getElem?_eq_some_iff.1 hv;obtain⟨h1,h2⟩:=this;rw[<-h2,List.set_getElem_self]
 have xe:∀n:Int,Ext h ((h.new (.cells [.int .i64 n] 3 false)).put t (.cells (cs.set o (.bool b)) tt false)):=λn=>⟨by rw[H.ZJ,H.ZP];omega,λi hi=>by
   by_cases e:i=t
   .subst e;rw[ZV (by rw[H.ZP];omega),cse,ht]
   .rw[ZX e,ZR hi]⟩
 rw[W4 r51,s51];cases b with
 |true=>simp[nw,hr,se,wr];exact⟨rfl,xe _⟩
 |false=>simp[nw,hr,se,wr];exact⟨rfl,xe _⟩
open Go.Zf (ZS)
theorem Vy{α:Type}:∀(p:Pr α) (st:St),(p.exec st).2.sd.writes=st.sd.writes
 |.done a,st=>rfl
 |.stop,st=>rfl
 |.sym k c v f,st=>by rw[Pr.X2,Vy];exact St.YG _ _ _ _
 |.num n v f,st=>by rw[Pr.SE,Vy];exact St.Je _ _ _
variable{YI:St}
theorem YS{α:Type}{p:Pr α}{r:Option α}(h:p.exec st=(r,YI)):YI.sd.writes=st.sd.writes:=by
 have:=Vy p st;rw[h]at this;exact this
theorem wV{cs:List V}{v:V}(h:cs[o]?=some v):cs.set o v=cs:=by
 obtain⟨h1,h2⟩:=List.getElem?_eq_some_iff.1 h;rw[<-h2,List.set_getElem_self]
theorem Se.more{tt:Nat}{cs:List V}(a:Se P h c q t tt m st cs h')(hm:m<=m')(M5:m'<100000000):Se P h c q t tt m' st cs h':=⟨a.co.more hm M5,a.box,a.kp⟩
theorem Se.trans{tt:Nat}{cs cs':List V}(a:Se P h c q t tt m st cs h1)(b:Se P h1 c q t tt m' YI cs' h2):Se P h c q t tt m' YI cs' h2:=⟨b.co,b.box,a.kp.trans b.kp⟩
def Ends{α:Type}(p:Pr α)(st:St)(v:α)(Q:α->St->Prop):Prop:=∃r YI,p.exec st=(some r,YI)/\(st.sd.writes=true->r=v)/\Q r YI
theorem Jw(a:Co P h c q m st 0){o1 o2 tt:Nat}{cs:List V}{v d:Int}{x:Nat}(ht:h.get t=some (.cells cs tt false))(pt:P t)(nt:t≠q)(h1:cs[o1]?=some (.int .i64 v))(h2:cs[o2]?=some (.int .i64 d))(ho:o1≠o2)
   (hm:m+2<100000000) (hk:k<32) (hx:x<cx k) (hb : -1000<=v/\v<=1000) (hd : -1000<=d/\d<=1000) (hw:st.sd.writes=true->(0<=v/\v<vl k)/\(1<=v/\v<=8->-3<=d/\d<=3)) :
   RT (λw h'=>w=.Zt []/\Ends (JF k x (v,d)) st (v,d) λr YI=>(0<=r.1/\r.1<vl k)/\(-1000<=r.2/\r.2<=1000)/\Se P h c q t tt (m+2) YI ((cs.set o1 (.int .i64 r.1)).set o2 (.int .i64 r.2)) h')
    (KW 99 [.ptr q 0,.int .i64 (k:Nat),.int .i64 (x:Nat),.ptr t o1,.ptr t o2] h):=by
 obtain⟨_,g1,a1,rfl,R1⟩:=(Yt a (f:=0) ht pt nt h1 (by omega) hk hx (by omega) (by decide) (λh=>by have:=(hw h).1;omega)).elim;rw[Int.sub_zero,Int.add_zero]at R1;have sl:=St.YF a.ok.1 hk hx (v:=v) (λh=>(hw h).1);have vv:=Px hk;have ol:o1<cs.length:=by
   rcases Nat.lt_or_ge o1 cs.length with h|h
   .exact h
   .rw[List.getElem?_eq_none h]at h1;cases h1
 have sw:st.sd.writes=true->((st.ZC k x v:Nat):Int)=v:=λh=>by rw[St.Yx h];have:=(hw h).1;omega
 have cs1:(cs.set o1 (.int .i64 (st.ZC k x v:Nat)))[o1]?=some (.int .i64 (st.ZC k x v:Nat)):=by rw[List.getElem?_set_self ol]
 have cs2:(cs.set o1 (.int .i64 (st.ZC k x v:Nat)))[o2]?=some (.int .i64 d):=by rw[List.getElem?_set_ne ho,h2]
 have ex:(JF k x (v,d)).exec st=(if 1<=st.ZC k x v/\st.ZC k x v<=8 then Pr.sym 5 (st.ZC k x v-1) (d+3) λy=>.done (((st.ZC k x v:Nat):Int),(y:Int)-3)else .done (((st.ZC k x v:Nat):Int),d)).exec (st.sym k x v):=rfl;obtain⟨s,hs⟩:∃s,s=st.ZC k x v:=⟨_,rfl⟩
 rw[<-hs]at R1 sl sw cs1 cs2 ex;have rs:g1.Zp t o1=some (.int .i64 (s:Nat)):=(ZZ R1.box).trans cs1;have re:=ZZ (o:=1) R1.co.k;have zs:IntKind.i64.wrap ((s:Int)-1)=(s:Int)-1:=ZS (by omega) (by omega);rw[W5 r99,s99];by_cases c1:1<=s/\s<=8
 . rw[if_pos c1]at ex
   have Hy:1<=(s:Int)/\(s:Int)<=8:=by omega
   have e1:(s:Int)-1=((s-1:Nat):Int):=by omega
   obtain⟨_,g2,a2,rfl,R2⟩:=(Yt R1.co (f := -3) (k:=5) (x:=s-1) R1.box pt nt cs2 (by omega) (by decide) (by show s-1<8;omega) (by omega) (by decide) (λh=>by
    rw[St.YG]at h;have:=(hw h).2 (by have:=sw h;omega)
    show _/\_<7;omega)).elim
   rw[show d-(-3:Int)=d+3 by omega]at R2;rw[<-e1,show ((5:Nat):Int)=5 from rfl]at a2;have sw2:st.sd.writes=true->(((st.sym k x v).ZC 5 (s-1) (d+3):Nat):Int)-3=d:=λh=>by
    rw[St.Yx (by rw[St.YG];exact h)];have:=(hw h).2 (by have:=sw h;omega);omega
   simp[a1,rs,Pk,Hy,re,zs,a2];have s7:=St.YF R1.co.ok.1 (k:=5) (x:=s-1) (v:=d+3) (by decide) (by show s-1<8;omega) (λh=>by
    rw[St.YG]at h;have:=(hw h).2 (by have:=sw h;omega)
    show _/\_<7;omega)
   have s7:(st.sym k x v).ZC 5 (s-1) (d+3)<7:=s7;refine⟨rfl,_,_,ex,λh=>Prod.ext (sw h) (sw2 h),by simp only;omega,by simp only;omega,?_⟩;have:=(R1.trans R2).more (m':=m+2) (by omega) hm;exact this
 . rw[if_neg c1]at ex
   have Hy:¬(1<=(s:Int)/\(s:Int)<=8):=by omega
   simp[a1,rs,Pk,Hy,re];refine⟨rfl,_,_,ex,λh=>Prod.ext (sw h) rfl,by simp only;omega,hd,?_⟩;rw[wV cs2];exact R1.more (by omega) hm
theorem wU(n:Int)(h:H):KW 144 [.int .i64 n] h=some (.ret (.int .i64 (Xv n:Nat)),h):=by
 rw[W1 Wqm,fN];unfold Xv;by_cases c1:n<0
 . simp[c1]
 . by_cases c2:0<n
   .simp[c1,c2]
   .simp[c1,c2]
@[simp] theorem xqW(a b c d:Nat):bl [.Zh,.Zh] [(some (0,1),.ptr a b),(some (1,1),.ptr c d)]=some (.agg [.ptr a b,.ptr c d]):=id rfl
@[simp] theorem bl3(x y z:V)(a b c:Int):bl [x,y,z] [(some (0,1),.int .i64 a),(some (1,1),.int .i64 b),(some (2,1),.int .i64 c)]=some (.agg [.int .i64 a,.int .i64 b,.int .i64 c]):=id rfl
theorem cF(a b c:Int):Rg [.int .i64 a,.int .i64 b,.int .i64 c]=some (.int .i64 (imax (imax a b) c)):=by
 have:Rg [.int .i64 a,.int .i64 b,.int .i64 c]=some (.int .i64 (if c>(if b>a then b else a)then c else (if b>a then b else a))):=by simp[Rg,SU,GS]
 rw[this];rfl
abbrev pM:List Nat:=[0,1,4,5,6,7,8,29,30]
def QN(j:Nat)(i:Nat)(v:Int×Int):Pr (Int×Int) :=
 if i=0 then (Q9 ((j+1)/3) 0 v.1).bind λu=>(Q9 ((j+1)%3) 1 v.2).bind λw=>.done (u,w)
 else if i=1 then (Q9 ((j+1)%3) 1 v.2).bind λw=>.done (v.1,w)else .done v
structure I65(P:Nat->Prop)(h0:H)(c q t J M:Nat)(b:Bk)(j:Nat)(R:Option (Int×Int)×St)(i:Nat)(e:E)(g:H):Prop where
 st:∃v YI,Se (λb=>P b\/b=J) h0 c q t 42 (M+i) YI ({b with cu:=v.1,cv:=v.2}:Bk).cs g/\R=(QN j i v).exec YI/\(-1000<=v.1/\v.1<=1000)/\(-1000<=v.2/\v.2<=1000)/\(YI.sd.writes=true->v=(b.cu,b.cv))
 jb:g.get J=some (.cells [.int .i64 ((j:Int)+1)] 3 false)
 e0:e.s pM 0=.ptr q 0
 e4:e.s pM 4=.ptr J 0
 pW:e.s pM 29=.agg [.ptr t 10,.ptr t 11]
 pV:e.s pM 30=.int .i64 (i:Nat)
theorem wT(a:Co P h c q m st 0){tt:Nat}{cs:List V}{v:Int}{s i:Nat}(ht:h.get t=some (.cells cs tt false))(pt:P t)(nt:t≠q)(hv:cs[o]?=some (.int .i64 v))
   (hm:m+1<100000000) (hi:i<2) (hs:s<=2) (hb : -1000<=v/\v<=1000) (hw:st.sd.writes=true->Xv v=s/\-16<=v/\v<=16) :
   ∃r YI g1 A,(Q9 s i v).exec st=(some r,YI)/\(st.sd.writes=true->r=v)/\(-1000<=r/\r<=1000) /\
    (if s=0 then g1=h.new (.cells [.int .i64 (imax (X3 v) 1)] 3 false)else KW 98 [.ptr q 0,.int .i64 9,.int .i64 (i:Nat),.int .i64 1,.ptr h.n 0] (h.new (.cells [.int .i64 (imax (X3 v) 1)] 3 false))=some (.ret (.Zt []),g1)) /\
    g1.Zp h.n 0=some (.int .i64 A)/\0<=A/\A<=1000/\r=(if s=0 then 0 else if s=1 then -A else A)/\g1.get t=some (.cells cs tt false)/\Se P h c q t tt (m+1) YI (cs.set o (.int .i64 r)) (g1.put t (.cells (cs.set o (.int .i64 r)) tt false)):=by
 have ab:=OR v;have mb:=Tn (X3 v) 1;have Kv:=H.ZW ht;have x1:Ext h (h.new (.cells [.int .i64 (imax (X3 v) 1)] 3 false)):=(Ext.refl h).new _;have g0:(h.new (.cells [.int .i64 (imax (X3 v) 1)] 3 false)).get h.n=some (.cells [.int .i64 (imax (X3 v) 1)] 3 false):=ZY;have a1:=a.box (.cells [.int .i64 (imax (X3 v) 1)] 3 false);obtain⟨h1,ZL⟩:∃z,z=h.new (.cells [.int .i64 (imax (X3 v) 1)] 3 false):=⟨_,rfl⟩
 rw[<-ZL]at x1 g0 a1 ⊢;by_cases s0:s=0
 . subst s0
   have t1:h1.get t=_:=(x1.get t Kv).trans ht;refine⟨0,st,h1,imax (X3 v) 1,rfl,λh=>?_,by decide,by rw[if_pos rfl],by rw[ZZ g0];rfl,by omega,by omega,rfl,t1,?_,ZV (H.ZW t1),⟨by rw[H.ZJ];exact x1.n,?_⟩⟩
   .have:=(hw h).1;have:=JE v;omega
   .exact ((a1.put (.inl pt) nt _).less a.pq λb hb=>.inl hb).more (by omega) hm
   .rintro i ⟨hi,iq,it⟩
    rw[ZX it,x1.get i (a.lt i hi)]
 . obtain⟨_,g1,k1,rfl,R⟩:=(Yt a1 (t:=h.n) (o:=0) (v:=imax (X3 v) 1) (f:=1) (k:=9) (x:=i) g0 (.inr rfl) (by have:=a.lt q a.pq;omega) rfl hm (by decide) hi (by omega) (by decide) (λh=>by
    have:=(hw h).2;show _/\_<16;omega)).elim
   have sl:=St.YF a.ok.1 (k:=9) (x:=i) (v:=imax (X3 v) 1-1) (by decide) hi (λh=>by have:=(hw h).2;show _/\_<16;omega);have sl:st.ZC 9 i (imax (X3 v) 1-1)<16:=sl;have ex:(Q9 s i v).exec st=(some (if s=1 then -((st.ZC 9 i (imax (X3 v) 1-1):Nat)+1:Int)else ((st.ZC 9 i (imax (X3 v) 1-1):Nat)+1:Int)),st.sym 9 i (imax (X3 v) 1-1)):=by
    unfold Q9;rw[if_neg s0];rfl
   have sw:st.sd.writes=true->((st.ZC 9 i (imax (X3 v) 1-1):Nat):Int)=imax (X3 v) 1-1:=λh=>by rw[St.Yx h];omega
   obtain⟨y,hy⟩:∃y,y=st.ZC 9 i (imax (X3 v) 1-1):=⟨_,rfl⟩
   rw[<-hy]at R sl ex sw;have t1:g1.get t=_:=(R.kp.get t ⟨.inl pt,nt,by omega⟩).trans ((x1.get t Kv).trans ht);have r1:g1.Zp h.n 0=some (.int .i64 ((y:Int)+1)):=by rw[ZZ R.box];rfl
   have Rn:=R.kp.n;refine⟨_,_,g1,(y:Int)+1,ex,λh=>?_,by split<;>omega,by rw[if_neg s0];exact k1,r1,by omega,by omega,by rw[if_neg s0],t1,?_,ZV (H.ZW t1),⟨by rw[H.ZJ];have:=x1.n;omega,?_⟩⟩
   .have h1:=sw h
    have h2:=hw h;have h3:=JE v;by_cases s1:s=1
    .rw[if_pos s1];omega
    .rw[if_neg s1];omega
   .exact (R.co.put (.inl pt) nt _).less a.pq λb hb=>.inl hb
   .rintro j ⟨hj,jq,jt⟩
    rw[ZX jt,R.kp.get j ⟨.inl hj,jq,by have:=a.lt j hj;omega⟩,x1.get j (a.lt j hj)]
theorem lZ{h0:H}{J M:Nat}{R:Option (Int×Int)×St}{r:Int×Int}{Py:St}(hR:R=(some r,Py))(pt:P t)(pq:P q)(nt:t≠q)(nJ:t≠J/\q≠J)(hM:M+2<100000000)(hj:j<8)
   (hw:Py.sd.writes=true->(Xv b.cu=(j+1)/3/\-16<=b.cu/\b.cu<=16)/\(Xv b.cv=(j+1)%3/\-16<=b.cv/\b.cv<=16)) :
   ∀k e g,(k<=2/\I65 P h0 c q t J M b j R (2-k) e g)->LS (λk e g=>k<=2/\I65 P h0 c q t J M b j R (2-k) e g) (λs=>s.x=.ex 0/\I65 P h0 c q t J M b j R 2 s.e s.h) k (Mp KW ZI e g):=by
 rintro k e g ⟨hk,⟨v,st,Re,pK,VJ,Yv,En⟩,jb,e0,e4,pW,pV⟩;obtain⟨i,hi⟩:∃i,i=2-k:=⟨_,rfl⟩
 rw[<-hi]at Re pK pV;by_cases i2:i=2
 . subst i2
   simp[Mp,pV];exact⟨rfl,⟨v,st,Re,pK,VJ,Yv,En⟩,jb,by simp[e0],by simp[e4],by simp[pW],by simp[pV]⟩
 have i3:(i:Int)<2:=by omega
 have z2:IntKind.i64.wrap ((i:Int)+1)=((i+1:Nat):Int):=by rw[ZS (by omega) (by omega)];omega
 have zq:IntKind.i64.wrap (((j:Int)+1).tdiv 3)=((j+1)/3:Nat):=by
   rw[Int.tdiv_eq_ediv_of_nonneg (by omega),ZS (by omega) (by omega)];omega
 have zr:((j:Int)+1).tmod 3=((j+1)%3:Nat):=by rw[Int.tmod_eq_emod_of_nonneg (by omega)];omega
 have wr:st.sd.writes=Py.sd.writes:=by
   have:=Vy (QN j i v) st;rw[<-pK,hR]at this;exact this.symm
 have gJ:=ZZ (o:=0) jb;have box:=Re.box;obtain⟨o,x,s,v',ho,hx,hs,hcs,cE,rQ,Ph,Ip⟩:∃(o:Nat) (x:Int) (s:Nat) (v':Int->Int×Int),(o=10\/o=11)/\(-1000<=x/\x<=1000)/\s<=2/\({b with cu:=v.1,cv:=v.2}:Bk).cs[o]?=some (.int .i64 x) /\
    kq 2 1 (.agg [.ptr t 10,.ptr t 11]) (.int .i64 (i:Nat))=some (.ptr t o)/\kq 2 1 (.agg [.int .i64 ((j+1)/3:Nat),.int .i64 ((j+1)%3:Nat)]) (.int .i64 (i:Nat))=some (.int .i64 (s:Nat)) /\
    (∀r' YI,(Q9 s i x).exec st=(some r',YI)->(QN j i v).exec st=(QN j (i+1) (v' r')).exec YI) /\
    (∀r',({b with cu:=v.1,cv:=v.2}:Bk).cs.set o (.int .i64 r')=({b with cu:=(v' r').1,cv:=(v' r').2}:Bk).cs/\((-1000<=r'/\r'<=1000)->(-1000<=(v' r').1/\(v' r').1<=1000)/\(-1000<=(v' r').2/\(v' r').2<=1000))/\(st.sd.writes=true->(Xv x=s/\-16<=x/\x<=16)/\(r'=x->v' r'=(b.cu,b.cv)))):=by
   rcases (by omega:i=0\/i=1)with rfl|rfl
   .refine⟨10,v.1,(j+1)/3,λr'=>(r',v.2),.inl rfl,VJ,by omega,rfl,rfl,rfl,λr' YI he=>?_,λr'=>⟨rfl,λh=>⟨h,Yv⟩,λh=>?_⟩⟩
    .unfold QN;rw[if_pos rfl,Pr.Zj he];rfl
    .have h1:=(hw (by rw[<-wr];exact h)).1
     have h2:=En h;rw[h2];exact⟨h1,λe=>by rw[e]⟩
   .refine⟨11,v.2,(j+1)%3,λr'=>(v.1,r'),.inr rfl,Yv,by omega,rfl,rfl,rfl,λr' YI he=>?_,λr'=>⟨rfl,λh=>⟨VJ,h⟩,λh=>?_⟩⟩
    .unfold QN;rw[if_neg (by decide),if_pos rfl,Pr.Zj he];rfl
    .have h1:=(hw (by rw[<-wr];exact h)).2
     have h2:=En h;rw[h2];exact⟨h1,λe=>by rw[e]⟩
 obtain⟨r',YI,g1,A,ex,hrw,hrb,SG,rA,A0,A1,er,gt,Rn⟩:=wT (i:=i) (s:=s) Re.co box (.inl pt) nt hcs (by omega) (by omega) hs hx (λh=>((Ip 0).2.2 h).1);have rv:g.Zp t o=some (.int .i64 x):=(ZZ box).trans hcs;have zn:IntKind.i64.wrap (-x)=-x:=ZS (by omega) (by omega);have znA:IntKind.i64.wrap (-A)=-A:=ZS (by omega) (by omega);have m3:Rg [.int .i64 x,.int .i64 (-x),.int .i64 1]=some (.int .i64 (imax (X3 x) 1)):=cF x (-x) 1;have ol:o<({b with cu:=v.1,cv:=v.2}:Bk).cs.length:=by show o<23;omega
 have w1:g1.WO t o (.int .i64 r')=some (g1.put t (.cells (({b with cu:=v.1,cv:=v.2}:Bk).cs.set o (.int .i64 r')) 42 false)):=by rw[Zw gt ol]
 have lY:kq 3 1 (.agg [.int .i64 0,.int .i64 (-A),.int .i64 A]) (.int .i64 (s:Nat))=some (.int .i64 r'):=by
   rw[er];rcases (by omega:s=0\/s=1\/s=2)with rfl|rfl|rfl<;>rfl
 have Rt:=Re.trans Rn;obtain⟨h1,h2,h3⟩:=Ip r';rw[h1]at Rt w1;obtain⟨h9,Ih⟩:∃z,z=g1.put t (.cells ({b with cu:=(v' r').1,cv:=(v' r').2}:Bk).cs 42 false):=⟨_,rfl⟩
 rw[<-Ih]at Rt;rw[<-Ih]at w1;have nJt:J≠t:=λh=>nJ.1 h.symm;have nJq:J≠q:=λh=>nJ.2 h.symm;have jb9:h9.get J=some (.cells [.int .i64 ((j:Int)+1)] 3 false):=by
   rw[Ih,<-h1,Rn.kp.get J ⟨.inr rfl,nJq,nJt⟩,jb]
 have fin:∀e':E,e'.s pM 0=.ptr q 0->e'.s pM 4=.ptr J 0->e'.s pM 29=.agg [.ptr t 10,.ptr t 11]->e'.s pM 30=.int .i64 ((i+1:Nat):Int)->I65 P h0 c q t J M b j R (i+1) e' h9:=λe' f0 f4 f29 f30 =>
   ⟨⟨v' r',YI,Rt,by rw[pK];exact Ph r' YI ex,(h2 hrb).1,(h2 hrb).2,λh=>(h3 (by rw[<-YS ex];exact h)).2 (hrw (by rw[<-YS ex];exact h))⟩,jb9,f0,f4,f29,f30⟩
 have nZ:2-(k-1)=i+1:=by omega
 obtain⟨d3,hd3⟩:∃z,z=(j+1)/3:=⟨_,rfl⟩
 obtain⟨r3,hr3⟩:∃z,z=(j+1)%3:=⟨_,rfl⟩
 rw[<-hd3]at zq rQ;rw[<-hr3]at zr rQ;by_cases s0:s=0
 . rw[if_pos s0]at SG
   have kB:(s:Int)=0:=by omega
   simp[Mp,pV,i3,pW,cE,e4,gJ,zq,zr,rQ,rv,zn,m3,nw,<-SG,kB,rA,znA,-Int.natCast_add];rw[kB]at lY;simp[lY,w1,z2,-Int.natCast_add];refine⟨k-1,by omega,by omega,?_⟩;rw[nZ];exact fin _ (by simp[e0]) (by simp[e4]) (by simp[pW]) (by simp)
 . rw[if_neg s0]at SG
   have kB:¬(s:Int)=0:=by omega
   simp[Mp,pV,i3,pW,cE,e4,gJ,zq,zr,rQ,rv,zn,m3,nw,e0,SG,s0,kB,rA,znA,lY,w1,z2,-Int.natCast_add];refine⟨k-1,by omega,by omega,?_⟩;rw[nZ];exact fin _ (by simp[e0]) (by simp[e4]) (by simp[pW]) (by simp)
open Go.Zf (ZS)
theorem Gn(s i:Nat)(v:Int)(st:St):∃r YI,(Q9 s i v).exec st=(some r,YI):=by
 unfold Q9;split
 . exact⟨_,_,rfl⟩
 . exact⟨_,_,rfl⟩
theorem A4(j:Nat)(v:Int×Int)(st:St):∃r YI,(QN j 0 v).exec st=(some r,YI):=by
 obtain⟨r,s1,h1⟩:=Gn ((j+1)/3) 0 v.1 st;obtain⟨r2,s2,h2⟩:=Gn ((j+1)%3) 1 v.2 s1;exact⟨(r,r2),s2,by unfold QN;rw[if_pos rfl,Pr.Zj h1,Pr.Zj h2];rfl⟩
end Go.Proofs.YtbkmdnmncaakdaaGreat
