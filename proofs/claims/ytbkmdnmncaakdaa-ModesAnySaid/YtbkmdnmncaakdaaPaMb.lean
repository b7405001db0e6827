import Derived.Test.YtbkmdnmncaakdaaPaMq
set_option linter.unusedVariables false
set_option linter.unusedSimpArgs false
set_option maxRecDepth 20000
namespace Go.Proofs.Ytbkmdnmncaakdaa
open Go Go.Zf
open Go.Zf (wi64)
namespace Pr
variable {α β:Type}
inductive Rd:Pr α→Option α→List Op→Prop
 | done (a:α):Rd (.done a) (some a) []
 | stop:Rd .stop none []
 | sym {k c:Nat} {v:Int} {f:Nat→Pr α} {x:Nat} {r:Option α} {l:List Op}:Op.ok (.sym k c x)→Rd (f x) r l→Rd (.sym k c v f) r (.sym k c x :: l)
 | num {n:Nat} {v:Int} {f:Nat→Pr α} {x:Nat} {r:Option α} {l:List Op}:Op.ok (.num n x)→Rd (f x) r l→Rd (.num n v f) r (.num n x :: l)
theorem Rd.ok {p:Pr α} {r:Option α} {l:List Op} (a:Rd p r l):∀ o ∈ l,o.ok:=by
 induction a with
 | done=>intro o ho;cases ho
 | stop=>intro o ho;cases ho
 | sym h _ ih=>intro o ho;rcases List.mem_cons.1 ho with rfl | ho;exact h;exact ih o ho
 | num h _ ih=>intro o ho;rcases List.mem_cons.1 ho with rfl | ho;exact h;exact ih o ho
theorem Rd.bind_some {g:α→Pr β}:∀ {p:Pr α} {r:β} {l:List Op},Rd (p.bind g) (some r) l→∃ a l1 l2,Rd p (some a) l1∧Rd (g a) (some r) l2∧l=l1 ++ l2
 | .done a,r,l,h=>⟨a,[],l,.done a,h,rfl⟩
 | .stop,r,l,h=>by cases h
 | .sym k c v f,r,l,h=>by
  cases h with
  | sym ok h =>
   obtain ⟨a,l1,l2,h1,h2,h3⟩:=Rd.bind_some h
   exact ⟨a,_,l2,.sym ok h1,h2,by rw [h3];rfl⟩
 | .num n v f,r,l,h=>by
  cases h with
  | num ok h =>
   obtain ⟨a,l1,l2,h1,h2,h3⟩:=Rd.bind_some h
   exact ⟨a,_,l2,.num ok h1,h2,by rw [h3];rfl⟩
theorem Rd.bind {g:α→Pr β} {p:Pr α} {a:α} {l1:List Op} (h:Rd p (some a) l1):∀ {r:Option β} {l2:List Op},Rd (g a) r l2→Rd (p.bind g) r (l1 ++ l2):=by
 generalize hs:some a=s at h
 induction h with
 | done b=>cases hs;intro r l2 h2;exact h2
 | stop=>cases hs
 | sym ok _ ih=>intro r l2 h2;exact .sym ok (ih hs h2)
 | num ok _ ih=>intro r l2 h2;exact .num ok (ih hs h2)
def Bd:Nat→Pr α→Prop
 | _,.done _=>True
 | _,.stop=>True
 | K,.sym k c _ f=>1≤K∧k < 32∧c < cx k∧∀ x,x < vl k→Bd (K - 1) (f x)
 | K,.num n _ f=>n≤K∧n < 31∧∀ x,x < 2 ^ n→Bd (K - n) (f x)
theorem Bd.mono:∀ {p:Pr α} {K L:Nat},Bd K p→K≤L→Bd L p
 | .done _,_,_,_,_=>trivial
 | .stop,_,_,_,_=>trivial
 | .sym _ _ _ _,K,L,⟨h1,h2,h3,h4⟩,h=>⟨by omega,h2,h3,fun x hx=>(h4 x hx).mono (by omega)⟩
 | .num _ _ _,K,L,⟨h1,h2,h3⟩,h=>⟨by omega,h2,fun x hx=>(h3 x hx).mono (by omega)⟩
theorem Bd.bind {g:α→Pr β} {L:Nat} (hg:∀ a,Bd L (g a)):∀ {p:Pr α} {K:Nat},Bd K p→Bd (K+L) (p.bind g)
 | .done a,K,_=>(hg a).mono (by omega)
 | .stop,_,_=>trivial
 | .sym _ _ _ _,K,⟨h1,h2,h3,h4⟩=>⟨by omega,h2,h3,fun x hx=>(Bd.bind hg (h4 x hx)).mono (by omega)⟩
 | .num _ _ _,K,⟨h1,h2,h3⟩=>⟨by omega,h2,fun x hx=>(Bd.bind hg (h3 x hx)).mono (by omega)⟩
theorem Rd.cost {p:Pr α} {r:Option α} {l:List Op} (a:Rd p r l):∀ {K:Nat},Bd K p→costL l≤K:=by
 induction a with
 | done=>intro K _;exact Nat.zero_le _
 | stop=>intro K _;exact Nat.zero_le _
 | sym ok _ ih =>
  intro K b
  have:=ih (b.2.2.2 _ ok.2.2)
  have h1:=b.1
  simp only [costL,List.map_cons,List.sum_cons,Op.cost] at this ⊢
  omega
 | num ok _ ih =>
  intro K b
  have:=ih (b.2.2 _ ok.2)
  have h1:=b.1
  simp only [costL,List.map_cons,List.sum_cons,Op.cost] at this ⊢
  omega
theorem exec_rd:∀ (p:Pr α) {K m:Nat} {st:St},st.sd.writes=false→SetOk st.S→SideOk m st.sd→Bd K p→m+K < 100000000 →
  ∃ l,Rd p (p.exec st).1 l∧(p.exec st).2.n=st.n+costL l
 | .done a,K,m,st,hw,so,sd,b,hm=>⟨[],.done a,by simp [exec,costL]⟩
 | .stop,K,m,st,hw,so,sd,b,hm=>⟨[],.stop,by simp [exec,costL]⟩
 | .sym k c v f,K,m,st,hw,so,sd,⟨h1,h2,h3,h4⟩,hm=>by
  obtain ⟨r,_,ht,tok,tl⟩:=so.get h2 h3
  obtain ⟨e1,e2⟩:=Side.val_may (v:=v) (sd:=st.sd) tok (by rw [hw];intro h;cases h)
  have so2:SetOk (st.sym k c v).S:=by
   unfold St.sym
   dsimp only
   split
   ·exact so.set h2 (adaptP_ok tok _) (by rw [adaptP_len];exact tl)
   ·exact so
  have sd2:=Side.code_ok sd (by omega) e2
  rw [tl] at e1
  obtain ⟨l,r1,r2⟩:=exec_rd (f (st.symV k c v)) (st:=st.sym k c v) (m:=m+1) (by rw [St.sym_wr];exact hw) so2 sd2 (h4 _ e1) (by omega)
  refine ⟨_,.sym ⟨h2,h3,e1⟩ r1,?_⟩
  rw [exec_sym,r2]
  have:(st.sym k c v).n=st.n+1:=rfl
  rw [this]
  simp only [costL,List.map_cons,List.sum_cons,Op.cost]
  omega
 | .num n v f,K,m,st,hw,so,sd,⟨h1,h2,h3⟩,hm=>by
  have e1:=St.numV_lt (v:=v.toNat) sd (n:=n) (by omega)
  have sd2:=(bits_ok n v.toNat 0 sd (by omega)).1
  obtain ⟨l,r1,r2⟩:=exec_rd (f (st.numV n v.toNat)) (st:=st.num n v.toNat) (m:=m+n) (by rw [St.num_wr];exact hw) so sd2 (h3 _ e1) (by omega)
  refine ⟨_,.num ⟨h2,e1⟩ r1,?_⟩
  rw [exec_num,r2]
  have:(st.num n v.toNat).n=st.n+n:=rfl
  rw [this]
  simp only [costL,List.map_cons,List.sum_cons,Op.cost]
  omega
theorem exec_m {T:Sr} (hT:SOk T) {p:Pr α} {r:Option α} {l:List Op} (a:Rd p r l):∀ {st:St} {s:Sr},st.sd=wS s→SOk s→SetOk st.S→(∃ s',(st.run l).sd=wS s'∧WithinS s' T) →
  ∃ s',(st.run l).sd=wS s'∧p.exec (mateS (bytes T.1 T.2.1) s st)=(r,mateS (bytes T.1 T.2.1) s' (st.run l)):=by
 induction a with
 | done a=>intro st s hs ok so w;exact ⟨s,hs,rfl⟩
 | stop=>intro st s hs ok so w;exact ⟨s,hs,rfl⟩
 | @sym k c v f x r l ho ha ih =>
  intro st s hs ok so w
  obtain ⟨s',h1,h2,h3,h4,_,_,h5⟩:=step_w hs ok so ho
  obtain ⟨sT,w1,w2⟩:=w
  have hrun:st.run (.sym k c x :: l)=(st.sym k c (x:Nat)).run l:=rfl
  rw [hrun] at w1 ⊢
  obtain ⟨s2,g1,g2,g3⟩:=run_within l h1 h2 h4 ha.ok
  have hs2:s2=sT:=by
   have:=g1.symm.trans w1
   injection this with a b c
   exact Prod.ext a (Prod.ext b c)
  subst hs2
  obtain ⟨m1,m2,_⟩:=h5 T hT (Within.trans g3 w2)
  obtain ⟨s3,k1,k2⟩:=ih h1 h2 h4 ⟨s2,w1,w2⟩
  refine ⟨s3,k1,?_⟩
  have er:=St.sym_r (st:=mateS (bytes T.1 T.2.1) s st) rfl k c v (-1)
  rw [exec_sym,er.2,er.1,m2,m1]
  exact k2
 | @num n v f x r l ho ha ih =>
  intro st s hs ok so w
  obtain ⟨s',h1,h2,h3,h4,_,_,h5⟩:=step_w hs ok so ho
  obtain ⟨sT,w1,w2⟩:=w
  have hrun:st.run (.num n x :: l)=(st.num n x).run l:=rfl
  rw [hrun] at w1 ⊢
  obtain ⟨s2,g1,g2,g3⟩:=run_within l h1 h2 h4 ha.ok
  have hs2:s2=sT:=by
   have:=g1.symm.trans w1
   injection this with a b c
   exact Prod.ext a (Prod.ext b c)
  subst hs2
  obtain ⟨m1,m2,_⟩:=h5 T hT (Within.trans g3 w2)
  obtain ⟨s3,k1,k2⟩:=ih h1 h2 h4 ⟨s2,w1,w2⟩
  refine ⟨s3,k1,?_⟩
  have er:=St.num_r (st:=mateS (bytes T.1 T.2.1) s st) rfl n v.toNat 0
  rw [exec_num,er.2,er.1,m2,m1]
  exact k2
structure Fit (p:α→Pr α) (p0:Pr α) (good:α→Prop):Prop where
 w:∀ a,good a→∃ l,(p a).ech=(some a,l)∧Rd p0 (some a) l
 u:∀ a l,Rd p0 (some a) l→good a∧(p a).ech=(some a,l)
theorem ech_sym {k c:Nat} {v:Int} {f:Nat→Pr α} {x:Nat} {r:Option α} {l:List Op} (hv:v=(x:Nat)) (h:(f x).ech=(r,l)):(Pr.sym k c v f).ech=(r,.sym k c x :: l):=by
 subst hv
 simp only [ech,Int.toNat_natCast,h]
theorem ech_num {n:Nat} {v:Int} {f:Nat→Pr α} {x:Nat} {r:Option α} {l:List Op} (hv:v=(x:Nat)) (h:(f x).ech=(r,l)):(Pr.num n v f).ech=(r,.num n x :: l):=by
 subst hv
 simp only [ech,Int.toNat_natCast,h]
theorem ech_bind2 {g:α→Pr β} {p:Pr α} {a:α} {l1 l2:List Op} {r:Option β} (h1:p.ech=(some a,l1)) (h2:(g a).ech=(r,l2)):(p.bind g).ech=(r,l1 ++ l2):=by rw [ech_some h1,h2]
end Pr
abbrev Vc:=Int × Int
structure Bk where
 x:Int
 y:Int
 w:Int
 h:Int
 skip:Bool
 inter:Bool
 ym:Int
 yd:Int
 um:Int
 ud:Int
 cu:Int
 cv:Int
 tx:Int
 comp:Bool
 r0:Int
 r1:Int
 mm:Int
 m0:Vc
 m1:Vc
 fl:Int
 ob:Bool
def bkZ:Bk:=⟨0,0,0,0,false,false,0,0,0,0,0,0,0,false,0,0,0,(0,0),(0,0),0,false⟩
def shapeB (b:Bk):Bk:=⟨b.x,b.y,b.w,b.h,false,false,0,0,0,0,0,0,0,false,0,0,0,(0,0),(0,0),0,false⟩
def sgn (n:Int):Nat:=if n < 0 then 1 else if n > 0 then 2 else 0
def lgB (b:Bk):Nat:=Nat.log2 (imin b.w b.h).toNat
def vecB (v:Vc):Prop := -4095≤v.1∧v.1≤4095 ∧ -4095≤v.2∧v.2≤4095
instance (v:Vc):Decidable (vecB v):=inferInstanceAs (Decidable (_∧_))
def saidV (mode:Int) (l:Vc × Vc):Vc:=if mode=1 then l.2 else if mode=2 then (0,0) else l.1
def flagP (k c:Nat) (b:Bool):Pr Bool:=.sym k c (flg b) fun x=>.done (decide (x=1))
def modeP (k c:Nat) (v:Int × Int):Pr (Int × Int) :=
 .sym k c v.1 fun x=>if 1≤x∧x≤8 then .sym 5 (x - 1) (v.2+3) fun y=>.done ((x:Int),(y:Int) - 3) else .done ((x:Int),v.2)
def magP (s i:Nat) (v:Int):Pr Int:=if s=0 then .done 0 else .sym 9 i (imax (iabs v) 1 - 1) fun a=>.done (if s=1 then -((a:Int)+1) else (a:Int)+1)
def colourP (v:Int × Int):Pr (Int × Int) :=
 .sym 8 0 (3*(sgn v.1:Int)+sgn v.2 - 1) fun j=>(magP ((j+1) / 3) 0 v.1).bind fun u=>(magP ((j+1) % 3) 1 v.2).bind fun w=>.done (u,w)
def uvKind (b:Bk):Nat:=if imax b.w b.h≤32 then 7 else 6
def intraP (b:Bk):Pr Bk :=
 (modeP 4 (lgB b - 3) (b.ym,b.yd)).bind fun y=>(modeP (uvKind b) 0 (b.um,b.ud)).bind fun u =>
 if u.1=13 then (colourP (b.cu,b.cv)).bind fun c=>.done { b with ym:=y.1,yd:=y.2,um:=u.1,ud:=u.2,cu:=c.1,cv:=c.2 }
 else .done { b with ym:=y.1,yd:=y.2,um:=u.1,ud:=u.2 }
def depthP (wr:Bool) (b:Bk):Int:=if wr then (Nat.log2 ((imin b.w b.h).toNat / b.tx.toNat):Nat) else 0
def sizeP (wr lossless:Bool) (b:Bk):Pr Int :=
 if lossless then .done 4 else if b.skip∧b.inter then .done (imin b.w b.h) else
 .sym (if lgB b=3 then 10 else 11) (lgB b - 4) (depthP wr b) fun d=>.done (((imin b.w b.h).toNat / 2 ^ d:Nat):Int)
def mOf (v:Int):Nat:=v.natAbs - 1
def partP (c:Nat) (v:Int):Pr Int :=
 .num 1 (flg (decide (v < 0))) fun below =>
 .sym 18 c (Nat.log2 (mOf v / 8+1):Nat) fun cl =>
 .num cl ((mOf v / 8+1 - 2 ^ Nat.log2 (mOf v / 8+1):Nat):Int) fun rest =>
 .sym 19 c (mOf v % 8:Nat) fun fr =>
 .done (if below=1 then -(((2 ^ cl+rest - 1)*8+fr:Nat):Int) - 1 else (((2 ^ cl+rest - 1)*8+fr:Nat):Int)+1)
def halfP (on:Bool) (c:Nat) (a v:Int):Pr Int:=if on then (partP c (v - a)).bind fun d=>.done (a+d) else .done a
def vectorP (mode:Int) (a v:Vc):Pr Vc :=
 if mode ≠ 3 then .done a else
 .sym 17 0 ((if v.1 ≠ a.1 then 1 else 0)+(if v.2 ≠ a.2 then 2 else 0)) fun j =>
 (halfP (decide (j % 2=1)) 0 a.1 v.1).bind fun x=>(halfP (decide (2≤j)) 1 a.2 v.2).bind fun y=>if vecB (x,y) then .done (x,y) else .stop
abbrev Vs:=Int→(Vc × Vc) × Nat
def interP (vs:Vs) (b:Bk):Pr Bk :=
 (flagP 15 0 b.comp).bind fun cm=>.sym 14 0 b.r0 fun r0 =>
 (if cm then Pr.sym 14 1 b.r1 fun r1=>Pr.done ((r1:Nat):Int) else Pr.done b.r1).bind fun r1 =>
 .sym 16 (vs (r0:Nat)).2 b.mm fun mm =>
 (vectorP (mm:Nat) (saidV (mm:Nat) (vs (r0:Nat)).1) b.m0).bind fun m0 =>
 (if cm then vectorP (mm:Nat) (saidV (mm:Nat) (vs r1).1) b.m1 else .done b.m1).bind fun m1 =>
 .sym 20 0 b.fl fun fl =>
 (if cm then .done b.ob else flagP 21 0 b.ob).bind fun ob =>
 .done { b with comp:=cm,r0:=(r0:Nat),r1:=r1,mm:=(mm:Nat),m0:=m0,m1:=m1,fl:=(fl:Nat),ob:=ob }
def blockP (wr key lossless:Bool) (sc ic:Nat) (vs:Vs) (b:Bk):Pr Bk :=
 (flagP 2 sc b.skip).bind fun sk =>
 (if key then .done b.inter else flagP 3 ic b.inter).bind fun it =>
 (if it then .done { b with skip:=sk,inter:=it } else intraP { b with skip:=sk,inter:=it }).bind fun b1 =>
 (sizeP wr lossless b1).bind fun tx =>
 if it then interP vs { b1 with tx:=tx } else .done { b1 with tx:=tx }
def sideB (n:Int):Prop:=n=8∨n=16∨n=32∨n=64
def placeB (n:Int):Prop:=0≤n∧n≤248∧n % 8=0
def ShapeB (b:Bk):Prop:=placeB b.x∧placeB b.y∧sideB b.w∧sideB b.h∧imax b.w b.h≤4*imin b.w b.h
def SizeB (lossless:Bool) (b:Bk):Prop :=
 if lossless then b.tx=4 else if b.skip∧b.inter then b.tx=imin b.w b.h else
 b.tx=imin b.w b.h∨b.tx=imin b.w b.h / 2∨(imin b.w b.h > 8∧b.tx=imin b.w b.h / 4)
def deltaB (m d:Int):Prop:=d=0∨(1≤m∧m≤8 ∧ -3≤d∧d≤3)
def cflB (b:Bk):Prop:=if b.um=13 then ¬ (b.cu=0∧b.cv=0)∧imax b.w b.h≤32∧(-16≤b.cu∧b.cu≤16)∧(-16≤b.cv∧b.cv≤16) else b.cu=0∧b.cv=0
def IntraB (b:Bk):Prop :=
 (b.inter=false∧b.comp=false∧b.r0=0∧b.r1=0∧b.mm=0∧b.m0=(0,0)∧b.m1=(0,0)∧b.fl=0∧b.ob=false) ∧
 (0≤b.ym∧b.ym≤12)∧(0≤b.um∧b.um≤13)∧deltaB b.ym b.yd∧deltaB b.um b.ud∧cflB b
def secondB (b:Bk):Prop:=if b.comp then (0≤b.r1∧b.r1≤2)∧vecB b.m1∧b.ob=false else b.r1=0∧b.m1=(0,0)
def InterB (b:Bk):Prop :=
 (b.inter=true∧b.ym=0∧b.yd=0∧b.um=0∧b.ud=0∧b.cu=0∧b.cv=0) ∧
 (0≤b.r0∧b.r0≤2)∧(0≤b.mm∧b.mm≤3)∧vecB b.m0∧(0≤b.fl∧b.fl≤2)∧secondB b
def MayB (key lossless:Bool) (b:Bk):Prop:=ShapeB b∧¬ (b.inter=true∧key=true)∧SizeB lossless b∧if b.inter then InterB b else IntraB b
def AgreeB (vs:Vs) (b:Bk):Prop:=b.inter=true→b.mm ≠ 3→b.m0=saidV b.mm (vs b.r0).1∧(b.comp=true→b.m1=saidV b.mm (vs b.r1).1)
end Go.Proofs.Ytbkmdnmncaakdaa
