import Derived.Test.YtbkmdnmncaakdaaPaMd
set_option linter.unusedVariables false
set_option linter.unusedSimpArgs false
set_option maxRecDepth 20000
namespace Go.Proofs.Ytbkmdnmncaakdaa
open Go Go.Zf
open Go.Zf (wi64)
theorem T_put_put:∀ (n:Nat) (t:T) (k:Nat) (x y:Blk),T.put n (T.put n t k x) k y=T.put n t k y
 | 0,t,k,x,y=>rfl
 | n+1,.lf,k,x,y=>by
   simp only [T.put]
   by_cases k0:k=0
   ·simp only [k0,if_true,T.put]
   ·simp only [if_neg k0]
    by_cases k1:k % 2=1
    ·simp only [if_pos k1,T.put,if_neg k0,T_put_put n]
    ·simp only [if_neg k1,T.put,if_neg k0,T_put_put n]
 | n+1,.nd l v r,k,x,y=>by
   simp only [T.put]
   by_cases k0:k=0
   ·simp only [k0,if_true,T.put]
   ·simp only [if_neg k0]
    by_cases k1:k % 2=1
    ·simp only [if_pos k1,T.put,if_neg k0,T_put_put n]
    ·simp only [if_neg k1,T.put,if_neg k0,T_put_put n]
theorem new_put (h:H) (x y:Blk):(h.new x).put h.n y=h.new y:=by
 simp only [H.put,H.new,T_put_put]
@[simp] theorem wrN_new (h:H) (z l:List V) (t:TypeId) (e:l.length=z.length):(h.new (.cells z t false)).wrN h.n 0 l=some (h.new (.cells l t false)):=by
 rw [wrN_of get_new_same (by omega),new_put]
 have:splice z 0 l=l:=by simp [splice,e]
 rw [this]
@[simp] theorem wr1_new (h:H) (z:List V) (o:Nat) (v:V) (t:TypeId) (e:o < z.length):(h.new (.cells z t false)).wr1 h.n o v=some (h.new (.cells (z.set o v) t false)):=by
 rw [wr1_of get_new_same e,new_put]
@[simp] theorem rd1_new (h:H) (z:List V) (o:Nat) (t:TypeId) (ro:Bool):(h.new (.cells z t ro)).rd1 h.n o=z[o]?:=rd1_of get_new_same
@[simp] theorem rdN_new (h:H) (z:List V) (o n:Nat) (t:TypeId) (ro:Bool) (e:o+n≤z.length):(h.new (.cells z t ro)).rdN h.n o n=some ((z.drop o).take n):=rdN_of get_new_same e
def Bk.cs (b:Bk):List V :=
 [.int .i64 b.x,.int .i64 b.y,.int .i64 b.w,.int .i64 b.h,.bool b.skip,.bool b.inter,.int .i64 b.ym,.int .i64 b.yd,.int .i64 b.um,.int .i64 b.ud,.int .i64 b.cu,.int .i64 b.cv,.int .i64 b.tx,.bool b.comp,
  .int .i64 b.r0,.int .i64 b.r1,.int .i64 b.mm,.int .i64 b.m0.1,.int .i64 b.m0.2,.int .i64 b.m1.1,.int .i64 b.m1.2,.int .i64 b.fl,.bool b.ob]
abbrev Bk.v (b:Bk):V:=.agg b.cs
theorem zcs:([.int .i64 0,.int .i64 0,.int .i64 0,.int .i64 0,.bool false,.bool false,.int .i64 0,.int .i64 0,.int .i64 0,.int .i64 0,.int .i64 0,.int .i64 0,.int .i64 0,.bool false,.int .i64 0,.int .i64 0,.int .i64 0,.int .i64 0,.int .i64 0,.int .i64 0,.int .i64 0,.int .i64 0,.bool false]:List V)=bkZ.cs:=rfl
attribute [simp] zcs
@[simp] theorem cs_len (b:Bk):b.cs.length=23:=id rfl
@[simp] theorem cs0 (b:Bk):b.cs[0]?=some (.int .i64 b.x):=id rfl
@[simp] theorem cs1 (b:Bk):b.cs[1]?=some (.int .i64 b.y):=id rfl
@[simp] theorem cs2 (b:Bk):b.cs[2]?=some (.int .i64 b.w):=id rfl
@[simp] theorem cs3 (b:Bk):b.cs[3]?=some (.int .i64 b.h):=id rfl
@[simp] theorem cs4 (b:Bk):b.cs[4]?=some (.bool b.skip):=id rfl
@[simp] theorem cs5 (b:Bk):b.cs[5]?=some (.bool b.inter):=id rfl
@[simp] theorem cs6 (b:Bk):b.cs[6]?=some (.int .i64 b.ym):=id rfl
@[simp] theorem cs7 (b:Bk):b.cs[7]?=some (.int .i64 b.yd):=id rfl
@[simp] theorem cs8 (b:Bk):b.cs[8]?=some (.int .i64 b.um):=id rfl
@[simp] theorem cs9 (b:Bk):b.cs[9]?=some (.int .i64 b.ud):=id rfl
@[simp] theorem cs10 (b:Bk):b.cs[10]?=some (.int .i64 b.cu):=id rfl
@[simp] theorem cs11 (b:Bk):b.cs[11]?=some (.int .i64 b.cv):=id rfl
@[simp] theorem cs12 (b:Bk):b.cs[12]?=some (.int .i64 b.tx):=id rfl
@[simp] theorem cs13 (b:Bk):b.cs[13]?=some (.bool b.comp):=id rfl
@[simp] theorem cs14 (b:Bk):b.cs[14]?=some (.int .i64 b.r0):=id rfl
@[simp] theorem cs15 (b:Bk):b.cs[15]?=some (.int .i64 b.r1):=id rfl
@[simp] theorem cs16 (b:Bk):b.cs[16]?=some (.int .i64 b.mm):=id rfl
@[simp] theorem cs17 (b:Bk):b.cs[17]?=some (.int .i64 b.m0.1):=id rfl
@[simp] theorem cs18 (b:Bk):b.cs[18]?=some (.int .i64 b.m0.2):=id rfl
@[simp] theorem cs19 (b:Bk):b.cs[19]?=some (.int .i64 b.m1.1):=id rfl
@[simp] theorem cs20 (b:Bk):b.cs[20]?=some (.int .i64 b.m1.2):=id rfl
@[simp] theorem cs21 (b:Bk):b.cs[21]?=some (.int .i64 b.fl):=id rfl
@[simp] theorem cs22 (b:Bk):b.cs[22]?=some (.bool b.ob):=id rfl
@[simp] theorem cg0 (b:Bk) (h:0 < b.cs.length):b.cs[0]'h=.int .i64 b.x:=id rfl
@[simp] theorem cg1 (b:Bk) (h:1 < b.cs.length):b.cs[1]'h=.int .i64 b.y:=id rfl
@[simp] theorem cg2 (b:Bk) (h:2 < b.cs.length):b.cs[2]'h=.int .i64 b.w:=id rfl
@[simp] theorem cg3 (b:Bk) (h:3 < b.cs.length):b.cs[3]'h=.int .i64 b.h:=id rfl
@[simp] theorem cg4 (b:Bk) (h:4 < b.cs.length):b.cs[4]'h=.bool b.skip:=id rfl
@[simp] theorem cg5 (b:Bk) (h:5 < b.cs.length):b.cs[5]'h=.bool b.inter:=id rfl
@[simp] theorem cg6 (b:Bk) (h:6 < b.cs.length):b.cs[6]'h=.int .i64 b.ym:=id rfl
@[simp] theorem cg7 (b:Bk) (h:7 < b.cs.length):b.cs[7]'h=.int .i64 b.yd:=id rfl
@[simp] theorem cg8 (b:Bk) (h:8 < b.cs.length):b.cs[8]'h=.int .i64 b.um:=id rfl
@[simp] theorem cg9 (b:Bk) (h:9 < b.cs.length):b.cs[9]'h=.int .i64 b.ud:=id rfl
@[simp] theorem cg10 (b:Bk) (h:10 < b.cs.length):b.cs[10]'h=.int .i64 b.cu:=id rfl
@[simp] theorem cg11 (b:Bk) (h:11 < b.cs.length):b.cs[11]'h=.int .i64 b.cv:=id rfl
@[simp] theorem cg12 (b:Bk) (h:12 < b.cs.length):b.cs[12]'h=.int .i64 b.tx:=id rfl
@[simp] theorem cg13 (b:Bk) (h:13 < b.cs.length):b.cs[13]'h=.bool b.comp:=id rfl
@[simp] theorem cg14 (b:Bk) (h:14 < b.cs.length):b.cs[14]'h=.int .i64 b.r0:=id rfl
@[simp] theorem cg15 (b:Bk) (h:15 < b.cs.length):b.cs[15]'h=.int .i64 b.r1:=id rfl
@[simp] theorem cg16 (b:Bk) (h:16 < b.cs.length):b.cs[16]'h=.int .i64 b.mm:=id rfl
@[simp] theorem cg17 (b:Bk) (h:17 < b.cs.length):b.cs[17]'h=.int .i64 b.m0.1:=id rfl
@[simp] theorem cg18 (b:Bk) (h:18 < b.cs.length):b.cs[18]'h=.int .i64 b.m0.2:=id rfl
@[simp] theorem cg19 (b:Bk) (h:19 < b.cs.length):b.cs[19]'h=.int .i64 b.m1.1:=id rfl
@[simp] theorem cg20 (b:Bk) (h:20 < b.cs.length):b.cs[20]'h=.int .i64 b.m1.2:=id rfl
@[simp] theorem cg21 (b:Bk) (h:21 < b.cs.length):b.cs[21]'h=.int .i64 b.fl:=id rfl
@[simp] theorem cg22 (b:Bk) (h:22 < b.cs.length):b.cs[22]'h=.bool b.ob:=id rfl
@[simp] theorem cs_all (b:Bk):(b.cs.drop 0).take 23=b.cs:=id rfl
@[simp] theorem cs_take (b:Bk):b.cs.take 23=b.cs:=id rfl
@[simp] theorem cs_m0 (b:Bk):(b.cs.drop 17).take 2=[.int .i64 b.m0.1,.int .i64 b.m0.2]:=id rfl
@[simp] theorem cs_m1 (b:Bk):(b.cs.drop 19).take 2=[.int .i64 b.m1.1,.int .i64 b.m1.2]:=id rfl
theorem cs_inj {a b:Bk} (h:eqLs a.cs b.cs=true):a=b:=by
 cases a;cases b
 simp only [Bk.cs,eqLs,eq1,Bool.and_eq_true,beq_iff_eq,and_true] at h
 obtain ⟨h0,h1,h2,h3,h4,h5,h6,h7,h8,h9,h10,h11,h12,h13,h14,h15,h16,h17,h18,h19,h20,h21,h22⟩:=h
 simp only [Bk.mk.injEq]
 exact ⟨h0,h1,h2,h3,h4,h5,h6,h7,h8,h9,h10,h11,h12,h13,h14,h15,h16,Prod.ext h17 h18,Prod.ext h19 h20,h21,h22⟩
theorem cs_self (a:Bk):eqLs a.cs a.cs=true:=by simp [Bk.cs,eqLs,eq1]
instance:DecidableEq Bk:=fun a b=>decidable_of_iff (eqLs a.cs b.cs=true) ⟨cs_inj,fun h=>h ▸ cs_self a⟩
abbrev bkL:List Lf:=[.i .i64,.i .i64,.i .i64,.i .i64,.b,.b,.i .i64,.i .i64,.i .i64,.i .i64,.i .i64,.i .i64,.i .i64,.b,.i .i64,.i .i64,.i .i64,.i .i64,.i .i64,.i .i64,.i .i64,.i .i64,.b]
theorem bk_ok (b:Bk):okLs bkL b.cs=true:=rfl
@[simp] theorem bk_eq (a b:Bk):binS bkL .eql (.agg a.cs) (.agg b.cs)=some (.bool (decide (a=b))):=by
 have:eqLs a.cs b.cs=decide (a=b):=by
   by_cases h:a=b
   ·subst h;simp [cs_self]
   ·have:eqLs a.cs b.cs=false:=by
     cases e:eqLs a.cs b.cs with
     | false=>rfl
     | true=>exact (h (cs_inj e)).elim
    simp [this,h]
 simp only [binS,bk_ok,Bool.and_self,if_true,this]
@[simp] theorem bk_ne (a b:Bk):binS bkL .neq (.agg a.cs) (.agg b.cs)=some (.bool (!decide (a=b))):=by
 have:=bk_eq a b
 simp only [binS,bk_ok,Bool.and_self,if_true,Option.some.injEq,V.bool.injEq] at this ⊢
 rw [this]
@[simp] theorem two_eq (a b c d:Int):binS [.i .i64,.i .i64] .eql (.agg [.int .i64 a,.int .i64 b]) (.agg [.int .i64 c,.int .i64 d])=some (.bool (decide ((a,b)=(c,d)))):=by
 simp [binS,okLs,okLf,eqLs,eq1];rfl
@[simp] theorem two_ne (a b c d:Int):binS [.i .i64,.i .i64] .neq (.agg [.int .i64 a,.int .i64 b]) (.agg [.int .i64 c,.int .i64 d])=some (.bool (!decide ((a,b)=(c,d)))):=by
 simp [binS,okLs,okLf,eqLs,eq1];rfl
@[simp] theorem ck_two {β:Type} (a b:Int) (x:Option β):ck (some (.agg [.int .i64 a,.int .i64 b])) (.agg [.int .i64 a,.int .i64 b]) x=x:=by simp [ck,V.same,V.sames]
@[simp] theorem ck_bk {β:Type} (b:Bk) (x:Option β):ck (some (.agg b.cs)) (.agg b.cs) x=x:=ck_eq _ rfl (by simp [Bk.cs,V.same,V.sames])
@[simp] theorem bl_zero (z:List V):bl z []=some (.agg z):=id rfl
theorem ck_map {β:Type} (b:Nat) (x:Option β):ck (some (.map b)) (.map b) x=x:=by simp [ck,V.same]
attribute [simp] ck_map
@[simp] theorem ck_t {β:Type} (x:Option β):ck (some (.tup [])) (.tup []) x=x:=id rfl
@[simp] theorem gl_t' (want:Bool) (x:Option V):gl (.tup []) want x=some (.tup []):=id rfl
@[simp] theorem gk_t' (want:Bool) (h:H) (x:Option (Rv × H)):gk (.tup []) want h x=some (.ret (.tup []),h):=id rfl
theorem cell99 (h:H) (b o:Nat):ldV Try.prog 99 h (.ptr b o)=ldn 2 h (.ptr b o):=by
 have h1:isAggT Try.prog 99=some true:=by kernel_rfl
 have h2:szT Try.prog 99=some 2:=by kernel_rfl
 simp [ldV,h1,h2,ldn]
theorem cell42 (h:H) (b o:Nat):ldV Try.prog 42 h (.ptr b o)=ldn 2 h (.ptr b o):=by
 have h1:isAggT Try.prog 42=some true:=by kernel_rfl
 have h2:szT Try.prog 42=some 2:=by kernel_rfl
 simp [ldV,h1,h2,ldn]
theorem cell39 (h:H) (b o:Nat):ldV Try.prog 39 h (.ptr b o)=ldn 4 h (.ptr b o):=by
 have h1:isAggT Try.prog 39=some true:=by kernel_rfl
 have h2:szT Try.prog 39=some 4:=by kernel_rfl
 simp [ldV,h1,h2,ldn]
theorem cell43 (h:H) (b o:Nat):ldV Try.prog 43 h (.ptr b o)=ldn 4 h (.ptr b o):=by
 have h1:isAggT Try.prog 43=some true:=by kernel_rfl
 have h2:szT Try.prog 43=some 4:=by kernel_rfl
 simp [ldV,h1,h2,ldn]
theorem cell45 (h:H) (b o:Nat):ldV Try.prog 45 h (.ptr b o)=ldn 23 h (.ptr b o):=by
 have h1:isAggT Try.prog 45=some true:=by kernel_rfl
 have h2:szT Try.prog 45=some 23:=by kernel_rfl
 simp [ldV,h1,h2,ldn]
attribute [simp] cell99 cell42 cell39 cell43 cell45
@[simp] theorem bl2 (x y:V) (a b:Int):bl [x,y] [(some (0,1),.int .i64 a),(some (1,1),.int .i64 b)]=some (.agg [.int .i64 a,.int .i64 b]):=id rfl
@[simp] theorem bl4 (x y z w:V) (a b c d:Int):bl [x,y,z,w] [(some (0,2),.agg [.int .i64 a,.int .i64 b]),(some (2,2),.agg [.int .i64 c,.int .i64 d])]=some (.agg [.int .i64 a,.int .i64 b,.int .i64 c,.int .i64 d]):=id rfl
@[simp] theorem bl8 (z0 z1 z2 z3 z4 z5 z6 z7:V) (a b c d a' b' c' d':Int):bl [z0,z1,z2,z3,z4,z5,z6,z7] [(some (0,2),.agg [.int .i64 a,.int .i64 b]),(some (2,2),.agg [.int .i64 c,.int .i64 d]),(some (4,2),.agg [.int .i64 a',.int .i64 b']),(some (6,2),.agg [.int .i64 c',.int .i64 d'])]=some (.agg [.int .i64 a,.int .i64 b,.int .i64 c,.int .i64 d,.int .i64 a',.int .i64 b',.int .i64 c',.int .i64 d']):=id rfl
structure Gr where
 bs:List Bk
 cs:List ((Int × Int) × Nat)
def inT (x y:Int):Prop:=0≤x∧x < 64∧0≤y∧y < 64
instance (x y:Int):Decidable (inT x y):=inferInstanceAs (Decidable (_∧_))
def findN (k:Int × Int):List ((Int × Int) × Nat)→Option Nat
 | []=>none
 | (a,n) :: r=>if k=a then some n else findN k r
def Gr.at (G:Gr) (x y:Int):Option Bk:=if inT x y then (findN (x / 8,y / 8) G.cs).bind fun n=>G.bs[n]? else none
def entV (e:(Int × Int) × Nat):V × V:=(.agg [.int .i64 e.1.1,.int .i64 e.1.2],.int .i64 (e.2:Nat))
structure GrOk (G:Gr):Prop where
 lt:∀ e ∈ G.cs,e.2 < G.bs.length
 vec:∀ b ∈ G.bs,vecB b.m0∧vecB b.m1
 len:G.bs.length≤100000
theorem findN_mem {k:Int × Int} {n:Nat}:∀ {l:List ((Int × Int) × Nat)},findN k l=some n→(k,n) ∈ l
 | [],h=>by cases h
 | (a,m) :: r,h=>by
   unfold findN at h
   by_cases e:k=a
   ·rw [if_pos e] at h;cases h;subst e;exact List.mem_cons_self ..
   ·rw [if_neg e] at h;exact List.mem_cons_of_mem _ (findN_mem h)
theorem findI_ent (x y:Int):∀ (l:List ((Int × Int) × Nat)) (i:Nat),∃ j,findI [.i .i64,.i .i64] [.int .i64 x,.int .i64 y] (l.map entV) i=some ((findN (x,y) l).map fun n=>(j,.int .i64 (n:Nat)))
 | [],i=>⟨0,rfl⟩
 | ((a,b),n) :: r,i=>by
   have h1:okLs [.i .i64,.i .i64] [V.int .i64 a,.int .i64 b]=true:=rfl
   have h2:eqLs [V.int .i64 x,.int .i64 y] [V.int .i64 a,.int .i64 b]=decide ((x,y)=(a,b)):=by simp [eqLs,eq1];rfl
   simp only [List.map_cons,entV,findI,h1,if_true,h2,findN]
   by_cases e:(x,y)=(a,b)
   ·simp only [e,if_true]
    exact ⟨i,by simp⟩
   ·obtain ⟨j,hj⟩:=findI_ent x y r (i+1)
    refine ⟨j,?_⟩
    simp only [e,if_false,decide_false,Bool.false_eq_true]
    exact hj
theorem lk_ent {h:H} {m:Nat} {l:List ((Int × Int) × Nat)} (hm:h.get m=some (.map (l.map entV))) (x y:Int) :
   lkM [.i .i64,.i .i64] (.int .i64 0) true h (.map m) (.agg [.int .i64 x,.int .i64 y])=some (.tup [.int .i64 ((findN (x,y) l).getD 0:Nat),.bool (findN (x,y) l).isSome],h):=by
 obtain ⟨j,hj⟩:=findI_ent x y l 0
 have h1:okLs [.i .i64,.i .i64] [V.int .i64 x,.int .i64 y]=true:=rfl
 simp only [lkM,h1,if_true,hm,hj]
 cases findN (x,y) l with
 | none=>rfl
 | some n=>rfl
structure GridAt (D:Nat→Prop) (h:H) (g:Nat) (G:Gr):Prop where
 at_:∃ vb m,h.get g=some (.cells [.bool true,.int .i64 0,.int .i64 0,.int .i64 64,.int .i64 64,vb,.map m] 78 false)∧h.get m=some (.map (G.cs.map entV))∧GrowV 0 h vb 45 23 (G.bs.flatMap Bk.cs) G.bs.length ∧
   D g∧D m∧g ≠ m∧(∀ c o n k,vb=.sl c o n k→D c∧c ≠ g∧c ≠ m)
 ok:GrOk G
 hD:∀ b,D b→b < h.n
theorem GridAt.keep {D:Nat→Prop} {h h':H} {g:Nat} {G:Gr} (a:GridAt D h g G) (hn:h.n≤h'.n) (hk:∀ b,D b→h'.get b=h.get b):GridAt D h' g G:=by
 obtain ⟨⟨vb,m,h1,h2,h3,h4,h5,h6,h7⟩,ok,hD⟩:=a
 exact ⟨⟨vb,m,by rw [hk g h4,h1],by rw [hk m h5,h2],h3.keep fun c o n k e=>hk c (h7 c o n k e).1,h4,h5,h6,h7⟩,ok,fun b hb=>by have:=hD b hb;omega⟩
theorem GridAt.ext {D:Nat→Prop} {h h':H} {g:Nat} {G:Gr} (a:GridAt D h g G) (x:Ext h h'):GridAt D h' g G:=a.keep x.n fun b hb=>x.get b (a.hD b hb)
theorem none38_ok {D:Nat→Prop} {h:H} {g:Nat} {G:Gr} (a:GridAt D h g G):KW 38 [.ptr g 0] h=some (.ret (.bool false),h):=by
 obtain ⟨⟨vb,m,h1,_⟩,_⟩:=a
 have r0:=rd1_of (o:=0) h1
 rw [w38,f38,s38]
 simp [r0]
theorem in40_ok {D:Nat→Prop} {h:H} {g:Nat} {G:Gr} (a:GridAt D h g G) {x y:Int} (hx : -1000≤x∧x≤1000) (hy : -1000≤y∧y≤1000):KW 40 [.ptr g 0,.int .i64 x,.int .i64 y] h=some (.ret (.bool (decide (inT x y))),h):=by
 obtain ⟨⟨vb,m,h1,_⟩,_⟩:=a
 have r1:=rd1_of (o:=1) h1
 have r2:=rd1_of (o:=2) h1
 have r3:=rd1_of (o:=3) h1
 have r4:=rd1_of (o:=4) h1
 have z1:IntKind.i64.wrap x=x:=wi64 (by omega) (by omega)
 have z2:IntKind.i64.wrap y=y:=wi64 (by omega) (by omega)
 have e:decide (inT x y)=(decide (0≤x) && (decide (x < 64) && (decide (0≤y) && decide (y < 64)))):=by rw [Bool.eq_iff_iff];simp only [decide_eq_true_eq,Bool.and_eq_true];exact Iff.rfl
 rw [w40,f40,s40,e]
 by_cases c1:0≤x
 · by_cases c2:x < 64
   ·by_cases c3:0≤y
    ·simp [r1,r2,r3,r4,z1,z2,c1,c2,c3]
    ·simp [r1,r2,r3,r4,z1,z2,c1,c2,c3]
   ·simp [r1,r2,r3,r4,z1,z2,c1,c2]
 · simp [r1,r2,r3,r4,z1,z2,c1]
theorem place41_ok (x y:Int) (hx:0≤x∧x≤1000) (hy:0≤y∧y≤1000) (h:H):KW 41 [.int .i64 x,.int .i64 y] h=some (.ret (.agg [.int .i64 (x / 8),.int .i64 (y / 8)]),h.new (.cells [.int .i64 (x / 8),.int .i64 (y / 8)] 99 false)):=by
 have z1:IntKind.i64.wrap (x.tdiv 8)=x / 8:=by rw [Int.tdiv_eq_ediv_of_nonneg hx.1];exact wi64 (by omega) (by omega)
 have z2:IntKind.i64.wrap (y.tdiv 8)=y / 8:=by rw [Int.tdiv_eq_ediv_of_nonneg hy.1];exact wi64 (by omega) (by omega)
 rw [w41,f41,s41]
 simp [nw,z1,z2]
end Go.Proofs.Ytbkmdnmncaakdaa
