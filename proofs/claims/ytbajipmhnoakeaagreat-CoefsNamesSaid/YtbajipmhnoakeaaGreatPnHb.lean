import Derived.Test.YtbajipmhnoakeaaGreatPnHa
set_option linter.unusedVariables false
set_option linter.unusedSimpArgs false
set_option maxRecDepth 20000
namespace Go.Proofs.YtbajipmhnoakeaaGreat
open Go Go.Zf
open Go.Zf (wi64)
def rowU (n s r:Nat):List Nat:=((List.range r).filter fun r=>decide (r≤s∧s - r < n)).map fun r=>r*n+(s - r)
theorem rowU_succ (n s r:Nat):rowU n s (r+1)=rowU n s r ++ if r≤s∧s - r < n then [r*n+(s - r)] else []:=by
 unfold rowU
 rw [List.range_succ,List.filter_append,List.map_append]
 congr 1
 by_cases h:r≤s∧s - r < n <;> simp [h]
def rowsOk (n:Nat):Bool:=(List.range (2*n - 1)).all fun s=>rowU n s n == rowL n s
theorem rows_ok {s:Nat} (hs:sizeOk s):rowsOk (sideP s)=true:=by
 rcases hs with rfl | rfl | rfl | rfl | rfl <;> kernel_rfl
theorem row_eq {s t:Nat} (hs:sizeOk s) (ht:t < 2*sideP s - 1):rowU (sideP s) t (sideP s)=rowL (sideP s) t:=by
 have:=rows_ok hs
 unfold rowsOk at this
 rw [List.all_eq_true] at this
 simpa using this t (by simpa using ht)
def natV (l:List Nat):List V:=intsV (l.map fun (x:Nat)=>(x:Int))
theorem natV_append (a b:List Nat):natV (a ++ b)=natV a ++ natV b:=by simp [natV,intsV]
def accS (n s:Nat):List Nat:=(List.range s).flatMap (rowL n)
theorem accS_succ (n s:Nat):accS n (s+1)=accS n s ++ rowL n s:=by simp [accS,List.range_succ]
theorem accS_all (n:Nat):accS n (2*n - 1)=ordN n:=by
 unfold accS ordN rowsF
 rw [List.range_eq_range']
abbrev K46:List Nat:=[0,2,3,4,5,6,7,8]
structure I46 (g0:H) (n s:Nat) (j:Nat) (e:E) (g:H):Prop where
 hj:j≤n
 x:Ext g0 g
 v:∃ v m,GrowV g0.n g v 3 1 (natV (accS n s ++ rowU n s (n - j))) m∧m≤n*s+(n - j)∧e.s K46 5=v
 e4:e.s K46 4=.int .i64 (n:Nat)
 e6:e.s K46 6=.int .i64 (s:Nat)
 e7:e.s K46 7=.int .i64 ((n - j:Nat):Int)
theorem loop46_0 {g0:H} {n s:Nat} (hn:n≤32) (hs:s < 63) {e:E} {g:H} {o:Out} (ho:loopZ (l46_0 KW loopZ) e g=o) (hi:I46 g0 n s n e g) :
  ∃ e' g',o=some ⟨.ex 2,e',g'⟩∧I46 g0 n s 0 e' g':=by
 have loop:=loop_run (body:=l46_0 KW loopZ) (I46 g0 n s) (fun st=>st.x=.ex 2∧I46 g0 n s 0 st.e st.h) (fun j e g hi=>by
  obtain ⟨hj,x,⟨v,m,G,hm,e5⟩,e4,e6,e7⟩:=hi
  cases j with
  | zero =>
   rw [Nat.sub_zero] at e7
   simp [l46_0,e4,e7]
   exact ⟨rfl,by omega,x,⟨v,m,G,hm,by simp [e5]⟩,by simp [e4],by simp [e6],by simp [e7]⟩
  | succ j =>
   obtain ⟨r,hr⟩:∃ r,r=n - (j+1):=⟨_,rfl⟩
   have hr2:n - j=r+1:=by omega
   rw [← hr] at e7 G hm
   have z1:IntKind.i64.wrap ((s:Int) - r)=(s:Int) - r:=wz (by omega) (by omega)
   have z6:IntKind.i64.wrap ((r:Int)+1)=((r+1:Nat):Int):=by rw [wz (by omega) (by omega)];omega
   by_cases c1:r≤s
   ·by_cases c2:s - r < n
    ·have hrm:r*n≤31*32:=Nat.mul_le_mul (by omega) hn
     have z4:IntKind.i64.wrap ((r:Int)*n)=(r:Int)*n:=by rw [← Int.natCast_mul];exact wz (by omega) (by omega)
     have z5:IntKind.i64.wrap ((r:Int)*n+((s:Int) - r))=((r*n+(s - r):Nat):Int):=by rw [← Int.natCast_mul,wz (by omega) (by omega)];omega
     obtain ⟨p,hp⟩:∃ p,p=r*n+(s - r):=⟨_,rfl⟩
     rw [← hp] at z5
     have hns:n*s≤32*63:=Nat.mul_le_mul hn (by omega)
     have hx:=x.n
     obtain ⟨v',g',ap,G',q1,q2⟩:=push1 (bytes:=8) (.int .i64 (p:Nat)) G hx (by omega)
     have hbs:bs g 3 1 [.int .i64 0] [(some (0,1),.int .i64 (p:Nat))]=some (.sl g.n 0 1 (.ex 1),g.new (.cells [.int .i64 (p:Nat)] 3 false)):=by simp [bs,fillW,splice]
     have hv:∀ c o k l,v=.sl c o k l→g0.n≤c:=by
      rcases G with ⟨rfl,_⟩ | ⟨b,rfl,_,_,hb⟩
      ·intro c o k l e;cases e
      ·intro c o k l e;cases e;exact hb
     simp [l46_0,e4,e5,e6,e7,show (r:Int) < n by omega,show r < n by omega,z1,show (0:Int)≤(s:Int) - r by omega,show (s:Int) - r < n by omega,z4,z5,hbs,ap,z6,c1,-Int.natCast_add]
     refine ⟨j,by omega,by omega,⟨by omega,fun c hc=>?_⟩,⟨v',m+1,?_,by omega,by simp⟩,by simp [e4],by simp [e6],by simp [hr2]⟩
     ·rw [q2 c (by omega) (fun o k l e=>by have:=hv _ _ _ _ e;omega),x.get c hc]
     ·rw [hr2,rowU_succ,if_pos ⟨c1,c2⟩,← List.append_assoc,natV_append,← hp]
      exact G'
    ·simp [l46_0,e4,e5,e6,e7,show (r:Int) < n by omega,show r < n by omega,z1,show (0:Int)≤(s:Int) - r by omega,show ¬ (s:Int) - r < n by omega,z6,c1,-Int.natCast_add]
     exact ⟨j,by omega,by omega,x,⟨v,m,by rw [hr2,rowU_succ,if_neg (by omega),List.append_nil];exact G,by omega,by simp [e5]⟩,by simp [e4],by simp [e6],by simp [hr2]⟩
   ·simp [l46_0,e4,e5,e6,e7,show (r:Int) < n by omega,show r < n by omega,z1,show ¬ (0:Int)≤(s:Int) - r by omega,z6,c1,gl_t,-Int.natCast_add]
    exact ⟨j,by omega,by omega,x,⟨v,m,by rw [hr2,rowU_succ,if_neg (by omega),List.append_nil];exact G,by omega,by simp [e5]⟩,by simp [e4],by simp [e6],by simp [hr2]⟩) n e g hi
 obtain ⟨⟨sx,se,sh⟩,h1,h2,h3⟩:=loop
 exact ⟨se,sh,by rw [← ho,h1];simp only at h2;rw [h2],h3⟩
structure O46 (g0:H) (n:Nat) (j:Nat) (e:E) (g:H):Prop where
 hj:j≤2*n - 1
 x:Ext g0 g
 v:∃ v m,GrowV g0.n g v 3 1 (natV (accS n (2*n - 1 - j))) m∧m≤n*(2*n - 1 - j)∧e.s K46 5=v
 e4:e.s K46 4=.int .i64 (n:Nat)
 e6:e.s K46 6=.int .i64 ((2*n - 1 - j:Nat):Int)
theorem loop46_1 {g0:H} {s:Nat} (hs:sizeOk s) {e:E} {g:H} {o:Out} (ho:loopZ (l46_1 KW loopZ) e g=o) (hi:O46 g0 (sideP s) (2*sideP s - 1) e g) :
  ∃ e' g',o=some ⟨.ex 0,e',g'⟩∧O46 g0 (sideP s) 0 e' g':=by
 have sb:=sideP_b hs
 have rq:=fun t ht=>row_eq (t:=t) hs ht
 obtain ⟨n,hn⟩:∃ n,n=sideP s:=⟨_,rfl⟩
 rw [← hn] at sb rq hi ⊢
 have loop:=loop_run (body:=l46_1 KW loopZ) (O46 g0 n) (fun st=>st.x=.ex 0∧O46 g0 n 0 st.e st.h) (fun j e g hi=>by
  obtain ⟨hj,x,⟨v,m,G,hm,e5⟩,e4,e6⟩:=hi
  have z2:IntKind.i64.wrap (2*(n:Int))=2*(n:Int):=wz (by omega) (by omega)
  have z3:IntKind.i64.wrap (2*(n:Int) - 2)=2*(n:Int) - 2:=wz (by omega) (by omega)
  cases j with
  | zero =>
   rw [Nat.sub_zero] at e6
   simp [l46_1,e4,e6,z2,z3,show ¬ ((2*n - 1:Nat):Int)≤2*(n:Int) - 2 by omega]
   exact ⟨rfl,by omega,x,⟨v,m,G,hm,by simp [e5]⟩,by simp [e4],by simp [e6]⟩
  | succ j =>
   obtain ⟨t,ht⟩:∃ t,t=2*n - 1 - (j+1):=⟨_,rfl⟩
   have ht2:2*n - 1 - j=t+1:=by omega
   rw [← ht] at e6 G hm
   have z6:IntKind.i64.wrap ((t:Int)+1)=((t+1:Nat):Int):=by rw [wz (by omega) (by omega)];omega
   simp [l46_1,e4,e6,z2,z3,show ((t:Nat):Int)≤2*(n:Int) - 2 by omega]
   generalize ho:loopZ (l46_0 KW loopZ) _ _=o
   obtain ⟨e',g',rfl,_,x',⟨v',m',G',hm',f5⟩,f4,f6,f7⟩:=loop46_0 (g0:=g0) (n:=n) (s:=t) (by omega) (by omega) ho ⟨Nat.le_refl _,x,⟨v,m,by rw [Nat.sub_self,show rowU n t 0=[] from rfl,List.append_nil];exact G,by omega,by simp [e5]⟩,by simp [e4],by simp [e6],by simp⟩
   rw [Nat.sub_zero,rq t (by omega),← accS_succ] at G'
   rw [Nat.sub_zero] at hm'
   simp only [K46] at f4 f5 f6
   simp [f4,f5,f6,z6,-Int.natCast_add]
   exact ⟨j,by omega,by omega,x',⟨v',m',by rw [ht2];exact G',by rw [ht2,Nat.mul_succ];exact hm',by simp⟩,by simp,by simp [ht2]⟩) _ e g hi
 obtain ⟨⟨sx,se,sh⟩,h1,h2,h3⟩:=loop
 exact ⟨se,sh,by rw [← ho,h1];simp only at h2;rw [h2],h3⟩
theorem order46_ok {s:Nat} (hs:sizeOk s) (g:H) :
  RT (fun w h'=>∃ v m,w=.tup [v,.int .i64 0]∧GrowV g.n h' v 3 1 (natV (ordN (sideP s))) m∧Ext g h') (KW 46 [.int .i64 s] g):=by
 have sb:=sideP_b hs
 have a1:=side45_ok hs g
 obtain ⟨n,hn⟩:∃ n,n=sideP s:=⟨_,rfl⟩
 rw [w46,f46,s46]
 rw [← hn] at a1 sb ⊢
 simp [a1,show ¬ (n:Int)=0 by omega,show ¬ n=0 by omega]
 generalize ho:loopZ (l46_1 KW loopZ) _ _=o
 obtain ⟨e',g',rfl,_,x',⟨v',m',G',hm',f5⟩,f4,f6⟩:=loop46_1 (g0:=g) hs ho (by rw [← hn];exact ⟨Nat.le_refl _,Ext.refl _,⟨.nils,0,by rw [Nat.sub_self,show accS n 0=[] from rfl];exact GrowV.nil _ _ _ _,by omega,by simp⟩,by simp,by simp⟩)
 rw [Nat.sub_zero,← hn,accS_all] at G'
 simp only [K46] at f5
 simp [f5]
 exact ⟨v',rfl,⟨m',G'⟩,x'⟩
abbrev K49:List Nat:=[0,2,3,4,5,6,7]
theorem loop49 {en K:Nat} {h:H} (hl:K < 10) (lb:2 ^ K≤en - 1∧en - 1 < 2 ^ (K+1)) {e:E} {o:Out} (ho:loopZ (l49_0 KW loopZ) e h=o) (e0:e.s K49 0=.int .i64 (en:Nat)) (e6:e.s K49 6=.int .i64 1) (e7:e.s K49 7=.int .i64 2) :
  ∃ e',o=some ⟨.ex 0,e',h⟩∧e'.s K49 0=.int .i64 (en:Nat)∧e'.s K49 6=.int .i64 ((K+1:Nat):Int)∧e'.s K49 7=.int .i64 ((2 ^ K+1:Nat):Int):=by
 have hq0:=Nat.two_pow_pos K
 have loop:=loop_run (body:=l49_0 KW loopZ) (fun j e g=>j≤K∧g=h∧e.s K49 0=.int .i64 (en:Nat)∧e.s K49 6=.int .i64 ((K - j+1:Nat):Int)∧e.s K49 7=.int .i64 ((2 ^ (K - j)+1:Nat):Int))
  (fun st=>st.x=.ex 0∧st.h=h∧st.e.s K49 0=.int .i64 (en:Nat)∧st.e.s K49 6=.int .i64 ((K+1:Nat):Int)∧st.e.s K49 7=.int .i64 ((2 ^ K+1:Nat):Int)) (fun j e g hi=>by
   obtain ⟨hj,rfl,e0,e6,e7⟩:=hi
   obtain ⟨i,hi⟩:∃ i,i=K - j:=⟨_,rfl⟩
   rw [← hi] at e6 e7
   have hp:2 ^ i≤2 ^ 10:=Nat.pow_le_pow_right (by omega) (by omega)
   have hps:2 ^ (i+1)=2*2 ^ i:=by rw [Nat.pow_succ];omega
   obtain ⟨q,hq⟩:∃ q,q=2 ^ i:=⟨_,rfl⟩
   rw [← hq] at e7 hp hps
   have z1:IntKind.i64.wrap (((q+1:Nat):Int) - 1)=(q:Int):=by rw [wz (by omega) (by omega)];omega
   have z2:IntKind.i64.wrap (2*(q:Int))=2*(q:Int):=wz (by omega) (by omega)
   have z3:IntKind.i64.wrap (2*(q:Int)+1)=((2*q+1:Nat):Int):=by rw [wz (by omega) (by omega)];omega
   have z4:IntKind.i64.wrap (((i+1:Nat):Int)+1)=((i+1+1:Nat):Int):=by rw [wz (by omega) (by omega)];omega
   cases j with
   | zero =>
    have hiK:i=K:=by omega
    rw [hiK] at hq hps
    have hKs:2 ^ (K+1)=2*2 ^ K:=by rw [Nat.pow_succ];omega
    have hc:¬ (2*(q:Int) < en):=by omega
    simp [l49_0,e0,e6,e7,z1,z2,hc,-Int.natCast_add]
    exact ⟨rfl,rfl,by simp [e0],by simp [e6,hiK],by simp [e7,hq]⟩
   | succ j =>
    have hle:2 ^ (i+1)≤2 ^ K:=Nat.pow_le_pow_right (by omega) (by omega)
    have hc:2*(q:Int) < en:=by omega
    simp [l49_0,e0,e6,e7,z1,z2,hc,z3,z4,-Int.natCast_add]
    exact ⟨j,by omega,by omega,rfl,by simp [e0],by simp [show K - j=i+1 by omega],by simp [show K - j=i+1 by omega,hps]⟩) K e h ⟨Nat.le_refl _,rfl,e0,by simp [e6],by simp [e7]⟩
 obtain ⟨⟨sx,se,sh⟩,h1,h2,h3,h4⟩:=loop
 simp only at h2 h3
 subst h2 h3
 exact ⟨se,by rw [← ho,h1],h4⟩
theorem class49_ok {en:Nat} (h0:1≤en) (h1:en≤1024) (h:H):∃ y,KW 49 [.int .i64 en] h=some (.ret (.tup [.int .i64 (clsP en),y,.int .i64 (extP en),.int .i64 0]),h):=by
 rw [w49,f49,s49]
 by_cases c:en=1
 ·subst c
  simp [clsP,extP]
 ·have hne:en - 1 ≠ 0:=by omega
  have lb:=log2_b hne
  have hl:Nat.log2 (en - 1) < 10:=(Nat.log2_lt hne).2 (by omega)
  obtain ⟨K,hK⟩:∃ K,K=Nat.log2 (en - 1):=⟨_,rfl⟩
  rw [← hK] at lb hl
  have e1:clsP en=K+1:=by unfold clsP;rw [if_neg c,hK]
  have e2:extP en=(en:Int) - 2 ^ K - 1:=by unfold extP;rw [if_neg c,e1,Nat.add_sub_cancel]
  simp [show ¬ (en:Int) < 1 by omega,show ¬ (1024:Int) < (en:Int) by omega,show ¬ (en:Int)=1 by omega,c,show ¬ en=0 by omega,show ¬ 1024 < en by omega,show ¬ en < 1 by omega]
  generalize ho:loopZ (l49_0 KW loopZ) _ _=o
  obtain ⟨e',rfl,h3,h4,h5⟩:=loop49 hl lb ho (by simp) (by simp) (by simp)
  have hp:2 ^ K≤2 ^ 10:=Nat.pow_le_pow_right (by omega) (by omega)
  have tc:=two_pow_cast K
  obtain ⟨q,hq⟩:∃ q,q=2 ^ K:=⟨_,rfl⟩
  rw [← hq] at h5 hp tc
  have z1:IntKind.i64.wrap (((K+1:Nat):Int) - 1)=(K:Int):=by rw [wz (by omega) (by omega)];omega
  have z2:IntKind.i64.wrap ((en:Int) - ((q+1:Nat):Int))=extP en:=by rw [wz (by omega) (by omega),e2];omega
  simp only [K49] at h3 h4 h5
  refine ⟨.int .i64 (K:Int),?_⟩
  simp [h3,h4,h5,z1,z2,e1,-Int.natCast_add]
end Go.Proofs.YtbajipmhnoakeaaGreat
