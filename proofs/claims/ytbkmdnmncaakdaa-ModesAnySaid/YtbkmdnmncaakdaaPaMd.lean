import Derived.Test.YtbkmdnmncaakdaaPaMc
set_option linter.unusedVariables false
set_option linter.unusedSimpArgs false
set_option maxRecDepth 20000
namespace Go.Proofs.Ytbkmdnmncaakdaa
open Go Go.Zf
open Go.Zf (wi64)
open Pr (Rd Fit ech_sym ech_num ech_bind2 Bd)
theorem Rd.eq {α:Type} {a b:α} (h:a=b):Rd (.done a) (some b) []:=h ▸ .done a
theorem ShapeB.lg {b:Bk} (a:ShapeB b):3≤lgB b∧lgB b≤6:=by
 obtain ⟨n,h1,h2,_,h3⟩:=a.min
 omega
theorem uv_fit (b:Bk) (v0:Int):Fit (modeP (uvKind b) 0) (modeP (uvKind b) 0 (v0,0)) fun v=>(0≤v.1∧v.1≤(if imax b.w b.h≤32 then 13 else 12:Nat))∧deltaB v.1 v.2:=by
 unfold uvKind
 split
 ·exact mode_fit (by decide) (by decide) rfl v0
 ·exact mode_fit (by decide) (by decide) rfl v0
theorem intra_w {b:Bk} (sh:ShapeB b) (hi:IntraB b) :
  ∃ l,(intraP b).ech=(some b,l)∧Rd (intraP { shapeB b with skip:=b.skip,inter:=b.inter }) (some { b with tx:=0 }) l:=by
 obtain ⟨⟨z1,z2,z3,z4,z5,z6,z7,z8,z9⟩,hy,hu,dy,du,hc⟩:=hi
 have lg:=sh.lg
 have hl:lgB { shapeB b with skip:=b.skip,inter:=b.inter }=lgB b:=rfl
 have hk:uvKind { shapeB b with skip:=b.skip,inter:=b.inter }=uvKind b:=rfl
 obtain ⟨l1,a1,b1⟩:=(mode_fit (k:=4) (c:=lgB b - 3) (top:=12) (by decide) (by show _ < 4;omega) rfl 0).w (b.ym,b.yd) ⟨hy,dy⟩
 obtain ⟨l2,a2,b2⟩:=(uv_fit b 0).w (b.um,b.ud) ⟨⟨hu.1,by
  unfold cflB at hc
  split
  ·exact hu.2
  ·have:b.um ≠ 13:=by intro e;rw [if_pos e] at hc;omega
   simp only;omega⟩,du⟩
 by_cases c13:b.um=13
 ·unfold cflB at hc
  rw [if_pos c13] at hc
  obtain ⟨l3,a3,b3⟩:=(colour_fit (0,0)).w (b.cu,b.cv) ⟨hc.1,hc.2.2.1,hc.2.2.2⟩
  refine ⟨l1 ++ (l2 ++ (l3 ++ [])),ech_bind2 a1 (ech_bind2 a2 ?_),b1.bind ?_⟩
  ·simp only [c13,if_true]
   exact ech_bind2 a3 (by rw [← c13];rfl)
  ·rw [hk]
   refine b2.bind ?_
   simp only [c13,if_true]
   refine b3.bind ?_
   exact Rd.eq (by cases b;simp only [shapeB] at *;subst_vars;rfl)
 ·unfold cflB at hc
  rw [if_neg c13] at hc
  refine ⟨l1 ++ (l2 ++ []),ech_bind2 a1 (ech_bind2 a2 ?_),b1.bind ?_⟩
  ·simp only [c13,if_false]
   rfl
  ·rw [hk]
   refine b2.bind ?_
   simp only [c13,if_false]
   exact Rd.eq (by obtain ⟨hc1,hc2⟩:=hc;cases b;simp only [shapeB] at *;subst_vars;rfl)
theorem intra_u {a r:Bk} {s:Bool} {l:List Op} (sh:ShapeB a) (h:Rd (intraP { shapeB a with skip:=s,inter:=false }) (some r) l) :
  (r={ shapeB a with skip:=s,ym:=r.ym,yd:=r.yd,um:=r.um,ud:=r.ud,cu:=r.cu,cv:=r.cv })∧∀ t,IntraB { r with tx:=t }∧(intraP { r with tx:=t }).ech=(some { r with tx:=t },l):=by
 have lg:=sh.lg
 obtain ⟨⟨ym,yd⟩,l1,l2,h1,h2,rfl⟩:=Rd.bind_some h
 obtain ⟨⟨um,ud⟩,l3,l4,h3,h4,rfl⟩:=Rd.bind_some h2
 obtain ⟨⟨g1,g2⟩,a1⟩:=(mode_fit (k:=4) (c:=lgB a - 3) (top:=12) (by decide) (by show _ < 4;omega) rfl 0).u _ _ h1
 obtain ⟨⟨g3,g4⟩,a2⟩:=(uv_fit a 0).u _ _ h3
 simp only at g1 g2 g3 g4 h4
 have um13:um≤13∧(um=13→imax a.w a.h≤32):=by split at g3 <;> omega
 by_cases c13:um=13
 ·rw [if_pos c13] at h4
  obtain ⟨⟨cu,cv⟩,l5,l6,h5,h6,rfl⟩:=Rd.bind_some h4
  obtain ⟨⟨g5,g6,g7⟩,a3⟩:=(colour_fit (0,0)).u _ _ h5
  cases h6
  refine ⟨rfl,fun t=>⟨⟨⟨rfl,rfl,rfl,rfl,rfl,rfl,rfl,rfl,rfl⟩,g1,⟨g3.1,um13.1⟩,g2,g4,?_⟩,ech_bind2 a1 (ech_bind2 a2 ?_)⟩⟩
  ·unfold cflB
   rw [if_pos c13]
   exact ⟨g5,um13.2 c13,g6,g7⟩
  ·simp only [c13,if_true]
   exact ech_bind2 a3 rfl
 ·rw [if_neg c13] at h4
  cases h4
  refine ⟨rfl,fun t=>⟨⟨⟨rfl,rfl,rfl,rfl,rfl,rfl,rfl,rfl,rfl⟩,g1,⟨g3.1,um13.1⟩,g2,g4,?_⟩,ech_bind2 a1 (ech_bind2 a2 ?_)⟩⟩
  ·unfold cflB
   rw [if_neg c13]
   exact ⟨rfl,rfl⟩
  ·simp only [c13,if_false]
   rfl
def VsOk (vs:Vs):Prop:=∀ r,0≤r→r≤2→vecB (vs r).1.1∧vecB (vs r).1.2∧(vs r).2≤2
theorem VsOk.said {vs:Vs} (a:VsOk vs) (m:Int) {r:Int} (h0:0≤r) (h2:r≤2):vecB (saidV m (vs r).1):=by
 obtain ⟨h1,h2,_⟩:=a r h0 h2
 unfold saidV
 split
 ·exact h2
 ·split
  ·decide
  ·exact h1
theorem inter_w {vs:Vs} (vk:VsOk vs) {b:Bk} (hi:InterB b) (ag:AgreeB vs b) :
  ∃ l,(interP vs b).ech=(some b,l)∧Rd (interP vs { shapeB b with skip:=b.skip,inter:=b.inter,tx:=b.tx }) (some b) l:=by
 obtain ⟨⟨z1,z2,z3,z4,z5,z6,z7⟩,⟨r0a,r0b⟩,⟨ma,mb⟩,hm0,⟨fa,fb⟩,h2⟩:=hi
 have ag:=ag z1
 obtain ⟨l1,a1,b1⟩:=(flag_fit (k:=15) (c:=0) (by decide) (by decide) rfl false).w b.comp trivial
 obtain ⟨r0,er0⟩:=Int.eq_ofNat_of_zero_le r0a
 obtain ⟨mm,emm⟩:=Int.eq_ofNat_of_zero_le ma
 obtain ⟨fl,efl⟩:=Int.eq_ofNat_of_zero_le fa
 have hn:=(vk b.r0 r0a r0b).2.2
 have ok0:(Op.sym 14 0 r0).ok:=⟨by decide,by decide,by show r0 < 3;omega⟩
 have ok16:(Op.sym 16 (vs b.r0).2 mm).ok:=⟨by decide,by show _ < 3;omega,by show mm < 4;omega⟩
 have ok20:(Op.sym 20 0 fl).ok:=⟨by decide,by decide,by show fl < 3;omega⟩
 obtain ⟨l2,a2,b2⟩:=(vector_fit (mode:=b.mm) (vk.said b.mm r0a r0b) (0,0)).w b.m0 (by
  split
  ·exact hm0
  ·rename_i c;exact (ag c).1)
 have fin:∀ ob:Bool,ob=b.ob→({ shapeB b with skip:=b.skip,inter:=b.inter,tx:=b.tx,comp:=b.comp,r0:=b.r0,r1:=b.r1,mm:=b.mm,m0:=b.m0,m1:=b.m1,fl:=b.fl,ob:=ob }:Bk)=b:=by
  rintro _ rfl
  cases b;simp only [shapeB] at *;subst_vars;rfl
 cases hc:b.comp with
 | true =>
  unfold secondB at h2
  rw [hc,if_pos rfl] at h2
  obtain ⟨⟨r1a,r1b⟩,hm1,hob⟩:=h2
  obtain ⟨r1,er1⟩:=Int.eq_ofNat_of_zero_le r1a
  have ok1:(Op.sym 14 1 r1).ok:=⟨by decide,by decide,by show r1 < 3;omega⟩
  obtain ⟨l3,a3,b3⟩:=(vector_fit (mode:=b.mm) (vk.said b.mm r1a r1b) (0,0)).w b.m1 (by
   split
   ·exact hm1
   ·rename_i c;exact (ag c).2 hc)
  rw [hc] at a1 b1
  refine ⟨l1 ++ (.sym 14 0 r0 :: ([.sym 14 1 r1] ++ (.sym 16 (vs b.r0).2 mm :: (l2 ++ (l3 ++ (.sym 20 0 fl :: ([] ++ []))))))),?_,?_⟩
  ·unfold interP
   rw [hc]
   refine ech_bind2 a1 (ech_sym er0 (ech_bind2 (a:=b.r1) (l1:=[.sym 14 1 r1]) (by simp only [if_true];exact ech_sym er1 (by rw [er1];rfl)) ?_))
   rw [← er0]
   refine ech_sym emm ?_
   rw [← emm]
   refine ech_bind2 a2 (ech_bind2 (a:=b.m1) (l1:=l3) (by simp only [if_true];exact a3) (ech_sym efl (ech_bind2 (a:=b.ob) (l1:=[]) (by simp only [if_true];rfl) ?_)))
   rw [← efl,← hc];rfl
  ·unfold interP
   refine b1.bind (.sym ok0 (Rd.bind (a:=b.r1) (l1:=[.sym 14 1 r1]) (by simp only [if_true];exact .sym ok1 (by rw [er1];exact .done _)) ?_))
   rw [← er0]
   refine .sym ok16 ?_
   rw [← emm]
   refine b2.bind (Rd.bind (a:=b.m1) (l1:=l3) (by simp only [if_true];exact b3) (.sym ok20 (Rd.bind (a:=false) (l1:=[]) (by simp only [if_true];exact .done _) ?_)))
   rw [← efl,← hc,fin false hob.symm];exact .done _
 | false =>
  unfold secondB at h2
  rw [hc,if_neg (by decide)] at h2
  obtain ⟨e1,e2⟩:=h2
  obtain ⟨l3,a3,b3⟩:=(flag_fit (k:=21) (c:=0) (by decide) (by decide) rfl false).w b.ob trivial
  rw [hc] at a1 b1
  refine ⟨l1 ++ (.sym 14 0 r0 :: ([] ++ (.sym 16 (vs b.r0).2 mm :: (l2 ++ ([] ++ (.sym 20 0 fl :: (l3 ++ []))))))),?_,?_⟩
  ·unfold interP
   rw [hc]
   refine ech_bind2 a1 (ech_sym er0 (ech_bind2 (a:=b.r1) (l1:=[]) rfl ?_))
   rw [← er0]
   refine ech_sym emm ?_
   rw [← emm]
   refine ech_bind2 a2 (ech_bind2 (a:=b.m1) (l1:=[]) rfl (ech_sym efl (ech_bind2 a3 ?_)))
   rw [← efl,← hc];rfl
  ·unfold interP
   refine b1.bind (.sym ok0 ?_)
   refine Rd.bind (a:=b.r1) (l1:=[]) (by rw [e1];exact .done _) ?_
   rw [← er0]
   refine .sym ok16 ?_
   rw [← emm]
   refine b2.bind (Rd.bind (a:=b.m1) (l1:=[]) (by rw [e2];exact .done _) (.sym ok20 (b3.bind ?_)))
   rw [← efl,← hc,fin b.ob rfl];exact .done _
theorem inter_u {vs:Vs} (vk:VsOk vs) {a r:Bk} {s:Bool} {t:Int} {l:List Op} (h:Rd (interP vs { shapeB a with skip:=s,inter:=true,tx:=t }) (some r) l) :
  (r={ shapeB a with skip:=s,inter:=true,tx:=t,comp:=r.comp,r0:=r.r0,r1:=r.r1,mm:=r.mm,m0:=r.m0,m1:=r.m1,fl:=r.fl,ob:=r.ob })∧InterB r∧AgreeB vs r∧(interP vs r).ech=(some r,l):=by
 unfold interP at h
 obtain ⟨cm,l1,l2,h1,h2,rfl⟩:=Rd.bind_some h
 obtain ⟨_,a1⟩:=(flag_fit (k:=15) (c:=0) (by decide) (by decide) rfl false).u _ _ h1
 cases h2 with
 | @sym _ _ _ _ r0 _ l2 ok0 h2 =>
 have hr0:r0 < 3:=ok0.2.2
 obtain ⟨r1,l3,l4,h3,h4,rfl⟩:=Rd.bind_some h2
 cases h4 with
 | @sym _ _ _ _ mm _ l4 ok16 h4 =>
 have hmm:mm < 4:=ok16.2.2
 obtain ⟨m0,l5,l6,h5,h6,rfl⟩:=Rd.bind_some h4
 obtain ⟨m1,l7,l8,h7,h8,rfl⟩:=Rd.bind_some h6
 cases h8 with
 | @sym _ _ _ _ fl _ l8 ok20 h8 =>
 have hfl:fl < 3:=ok20.2.2
 obtain ⟨ob,l9,l10,h9,h10,rfl⟩:=Rd.bind_some h8
 cases h10
 have vs0:=vk.said (mm:Nat) (r:=(r0:Nat)) (by omega) (by omega)
 obtain ⟨g0,e0⟩:=(vector_fit vs0 _).u _ _ h5
 have v0:vecB m0:=by
  split at g0
  ·exact g0
  ·rw [g0];exact vs0
 cases cm with
 | true =>
  simp only [if_true] at h3 h7 h9
  cases h3 with
  | @sym _ _ _ _ r1 _ l3 ok1 h3 =>
  cases h3
  cases h9
  have hr1:r1 < 3:=ok1.2.2
  have vs1:=vk.said (mm:Nat) (r:=(r1:Nat)) (by omega) (by omega)
  obtain ⟨g1,e1⟩:=(vector_fit vs1 _).u _ _ h7
  have v1:vecB m1:=by
   split at g1
   ·exact g1
   ·rw [g1];exact vs1
  refine ⟨rfl,⟨⟨rfl,rfl,rfl,rfl,rfl,rfl,rfl⟩,⟨by simp only;omega,by simp only;omega⟩,⟨by simp only;omega,by simp only;omega⟩,v0,⟨by simp only;omega,by simp only;omega⟩,?_⟩,fun _ hm=>⟨?_,fun _=>?_⟩,?_⟩
  ·unfold secondB
   simp only [if_true]
   exact ⟨⟨by omega,by omega⟩,v1,rfl⟩
  ·simp only at hm ⊢;rw [if_neg hm] at g0;exact g0
  ·simp only at hm ⊢;rw [if_neg hm] at g1;exact g1
  ·unfold interP
   refine ech_bind2 a1 (ech_sym rfl (ech_bind2 (by simp only [if_true];exact ech_sym rfl rfl) (ech_sym rfl (ech_bind2 e0 (ech_bind2 (by simp only [if_true];exact e1) (ech_sym rfl (ech_bind2 (by simp only [if_true];rfl) rfl)))))))
 | false =>
  simp only [Bool.false_eq_true,if_false] at h3 h7 h9
  cases h3
  cases h7
  obtain ⟨_,e9⟩:=(flag_fit (k:=21) (c:=0) (by decide) (by decide) rfl false).u _ _ h9
  refine ⟨rfl,⟨⟨rfl,rfl,rfl,rfl,rfl,rfl,rfl⟩,⟨by simp only;omega,by simp only;omega⟩,⟨by simp only;omega,by simp only;omega⟩,v0,⟨by simp only;omega,by simp only;omega⟩,?_⟩,fun _ hm=>⟨?_,fun hc=>by cases hc⟩,?_⟩
  ·unfold secondB
   simp only [Bool.false_eq_true,if_false]
   exact ⟨rfl,rfl⟩
  ·simp only at hm ⊢;rw [if_neg hm] at g0;exact g0
  ·unfold interP
   simp only [Bool.false_eq_true,if_false]
   refine ech_bind2 a1 (ech_sym rfl (ech_bind2 rfl (ech_sym rfl (ech_bind2 e0 (ech_bind2 rfl (ech_sym rfl (ech_bind2 e9 rfl)))))))
theorem block_w {key ll:Bool} {sc ic:Nat} (hs:sc < 3) (hi:ic < 3) {vs:Vs} (vk:VsOk vs) {b:Bk} (mb:MayB key ll b) (ag:AgreeB vs b) :
  ∃ l,(blockP true key ll sc ic vs b).ech=(some b,l)∧Rd (blockP false key ll sc ic vs (shapeB b)) (some b) l:=by
 obtain ⟨sh,nk,si,hm⟩:=mb
 obtain ⟨l1,a1,b1⟩:=(flag_fit (k:=2) (c:=sc) (by decide) hs rfl false).w b.skip trivial
 have h2:∃ l2,(if key then Pr.done b.inter else flagP 3 ic b.inter).ech=(some b.inter,l2)∧Rd (if key then Pr.done (shapeB b).inter else flagP 3 ic (shapeB b).inter) (some b.inter) l2:=by
  cases key with
  | true =>
   have:b.inter=false:=by cases h:b.inter with
    | false=>rfl
    | true=>exact (nk ⟨h,rfl⟩).elim
   simp only [if_true,this]
   exact ⟨[],rfl,.done _⟩
  | false=>simp only [Bool.false_eq_true,if_false];exact (flag_fit (k:=3) (c:=ic) (by decide) hi rfl false).w b.inter trivial
 obtain ⟨l2,a2,b2⟩:=h2
 cases it:b.inter with
 | true =>
  obtain ⟨l4,a4,b4⟩:=size_w (b':={ shapeB b with skip:=b.skip,inter:=true }) sh si rfl rfl rfl it.symm
  rw [it] at hm a2 b2
  simp only [if_true] at hm
  obtain ⟨l5,a5,b5⟩:=inter_w vk hm ag
  rw [it] at b5
  refine ⟨l1 ++ (l2 ++ ([] ++ (l4 ++ l5))),ech_bind2 a1 ?_,b1.bind (b2.bind (Rd.bind (a:={ shapeB b with skip:=b.skip,inter:=true }) (l1:=[]) (by simp only [if_true];exact .done _) (b4.bind (by simp only [if_true];exact b5))))⟩
  rw [it]
  refine ech_bind2 a2 (ech_bind2 (a:=b) (l1:=[]) (by simp only [if_true];rw [← it];rfl) (ech_bind2 a4 (by simp only [if_true];exact a5)))
 | false =>
  obtain ⟨l4,a4,b4⟩:=size_w (b':={ b with tx:=0 }) sh si rfl rfl rfl rfl
  rw [it] at hm a2 b2
  simp only [Bool.false_eq_true,if_false] at hm
  obtain ⟨l5,a5,b5⟩:=intra_w sh hm
  have b5:Rd (intraP { shapeB b with skip:=b.skip,inter:=false }) (some { b with tx:=0 }) l5:=by
   rw [show ({ shapeB b with skip:=b.skip,inter:=b.inter }:Bk)={ shapeB b with skip:=b.skip,inter:=false } by rw [it]] at b5
   exact b5
  refine ⟨l1 ++ (l2 ++ (l5 ++ (l4 ++ []))),ech_bind2 a1 ?_,b1.bind (b2.bind (Rd.bind (a:={ b with tx:=0 }) (l1:=l5) (by simp only [Bool.false_eq_true,if_false];exact b5) (b4.bind (by rw [if_neg (by decide)];exact Rd.eq rfl))))⟩
  rw [it]
  refine ech_bind2 a2 (ech_bind2 (a:=b) (l1:=l5) (by simp only [Bool.false_eq_true,if_false];rw [← it];exact a5) (ech_bind2 a4 (by simp only [Bool.false_eq_true,if_false];rfl)))
theorem block_u {key ll:Bool} {sc ic:Nat} (hs:sc < 3) (hi:ic < 3) {vs:Vs} (vk:VsOk vs) {a r:Bk} {l:List Op} (sh:ShapeB a) (h:Rd (blockP false key ll sc ic vs (shapeB a)) (some r) l) :
  shapeB r=shapeB a∧MayB key ll r∧AgreeB vs r∧(blockP true key ll sc ic vs r).ech=(some r,l):=by
 unfold blockP at h
 obtain ⟨sk,l1,l2,h1,h2,rfl⟩:=Rd.bind_some h
 obtain ⟨it,l3,l4,h3,h4,rfl⟩:=Rd.bind_some h2
 obtain ⟨b1,l5,l6,h5,h6,rfl⟩:=Rd.bind_some h4
 obtain ⟨tx,l7,l8,h7,h8,rfl⟩:=Rd.bind_some h6
 obtain ⟨_,a1⟩:=(flag_fit (k:=2) (c:=sc) (by decide) hs rfl false).u _ _ h1
 have h3':(if key then Pr.done it else flagP 3 ic it).ech=(some it,l3)∧¬ (it=true∧key=true):=by
  cases key with
  | true=>simp only [if_true] at h3 ⊢;cases h3;exact ⟨rfl,by simp [shapeB]⟩
  | false=>simp only [Bool.false_eq_true,if_false] at h3 ⊢;exact ⟨((flag_fit (k:=3) (c:=ic) (by decide) hi rfl false).u _ _ h3).2,by simp⟩
 obtain ⟨a3,nk⟩:=h3'
 cases it with
 | true =>
  simp only [if_true] at h5 h8
  cases h5
  obtain ⟨g7,a7⟩:=size_u (b:={ shapeB a with skip:=sk,inter:=true }) sh h7
  obtain ⟨er,hi,ag,a8⟩:=inter_u vk (a:=a) h8
  refine ⟨by rw [er];rfl,⟨by rw [er];exact sh,by rw [er];exact nk,?_,by rw [er];simp only [if_true];rw [← er];exact hi⟩,ag,?_⟩
  ·rw [er];exact g7
  ·have a7':(sizeP true ll r).ech=(some tx,l7):=by rw [er];exact a7
   unfold blockP
   have es:r.skip=sk:=by rw [er]
   have ei:r.inter=true:=by rw [er]
   have et:r.tx=tx:=by rw [er]
   rw [es,ei]
   refine ech_bind2 a1 (ech_bind2 a3 (ech_bind2 (a:=r) (l1:=[]) (by simp only [if_true];rw [← es,← ei];rfl) (ech_bind2 a7' ?_)))
   simp only [if_true]
   rw [← et];exact a8
 | false =>
  simp only [Bool.false_eq_true,if_false] at h5 h8
  obtain ⟨er,hu⟩:=intra_u sh h5
  cases h8
  have sh1:ShapeB b1:=by rw [er];exact sh
  obtain ⟨g7,a7⟩:=size_u sh1 h7
  obtain ⟨hi,a5⟩:=hu tx
  have es:b1.skip=sk:=by rw [er]
  have ei:b1.inter=false:=by rw [er];rfl
  refine ⟨by rw [er];rfl,⟨sh1,by rw [ei];exact nk,g7,?_⟩,(fun e=>by rw [ei] at e;cases e),?_⟩
  ·rw [if_neg (by rw [ei];decide)];exact hi
  ·unfold blockP
   simp only
   rw [es,ei]
   refine ech_bind2 a1 (ech_bind2 a3 (ech_bind2 (a:={ b1 with tx:=tx }) (l1:=l5) (by simp only [Bool.false_eq_true,if_false];rw [← es,← ei];exact a5) (ech_bind2 a7 ?_)))
   simp only [Bool.false_eq_true,if_false]
   rw [← es,← ei];rfl
theorem flag_bd {k c:Nat} (hk:k < 32) (hc:c < cx k) (b:Bool):Bd 1 (flagP k c b):=⟨by decide,hk,hc,fun _ _=>by exact trivial⟩
theorem mode_bd {k c:Nat} (hk:k < 32) (hc:c < cx k) (v:Int × Int):Bd 2 (modeP k c v):=by
 refine ⟨by decide,hk,hc,fun x _=>?_⟩
 dsimp only
 split
 ·rename_i h
  exact ⟨by decide,by decide,by show x - 1 < 8;omega,fun _ _=>by exact trivial⟩
 ·trivial
theorem mag_bd (s:Nat) {i:Nat} (hi:i < 2) (v:Int):Bd 1 (magP s i v):=by
 unfold magP
 split
 ·trivial
 ·exact ⟨by decide,by decide,hi,fun _ _=>by exact trivial⟩
theorem colour_bd (v:Int × Int):Bd 3 (colourP v) :=
 ⟨by decide,by decide,by decide,fun j _=>(mag_bd _ (by decide) _).bind (L:=1) fun u=>(mag_bd _ (by decide) _).bind (L:=0) fun w=>by exact trivial⟩
theorem intra_bd {b:Bk} (sh:ShapeB b):Bd 7 (intraP b):=by
 have lg:=sh.lg
 refine (mode_bd (by decide) (by show _ < 4;omega) _).bind (L:=5) fun y=>(mode_bd (by unfold uvKind;split <;> decide) (by unfold uvKind;split <;> decide) _).bind (L:=3) fun u=>?_
 split
 ·exact (colour_bd _).bind (L:=0) fun _=>by exact trivial
 ·trivial
theorem size_bd (wr ll:Bool) {b:Bk} (sh:ShapeB b):Bd 1 (sizeP wr ll b):=by
 have lg:=sh.lg
 unfold sizeP
 split
 ·trivial
 ·split
  ·trivial
  ·refine ⟨by decide,by split <;> decide,?_,fun _ _=>by exact trivial⟩
   split
   ·rename_i e;rw [e];decide
   ·show _ < 3;omega
theorem part_bd {c:Nat} (hc:c < 2) (v:Int):Bd 13 (partP c v):=by
 refine ⟨by decide,by decide,fun _ _=>⟨by decide,by decide,hc,fun x hx=>?_⟩⟩
 have hx:x < 11:=hx
 exact ⟨by omega,by omega,fun _ _=>⟨by omega,by decide,hc,fun _ _=>by exact trivial⟩⟩
theorem half_bd (on:Bool) {c:Nat} (hc:c < 2) (a v:Int):Bd 13 (halfP on c a v):=by
 unfold halfP
 split
 ·exact (part_bd hc _).bind (L:=0) fun _=>by exact trivial
 ·trivial
theorem vector_bd (m:Int) (a v:Vc):Bd 27 (vectorP m a v):=by
 unfold vectorP
 split
 ·trivial
 ·refine ⟨by decide,by decide,by decide,fun j _=>(half_bd _ (by decide) _ _).bind (L:=13) fun x=>(half_bd _ (by decide) _ _).bind (L:=0) fun y=>?_⟩
  split <;> trivial
theorem inter_bd {vs:Vs} (vk:VsOk vs) (b:Bk):Bd 60 (interP vs b):=by
 unfold interP
 refine Bd.bind (K:=1) (L:=59) (fun cm=>?_) (flag_bd (by decide) (by decide) _)
 refine ⟨by decide,by decide,by decide,fun r0 h0=>?_⟩
 have h0:r0 < 3:=h0
 have hn:=(vk (r0:Nat) (by omega) (by omega)).2.2
 refine Bd.bind (K:=1) (L:=57) (fun r1=>?_) ?_
 ·refine ⟨by decide,by decide,by show _ < 3;omega,fun mm _=>?_⟩
  refine Bd.bind (K:=27) (L:=29) (fun m0=>?_) (vector_bd _ _ _)
  refine Bd.bind (K:=27) (L:=2) (fun m1=>?_) ?_
  ·refine ⟨by decide,by decide,by decide,fun fl _=>?_⟩
   refine Bd.bind (K:=1) (L:=0) (fun _=>by exact trivial) ?_
   split
   ·exact True.intro
   ·exact flag_bd (by decide) (by decide) _
  ·split
   ·exact vector_bd _ _ _
   ·exact True.intro
 ·split
  ·exact ⟨by decide,by decide,by decide,fun _ _=>by exact trivial⟩
  ·exact True.intro
theorem Bd.bindR {α β:Type} {g:α→Pr β} {L:Nat}:∀ {p:Pr α} {K:Nat},(∀ a l,Rd p (some a) l→Bd L (g a))→Bd K p→Bd (K+L) (p.bind g)
 | .done a,K,hg,_=>Bd.mono (hg a _ (.done a)) (by omega)
 | .stop,_,_,_=>trivial
 | .sym _ _ _ _,K,hg,⟨h1,h2,h3,h4⟩=>⟨by omega,h2,h3,fun x hx=>Bd.mono (Bd.bindR (fun a l h=>hg a _ (.sym ⟨h2,h3,hx⟩ h)) (h4 x hx)) (by omega)⟩
 | .num _ _ _,K,hg,⟨h1,h2,h3⟩=>⟨by omega,h2,fun x hx=>Bd.mono (Bd.bindR (fun a l h=>hg a _ (.num ⟨h2,hx⟩ h)) (h3 x hx)) (by omega)⟩
theorem block_pos {wr key ll:Bool} {sc ic:Nat} {vs:Vs} {b:Bk} {r:Option Bk} {l:List Op} (h:Rd (blockP wr key ll sc ic vs b) r l):1≤costL l:=by
 cases h with
 | sym ok h=>simp only [costL,List.map_cons,List.sum_cons,Op.cost];omega
theorem block_bd (key ll:Bool) {sc ic:Nat} (hs:sc < 3) (hi:ic < 3) {vs:Vs} (vk:VsOk vs) {b:Bk} (sh:ShapeB b):Bd 64 (blockP false key ll sc ic vs (shapeB b)):=by
 unfold blockP
 refine Bd.bind (K:=1) (L:=63) (fun sk=>?_) (flag_bd (by decide) hs _)
 refine Bd.bind (K:=1) (L:=62) (fun it=>?_) ?_
 ·cases it with
  | true =>
   simp only [if_true]
   exact (size_bd false ll (b:={ shapeB b with skip:=sk,inter:=true }) sh).bind (L:=61) fun tx=>(inter_bd vk _).mono (by decide)
  | false =>
   simp only [Bool.false_eq_true,if_false]
   refine (Bd.bindR (K:=7) (L:=1) (fun r l h=>?_) (intra_bd (b:={ shapeB b with skip:=sk,inter:=false }) sh)).mono (by decide)
   obtain ⟨er,_⟩:=intra_u sh h
   exact (size_bd false ll (b:=r) (by rw [er];exact sh)).bind (L:=0) fun tx=>by exact trivial
 ·split
  ·exact True.intro
  ·exact flag_bd (by decide) hi _
end Go.Proofs.Ytbkmdnmncaakdaa
