import Derived.Test.YtbkmdnmncaakdaaPaMv
set_option linter.unusedVariables false
set_option linter.unusedSimpArgs false
set_option maxRecDepth 20000
namespace Go.Proofs.Ytbkmdnmncaakdaa
open Go Go.Zf
open Go.Zf (wi64)
def NrP (Post PostR:E→H→Prop):Out→Prop
 | some ⟨.nm,e,h⟩=>Post e h
 | some ⟨.rt,e,h⟩=>PostR e h
 | _=>False
theorem NrP_cg {Post PostR:E→H→Prop} {x y:Out} (h:x=y):NrP Post PostR x=NrP Post PostR y:=by rw [h]
attribute [congr] NrP_cg
theorem sq_in2 {C:Out→Prop} {X:Out} {k:E→H→Out} (Post PostR:E→H→Prop) (h1:NrP Post PostR X) (h2:∀ e h,Post e h→C (k e h)) (h3:∀ e h,PostR e h→C (some ⟨.rt,e,h⟩)):C (sq X k):=by
 unfold NrP at h1
 split at h1
 ·rw [sq_nm];exact h2 _ _ h1
 ·rw [sq_rt];exact h3 _ _ h1
 ·exact h1.elim
theorem nr_loop {Post PostR Mid:E→H→Prop} {body:E→H→Out} {i:Nat} {e:E} {h:H} (h1:NmP Mid (body e h)) (h2:∀ e' g,Mid e' g→NrP Post PostR (blk i (loopZ body e' g))):NrP Post PostR (blk i (loopZ body e h)):=by
 obtain ⟨e',g,x,hm⟩:=h1.elim
 rw [loopZ_eq,x,sq_nm]
 exact h2 e' g hm
def refS (b:Bk) (st:St):Nat→Bk × St
 | 0=>(b,st)
 | 1=>({ b with r0:=(st.symV 14 0 b.r0:Nat) },st.sym 14 0 b.r0)
 | _=>({ b with r0:=(st.symV 14 0 b.r0:Nat),r1:=((st.sym 14 0 b.r0).symV 14 1 b.r1:Nat) },(st.sym 14 0 b.r0).sym 14 1 b.r1)
structure I34 (P:Nat→Prop) (h0:H) (c q t g m n:Nat) (b:Bk) (st:St) (i:Nat) (e:E) (h:H):Prop where
 R:Res P h0 c q t 45 (m+i) (refS b st i).2 (refS b st i).1.cs h
 e0:e.s K34v 0=.ptr q 0
 e1:e.s K34v 1=.ptr g 0
 e2:e.s K34v 2=.ptr t 0
 e19:e.s K34v 19=.int .i64 (n:Nat)
 e20:e.s K34v 20=.int .i64 (i:Nat)
theorem loop34_0 {P:Nat→Prop} {h0:H} {c q t g m n:Nat} {b:Bk} {st:St} (pt:P t) (nt:t ≠ q) (hn:n≤2) (hm:m+2 < 100000000) (hb:(-1000≤b.r0∧b.r0≤1000)∧(-1000≤b.r1∧b.r1≤1000)) (hw:st.sd.writes=true→(0≤b.r0∧b.r0≤2)∧(n=2→0≤b.r1∧b.r1≤2)) :
  ∀ k e h,(k≤n∧I34 P h0 c q t g m n b st (n - k) e h)→LS (fun k e h=>k≤n∧I34 P h0 c q t g m n b st (n - k) e h) (fun s=>s.x=.ex 0∧I34 P h0 c q t g m n b st n s.e s.h) k (l34_0 KW loopZ e h):=by
 rintro k e h ⟨hk,R,e0,e1,e2,e19,e20⟩
 obtain ⟨i,hi⟩:∃ i,i=n - k:=⟨_,rfl⟩
 rw [← hi] at R e20
 by_cases ci:i=n
 ·subst ci
  simp [l34_0,e20,e19]
  exact ⟨rfl,R,by simp [e0],by simp [e1],by simp [e2],by simp [e19],by simp [e20]⟩
 have hil:i < n:=by omega
 have hil':(i:Int) < n:=by omega
 have hi2:(i:Int) < 2:=by omega
 have z2:IntKind.i64.wrap ((i:Int)+1)=((i+1:Nat):Int):=by rw [wi64 (by omega) (by omega)];omega
 have jk:n - (k - 1)=i+1:=by omega
 have hv14:(vl 14:Int)=3:=rfl
 obtain ⟨_,h1,a1,rfl,R1⟩:=(symbol60_ok R.co (t:=t) (o:=14+i) (k:=14) (x:=i) (v:=if i=0 then b.r0 else b.r1) (f:=0) R.box pt nt (by rcases (by omega:i=0∨i=1) with rfl | rfl <;> rfl) (by omega) (by decide) (by show i < 3;omega) (by split <;> omega) (by decide) (fun h=>by
  rw [hv14]
  rcases (by omega:i=0∨i=1) with rfl | rfl
  ·have:=(hw h).1;simp only [if_true];omega
  ·have:=(hw (by rw [← St.sym_wr st 14 0 b.r0];exact h)).2 (by omega)
   rw [if_neg (by decide)];omega)).elim
 have a1':KW 60 [.ptr q 0,.int .i64 14,.int .i64 (i:Nat),.int .i64 0,.ptr t (14+i)] h=some (.ret (.tup []),h1):=a1
 simp [l34_0,e20,e19,hil,hil',e2,hi2,show i < 2 by omega,e0,a1',z2,-Int.natCast_add]
 refine ⟨k - 1,by omega,by omega,?_⟩
 rw [jk]
 refine ⟨?_,by simp [e0],by simp [e1],by simp [e2],by simp [e19],by simp⟩
 have RR:=R.trans R1
 rw [Int.sub_zero,Int.add_zero] at RR
 rcases (by omega:i=0∨i=1) with rfl | rfl
 ·exact RR
 ·exact RR
theorem sym_setOk {st:St} (so:SetOk st.S) {k c:Nat} {v:Int} (hk:k < 32) (hc:c < cx k):SetOk (st.sym k c v).S:=by
 obtain ⟨r,_,ht,tok,tl⟩:=so.get hk hc
 unfold St.sym
 dsimp only
 split
 ·exact so.set hk (adaptP_ok tok _) (by rw [adaptP_len];exact tl)
 ·exact so
def IEnd (P:Nat→Prop) (h:H) (c q t m:Nat) (st:St) (b:Bk) (R:Option Bk × St) (h':H):Prop :=
 match R with
 | (some r,st')=>(st.sd.writes=true→r=b)∧(shapeB r=shapeB b∧r.skip=b.skip∧r.inter=b.inter∧r.tx=b.tx)∧Res P h c q t 45 m st' r.cs h'
 | (none,st')=>st.sd.writes=false∧Co P h' c q m st' 4∧(∃ r:Bk,h'.get t=some (.cells r.cs 45 false))∧Kp (fun b=>P b∧b ≠ q∧b ≠ t) h h'
structure SmallE (b:Bk):Prop where
 r:(-1000≤b.r0∧b.r0≤1000)∧(-1000≤b.r1∧b.r1≤1000)
 mm : -1000≤b.mm∧b.mm≤1000
 fl : -1000≤b.fl∧b.fl≤1000
 m0:(-5000≤b.m0.1∧b.m0.1≤5000)∧(-5000≤b.m0.2∧b.m0.2≤5000)
 m1:(-5000≤b.m1.1∧b.m1.1≤5000)∧(-5000≤b.m1.2∧b.m1.2≤5000)
theorem vsOf_sh (G:Gr) {a b:Bk} (h:shapeB a=shapeB b):vsOf G a=vsOf G b:=by
 have h1:a.x=b.x:=(congrArg Bk.x h:(shapeB a).x=(shapeB b).x)
 have h2:a.y=b.y:=(congrArg Bk.y h:(shapeB a).y=(shapeB b).y)
 have h3:a.w=b.w:=(congrArg Bk.w h:(shapeB a).w=(shapeB b).w)
 unfold vsOf;rw [h1,h2,h3]
theorem InG.sh' {G:Gr} {a b:Bk} (ig:InG G b) (h:shapeB a=shapeB b):InG G a:=by
 have h1:a.x=b.x:=(congrArg Bk.x h:(shapeB a).x=(shapeB b).x)
 have h2:a.y=b.y:=(congrArg Bk.y h:(shapeB a).y=(shapeB b).y)
 have h3:a.w=b.w:=(congrArg Bk.w h:(shapeB a).w=(shapeB b).w)
 have h4:a.h=b.h:=(congrArg Bk.h h:(shapeB a).h=(shapeB b).h)
 obtain ⟨sh,i1⟩:=ig
 unfold ShapeB at sh
 exact ⟨by unfold ShapeB;rw [h1,h2,h3,h4];exact sh,by rw [h1,h2];exact i1⟩
def restI (cm:Bool) (b:Bk):Pr Bk:=.sym 20 0 b.fl fun fl=>(if cm then Pr.done b.ob else flagP 21 0 b.ob).bind fun ob=>.done { b with fl:=(fl:Nat),ob:=ob }
theorem inter34_ok {P:Nat→Prop} {h:H} {c q m:Nat} {st:St} (a:Co P h c q m st 0) {D:Nat→Prop} {g:Nat} {G:Gr} (ga:GridAt D h g G) {t:Nat} (dP:∀ x,D x→P x∧x ≠ q∧x ≠ t) {b:Bk} (ht:h.get t=some (.cells b.cs 45 false)) (pt:P t) (nt:t ≠ q) (ig:InG G b) (hm:m+60 < 100000000)
  (sm:SmallE b) (hw:st.sd.writes=true→InterB b∧AgreeB (vsOf G b) b) :
  RT (fun w h'=>w=.tup []∧IEnd P h c q t (m+60) st b ((interP (vsOf G b) b).exec st) h') (KW 34 [.ptr q 0,.ptr g 0,.ptr t 0] h):=by
 have keepG:∀ {h':H},Kp (fun b=>P b∧b ≠ q∧b ≠ t) h h'→GridAt D h' g G:=fun k=>ga.keep k.n fun x hx=>k.get x (dP x hx)
 obtain ⟨_,h1,a1,rfl,R1⟩:=(flag31_ok a (t:=t) (o:=13) (k:=15) (x:=0) (b:=b.comp) ht pt nt rfl (by omega) (by decide) (by decide) rfl).elim
 have cw:st.sd.writes=true→decide (st.symV 15 0 (flg b.comp)=1)=b.comp:=fun h=>by rw [St.symV_w h];cases b.comp <;> rfl
 have ex1:(interP (vsOf G b) b).exec st=(Pr.sym 14 0 b.r0 fun r0=>(if decide (st.symV 15 0 (flg b.comp)=1)=true then Pr.sym 14 1 b.r1 fun r1=>Pr.done ((r1:Nat):Int) else Pr.done b.r1).bind fun r1 =>
   .sym 16 (vsOf G b (r0:Nat)).2 b.mm fun mm=>(vectorP (mm:Nat) (saidV (mm:Nat) (vsOf G b (r0:Nat)).1) b.m0).bind fun m0 =>
   (if decide (st.symV 15 0 (flg b.comp)=1)=true then vectorP (mm:Nat) (saidV (mm:Nat) (vsOf G b r1).1) b.m1 else .done b.m1).bind fun m1 =>
   restI (decide (st.symV 15 0 (flg b.comp)=1)) { b with comp:=decide (st.symV 15 0 (flg b.comp)=1),r0:=(r0:Nat),r1:=r1,mm:=(mm:Nat),m0:=m0,m1:=m1 }).exec (st.sym 15 0 (flg b.comp)):=rfl
 obtain ⟨cm,hcm⟩:∃ cm,cm=decide (st.symV 15 0 (flg b.comp)=1):=⟨_,rfl⟩
 obtain ⟨st1,hst1⟩:∃ z,z=st.sym 15 0 (flg b.comp):=⟨_,rfl⟩
 rw [← hcm,← hst1] at R1
 rw [← hcm] at cw
 rw [← hcm,← hst1] at ex1
 have w1:st1.sd.writes=st.sd.writes:=by rw [hst1];exact St.sym_wr _ _ _ _
 obtain ⟨b1,hb1⟩:∃ b1:Bk,b1={ b with comp:=cm }:=⟨_,rfl⟩
 have R1:Res P h c q t 45 (m+1) st1 b1.cs h1:=by rw [hb1];exact R1
 have a1':KW 31 [.ptr q 0,.int .i64 15,.int .i64 0,.ptr t 13] h=some (.ret (.tup []),h1):=a1
 have rb1:h1.rdN t 0 23=some b1.cs:=by rw [rdN_of R1.box (by simp)];rfl
 obtain ⟨_,h2,a2,rfl,x2⟩:=(vecs56_ok b1 h1).elim
 have c1:b1.comp=cm:=by rw [hb1]
 have start:Res P h c q t 45 (m+1+0) (refS b1 st1 0).2 (refS b1 st1 0).1.cs h2:=⟨R1.co.ext x2,(x2.get t (H.get_lt R1.box)).trans R1.box,R1.kp.trans (Kp.of x2 fun i hi=>R1.co.lt i hi.1)⟩
 have br:b1.r0=b.r0∧b1.r1=b.r1:=by rw [hb1];exact ⟨rfl,rfl⟩
 obtain ⟨n,hn⟩:∃ n:Nat,n=if cm=true then 2 else 1:=⟨_,rfl⟩
 have hn':(if b1.comp=true then (2:Int) else 1)=(n:Nat):=by rw [hn,c1];split <;> rfl
 rw [hn'] at a2
 have hn2:1≤n∧n≤2:=by rw [hn];split <;> omega
 have sec:st.sd.writes=true→cm=true→(0≤b.r1∧b.r1≤2)∧vecB b.m1:=fun h hc=>by
  have:=(hw h).1.2.2.2.2.2
  unfold secondB at this
  rw [← cw h,if_pos hc] at this
  exact ⟨this.1,this.2.1⟩
 obtain ⟨Q,hQ⟩:∃ Q:V→H→Prop,Q=fun w h'=>w=.tup []∧IEnd P h c q t (m+60) st b ((interP (vsOf G b) b).exec st) h':=⟨_,rfl⟩
 rw [← hQ]
 rw [w34,f34,s34]
 simp [a1',rb1,a2]
 refine loop_in (C:=fun o=>RT Q (fin Try.prog _ _ (sq (blk 0 o) _))) _ _ (loop34_0 (P:=P) (h0:=h) (c:=c) (q:=q) (t:=t) (g:=g) (m:=m+1) (n:=n) (b:=b1) (st:=st1) pt nt hn2.2 (by omega) (by rw [br.1,br.2];exact sm.r) (fun h=>by
  rw [w1] at h
  rw [br.1,br.2]
  exact ⟨(hw h).1.2.1,fun e=>(sec h (by rw [hn] at e;cases hc:cm with | true=>rfl | false=>rw [hc] at e;simp at e)).1⟩)) n ⟨Nat.le_refl _,by rw [Nat.sub_self];exact ⟨start,by simp,by simp,by simp,by simp,by simp⟩⟩ ?_
 rintro ⟨sx,se,sh⟩ ⟨s1,R2,e0,e1,e2,e19,e20⟩
 simp only at s1 R2 e0 e1 e2 e19 e20
 subst s1
 obtain ⟨b2,hb2⟩:∃ z,z=(refS b1 st1 n).1:=⟨_,rfl⟩
 obtain ⟨st2,hst2⟩:∃ z,z=(refS b1 st1 n).2:=⟨_,rfl⟩
 rw [← hb2,← hst2] at R2
 have rb2:sh.rdN t 0 23=some b2.cs:=by rw [rdN_of R2.box (by simp)];rfl
 obtain ⟨_,h3,a3,rfl,x3⟩:=(vecs56_ok b2 sh).elim
 have b2c:b2.comp=cm:=by rw [hb2,hb1];rcases (by omega:n=1∨n=2) with h | h <;> rw [h] <;> rfl
 have hn'':(if b2.comp=true then (2:Int) else 1)=(n:Nat):=by rw [hn,b2c];split <;> rfl
 rw [hn''] at a3
 have R3:Res P h c q t 45 (m+3) st2 b2.cs h3:=⟨(R2.co.ext x3).more (by omega) (by omega),(x3.get t (H.get_lt R2.box)).trans R2.box,R2.kp.trans (Kp.of x3 fun i hi=>R2.co.lt i hi.1)⟩
 have w2:st2.sd.writes=st.sd.writes:=by
  rw [hst2,← w1];rcases (by omega:n=1∨n=2) with h | h <;> rw [h]
  ·exact St.sym_wr _ _ _ _
  ·exact (St.sym_wr _ _ _ _).trans (St.sym_wr _ _ _ _)
 have sh2:shapeB b2=shapeB b:=by rw [hb2,hb1];rcases (by omega:n=1∨n=2) with h | h <;> rw [h] <;> rfl
 have f2:b2.skip=b.skip∧b2.inter=b.inter∧b2.tx=b.tx∧b2.mm=b.mm∧b2.m0=b.m0∧b2.m1=b.m1∧b2.fl=b.fl∧b2.ob=b.ob:=by
  rw [hb2,hb1];rcases (by omega:n=1∨n=2) with h | h <;> rw [h] <;> exact ⟨rfl,rfl,rfl,rfl,rfl,rfl,rfl,rfl⟩
 have sv0:st1.symV 14 0 b.r0 < 3:=St.symV_lt R1.co.ok.1 (k:=14) (by decide) (by decide) (fun h=>by have:=(hw (by rw [← w1];exact h)).1.2.1;show _∧_ < ((3:Nat):Int);omega)
 have r0b:0≤b2.r0∧b2.r0≤2:=by
  have:b2.r0=(st1.symV 14 0 b.r0:Nat):=by rw [hb2,hb1];rcases (by omega:n=1∨n=2) with h | h <;> rw [h] <;> rfl
  omega
 have r0w:st.sd.writes=true→b2.r0=b.r0:=fun h=>by
  have e:b2.r0=(st1.symV 14 0 b.r0:Nat):=by rw [hb2,hb1];rcases (by omega:n=1∨n=2) with h | h <;> rw [h] <;> rfl
  rw [e,St.symV_w (by rw [w1];exact h)]
  have:=(hw h).1.2.1;omega
 have hvs:=vsOf_sh G sh2
 have ga3:GridAt D h3 g G:=keepG R3.kp
 have ig2:=ig.sh' sh2
 -- the first vector
 obtain ⟨S,hS⟩:∃ S,S=st2.symV 16 (vsOf G b b2.r0).2 b.mm:=⟨_,rfl⟩
 obtain ⟨st3,hst3⟩:∃ z,z=st2.sym 16 (vsOf G b b2.r0).2 b.mm:=⟨_,rfl⟩
 have w3:st3.sd.writes=st.sd.writes:=by rw [hst3,St.sym_wr,w2]
 have iw:st2.sd.writes=true→(0≤b2.mm∧b2.mm≤3)∧if b2.mm=3 then vecB b2.m0 else b2.m0=saidV b2.mm (vsOf G b2 b2.r0).1:=fun h=>by
  rw [w2] at h
  obtain ⟨⟨z,q1,q2,q3,q4,q5⟩,ag⟩:=hw h
  rw [f2.2.2.2.1,f2.2.2.2.2.1,hvs,r0w h]
  refine ⟨q2,?_⟩
  split
  ·exact q3
  ·rename_i h3;exact (ag z.1 h3).1
 have Sw:st.sd.writes=true→((S:Nat):Int)=b.mm:=fun h=>by rw [hS,St.symV_w (by rw [w2];exact h)];have:=(hw h).1.2.2.1;omega
 have it0:=fun (e:E) (he:E34 q g t n 0 e)=>(iter34_0 (n:=n) R3.co ga3 R3.box pt nt ig2 r0b (by omega) (by omega) (by rw [f2.2.2.2.1];exact sm.mm) (by rw [f2.2.2.2.2.1];exact sm.m0) iw he)
 rw [hvs,f2.2.2.2.1,f2.2.2.2.2.1,← hS,← hst3] at it0
 have exA:(interP (vsOf G b) b).exec st=((vectorP (S:Nat) (saidV (S:Nat) (vsOf G b b2.r0).1) b.m0).bind fun m0=>(if cm=true then vectorP (S:Nat) (saidV (S:Nat) (vsOf G b b2.r1).1) b.m1 else .done b.m1).bind fun m1=>restI cm { b2 with mm:=(S:Nat),m0:=m0,m1:=m1 }).exec st3:=by
  rw [ex1]
  cases hc:cm with
  | true =>
   have e:n=2:=by rw [hn,hc];rfl
   rw [hst3,hS,hst2,hb2,e,hb1,hc];rfl
  | false =>
   have e:n=1:=by rw [hn,hc];rfl
   rw [hst3,hS,hst2,hb2,e,hb1,hc];rfl
 obtain ⟨Pos,hPos⟩:∃ Pos:H→Prop,Pos=fun g4 =>
   (
    ∃ bb st4,(interP (vsOf G b) b).exec st=(restI cm bb).exec st4∧(st.sd.writes=true→bb=b)∧(shapeB bb=shapeB b∧bb.skip=b.skip∧bb.inter=b.inter∧bb.tx=b.tx∧bb.comp=cm∧bb.fl=b.fl)∧Res P h c q t 45 (m+58) st4 bb.cs g4) ∨
    (∃ st4 rr,(interP (vsOf G b) b).exec st=(none,st4)∧st.sd.writes=false∧Co P g4 c q (m+58) st4 4∧g4.get t=some (.cells (rr:Bk).cs 45 false)∧rr.comp=cm∧Kp (fun b=>P b∧b ≠ q∧b ≠ t) h g4):=⟨_,rfl⟩
 simp [e0,e1,e2,rb2,a3]
 refine sq_in2 (C:=fun o=>RT Q (fin Try.prog _ _ o)) (fun e g4=>(e.s K34v 0=.ptr q 0∧e.s K34v 2=.ptr t 0)∧Pos g4) (fun e g4=>Q (.tup []) g4) ?_ ?_ ?_
 ·refine nr_loop (it0 _ ⟨by simp,by simp,by simp,by simp,by simp⟩) ?_
  rintro e4 g4 ⟨E4,V4⟩
  generalize hV:(vectorP (S:Nat) (saidV (S:Nat) (vsOf G b b2.r0).1) b.m0).exec st3=RV at V4
  obtain ⟨r,st4⟩:=RV
  cases r with
  | none =>
   rw [Pr.exec_none hV] at exA
   obtain ⟨v1,v2,⟨rr,v3⟩,v4⟩:=V4
   have kp4:=R3.kp.trans v4
   rw [w3] at v1
   cases hc:cm with
   | true =>
     have e:n=2:=by rw [hn,hc];rfl
     subst e
     have hq:Q (.tup []) g4:=by rw [hQ];refine ⟨rfl,?_⟩;rw [exA];exact ⟨v1,v2.more (by omega) hm,⟨_,v3⟩,kp4⟩
     have q1:=rd1_of (o:=1) v2.k
     rw [loopZ_eq]
     simp [l34_1,E4.e36,E4.e35,E4.e0,q1,NrP]
     exact hq
   | false =>
     have e:n=1:=by rw [hn,hc];rfl
     subst e
     have pos:Pos g4:=by
      rw [hPos]
      exact .inr ⟨st4,_,exA,v1,v2.more (by omega) (by omega),v3,b2c,kp4⟩
     rw [loopZ_eq]
     simp [l34_1,E4.e36,E4.e35,NrP]
     exact ⟨⟨by simp [E4.e0],by simp [E4.e2]⟩,pos⟩
  | some m0' =>
   rw [Pr.exec_some hV] at exA
   obtain ⟨v1,v2⟩:=V4
   rw [w3] at v1
   have w4:=(exec_wr' hV).trans w3
   have b2w:st.sd.writes=true→({ b2 with mm:=(S:Nat),m0:=m0',r1:=b.r1 }:Bk)=b:=fun h=>by
     rw [Sw h,v1 h]
     have e1:=r0w h
     have e2:=cw h
     have e3:({ b2 with mm:=b.mm,m0:=b.m0,r1:=b.r1 }:Bk)={ b with comp:=cm,r0:=b2.r0 }:=by
      rw [hb2,hb1];rcases (by omega:n=1∨n=2) with h | h <;> rw [h] <;> rfl
     rw [e3,e1,e2]
   cases hc:cm with
   | false =>
     have e:n=1:=by rw [hn,hc];rfl
     subst e
     have pos:Pos g4:=by
      rw [hPos]
      refine .inl ⟨{ b2 with mm:=(S:Nat),m0:=m0' },st4,?_,fun h=>?_,⟨sh2,f2.1,f2.2.1,f2.2.2.1,b2c,f2.2.2.2.2.2.2.1⟩,⟨v2.co.more (by omega) (by omega),v2.box,R3.kp.trans v2.kp⟩⟩
      ·rw [exA,hc,← f2.2.2.2.2.2.1];rfl
      ·have e1:b2.r1=b.r1:=by rw [hb2,hb1];rfl
       have e2:=b2w h
       rw [← e1] at e2
       exact e2
     rw [loopZ_eq]
     simp [l34_1,E4.e36,E4.e35,NrP]
     exact ⟨⟨by simp [E4.e0],by simp [E4.e2]⟩,pos⟩
   | true =>
     have e:n=2:=by rw [hn,hc];rfl
     subst e
     have e2r:b2.r1=((st1.sym 14 0 b.r0).symV 14 1 b.r1:Nat):=by rw [hb2,hb1];rfl
     have hw14:(st1.sym 14 0 b.r0).sd.writes=true→0≤b.r1∧b.r1 < (vl 14:Nat):=fun h=>by
      rw [St.sym_wr,w1] at h
      have:=(sec h hc).1;show _∧_ < ((3:Nat):Int);omega
     have sv1:(st1.sym 14 0 b.r0).symV 14 1 b.r1 < 3:=St.symV_lt (sym_setOk R1.co.ok.1 (by decide) (by decide)) (k:=14) (by decide) (by decide) hw14
     have r1b:0≤b2.r1∧b2.r1≤2:=by omega
     have r1w:st.sd.writes=true→b2.r1=b.r1:=fun h=>by
      rw [e2r,St.symV_w (by rw [St.sym_wr,w1];exact h)]
      have:=(sec h hc).1;omega
     obtain ⟨b3,hb3⟩:∃ b3:Bk,b3={ b2 with mm:=(S:Nat),m0:=m0' }:=⟨_,rfl⟩
     have t4:g4.get t=some (.cells b3.cs 45 false):=by rw [hb3];exact v2.box
     have sh3:shapeB b3=shapeB b:=by rw [hb3];exact sh2
     have f3:b3.r1=b2.r1∧b3.m1=b.m1∧b3.mm=(S:Nat):=by rw [hb3];exact ⟨rfl,f2.2.2.2.2.2.1,rfl⟩
     have kp4:=R3.kp.trans v2.kp
     have iw1:st4.sd.writes=true→if b3.mm=3 then vecB b3.m1 else b3.m1=saidV b3.mm (vsOf G b3 b3.r1).1:=fun h=>by
      rw [w4] at h
      obtain ⟨⟨z,q1,q2,q3,q4,q5⟩,ag⟩:=hw h
      rw [vsOf_sh G sh3,f3.1,f3.2.1,f3.2.2,r1w h,Sw h]
      split
      ·exact (sec h hc).2
      ·rename_i hm3;exact (ag z.1 hm3).2 (by rw [← cw h,hc])
     refine nr_loop (iter34_1 v2.co (keepG kp4) t4 pt nt (ig.sh' sh3) (by rw [f3.1];exact r1b) (by omega) (by rw [f3.2.1];exact sm.m1) iw1 ⟨by simp [E4.e0],by simp [E4.e1],by simp [E4.e2],by simp [E4.e35],by simp [E4.e36]⟩) ?_
     rw [vsOf_sh G sh3,f3.1,f3.2.1,f3.2.2]
     rintro e5 g5 ⟨E5,V5⟩
     rw [hc,if_pos rfl] at exA
     generalize hV1:(vectorP (S:Nat) (saidV (S:Nat) (vsOf G b b2.r1).1) b.m1).exec st4=RV at V5
     obtain ⟨r,st5⟩:=RV
     have pos:Pos g5:=by
      rw [hPos]
      cases r with
      | none =>
       rw [Pr.exec_none hV1] at exA
       obtain ⟨u1,u2,⟨rr,u3⟩,u4⟩:=V5
       rw [w4] at u1
       refine .inr ⟨st5,_,exA,u1,u2.more (by omega) (by omega),u3,?_,kp4.trans u4⟩
       rw [hb3];exact b2c
      | some m1' =>
       rw [Pr.exec_some hV1] at exA
       obtain ⟨u1,u2⟩:=V5
       rw [w4] at u1
       refine .inl ⟨{ b3 with m1:=m1' },st5,?_,fun h=>?_,⟨sh3,by rw [hb3];exact f2.1,by rw [hb3];exact f2.2.1,by rw [hb3];exact f2.2.2.1,by rw [hb3];exact b2c,by rw [hb3];exact f2.2.2.2.2.2.2.1⟩,⟨u2.co.more (by omega) (by omega),by have h:=u2.box;rw [← f3.2.2,← f3.1] at h;exact h,kp4.trans u2.kp⟩⟩
       ·rw [exA,hb3,hc]
       ·rw [u1 h,← f3.2.1,hb3]
        have e2:=b2w h
        rw [← r1w h] at e2
        exact e2
     rw [loopZ_eq]
     simp [l34_1,E5.e36,E5.e35,NrP]
     exact ⟨⟨by simp [E5.e0],by simp [E5.e2]⟩,pos⟩
 ·rintro e g4 ⟨⟨e0,e2⟩,pos⟩
  rw [hPos] at pos
  rcases pos with ⟨bb,st4,exB,wb,⟨s1,s2,s3,s4,s5,s6⟩,R4⟩ | ⟨st4,rr,exB,wb,co4,rb4,rc4,kp4⟩
  ·have w4:st4.sd.writes=st.sd.writes:=by
     have h1:=exec_wr (restI cm bb) st4
     have h2:=exec_wr (interP (vsOf G b) b) st
     rw [exB] at h2
     exact h1.symm.trans h2
   have flw:st4.sd.writes=true→0≤bb.fl - 0∧bb.fl - 0 < (vl 20:Nat):=fun h=>by
     rw [w4] at h
     have:=(hw h).1.2.2.2.2.1
     rw [s6];show _∧_ < ((3:Nat):Int);omega
   obtain ⟨_,g5,a5,rfl,R5⟩:=(symbol60_ok R4.co (t:=t) (o:=21) (k:=20) (x:=0) (v:=bb.fl) (f:=0) R4.box pt nt rfl (by omega) (by decide) (by decide) (by rw [s6];have:=sm.fl;omega) (by decide) flw).elim
   rw [Int.sub_zero,Int.add_zero] at R5
   have a5':KW 60 [.ptr q 0,.int .i64 20,.int .i64 0,.int .i64 0,.ptr t 21] g4=some (.ret (.tup []),g5):=a5
   have fw:st.sd.writes=true→((st4.symV 20 0 bb.fl:Nat):Int)=bb.fl:=fun h=>by
     have:=flw (by rw [w4];exact h)
     rw [St.symV_w (by rw [w4];exact h)];omega
   obtain ⟨f,hf⟩:∃ f,f=st4.symV 20 0 bb.fl:=⟨_,rfl⟩
   obtain ⟨st5,hst5⟩:∃ z,z=st4.sym 20 0 bb.fl:=⟨_,rfl⟩
   rw [← hf,← hst5] at R5
   rw [← hf] at fw
   have w5:st5.sd.writes=st.sd.writes:=by rw [hst5,St.sym_wr,w4]
   obtain ⟨b5,hb5⟩:∃ b5:Bk,b5={ bb with fl:=(f:Nat) }:=⟨_,rfl⟩
   have R5:Res P g4 c q t 45 (m+58+1) st5 b5.cs g5:=by rw [hb5];exact R5
   have cm5:g5.rd1 t 13=some (.bool cm):=by rw [rd1_of R5.box,hb5,← s5];rfl
   cases hc:cm with
   | true =>
     rw [hc] at cm5
     have hq:Q (.tup []) g5:=by
      rw [hQ]
      refine ⟨rfl,?_⟩
      rw [exB]
      have:(restI cm bb).exec st4=(some b5,st5):=by unfold restI;rw [hc,Pr.exec_sym,← hf,← hst5,hb5];rfl
      rw [this]
      exact ⟨fun h=>by rw [hb5,fw h];exact wb h,⟨by rw [hb5];exact s1,by rw [hb5];exact s2,by rw [hb5];exact s3,by rw [hb5];exact s4⟩,⟨R5.co.more (by omega) hm,R5.box,R4.kp.trans R5.kp⟩⟩
     simp [e0,e2,a5',cm5]
     exact hq
   | false =>
     rw [hc] at cm5
     obtain ⟨_,g6,a6,rfl,R6⟩:=(flag31_ok R5.co (t:=t) (o:=22) (k:=21) (x:=0) (b:=bb.ob) R5.box pt nt (by rw [hb5];rfl) (by omega) (by decide) (by decide) rfl).elim
     have a6':KW 31 [.ptr q 0,.int .i64 21,.int .i64 0,.ptr t 22] g5=some (.ret (.tup []),g6):=a6
     have ow:st.sd.writes=true→decide (st5.symV 21 0 (flg bb.ob)=1)=bb.ob:=fun h=>by rw [St.symV_w (by rw [w5];exact h)];cases bb.ob <;> rfl
     have hq:Q (.tup []) g6:=by
      rw [hQ]
      refine ⟨rfl,?_⟩
      rw [exB]
      have:(restI cm bb).exec st4=(some { b5 with ob:=decide (st5.symV 21 0 (flg bb.ob)=1) },st5.sym 21 0 (flg bb.ob)):=by unfold restI;rw [hc,Pr.exec_sym,← hf,← hst5,hb5];rfl
      rw [this]
      exact ⟨fun h=>by rw [hb5,fw h,ow h];exact wb h,⟨by rw [hb5];exact s1,by rw [hb5];exact s2,by rw [hb5];exact s3,by rw [hb5];exact s4⟩,⟨R6.co.more (by omega) hm,by rw [R6.box];rfl,(R4.kp.trans R5.kp).trans R6.kp⟩⟩
     simp [e0,e2,a5',cm5,a6']
     exact hq
  ·have er:=symbol60_err co4.k (by decide) (.int .i64 20) (.int .i64 0) (.int .i64 0) (.ptr t 21)
   have cm4:g4.rd1 t 13=some (.bool cm):=by rw [rd1_of rb4,← rc4];rfl
   cases hc:cm with
   | true =>
     rw [hc] at cm4
     have hq:Q (.tup []) g4:=by
      rw [hQ];refine ⟨rfl,?_⟩;rw [exB];exact ⟨wb,co4.more (by omega) hm,⟨rr,rb4⟩,kp4⟩
     simp [e0,e2,er,cm4]
     exact hq
   | false =>
     rw [hc] at cm4
     obtain ⟨_,g6,a6,rfl,x6⟩:=(flag31_err co4 (by decide) (t:=t) (o:=22) (b:=rr.ob) rb4 rfl (.int .i64 21) (.int .i64 0)).elim
     have hq:Q (.tup []) g6:=by
      rw [hQ];refine ⟨rfl,?_⟩;rw [exB]
      exact ⟨wb,(co4.ext x6).more (by omega) hm,⟨rr,(x6.get t (H.get_lt rb4)).trans rb4⟩,kp4.trans (Kp.of x6 fun i hi=>co4.lt i hi.1)⟩
     simp [e0,e2,er,cm4,a6]
     exact hq
 ·intro e g4 hq
  simp
  exact hq
end Go.Proofs.Ytbkmdnmncaakdaa
