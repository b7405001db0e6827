import Derived.Test.YtbkmdnmncaakdaaPaMs
set_option linter.unusedVariables false
set_option linter.unusedSimpArgs false
set_option maxRecDepth 20000
namespace Go.Proofs.Ytbkmdnmncaakdaa
open Go Go.Zf
open Go.Zf (wi64)
structure Slot (G:Vc→List V) (o:Nat):Prop where
 len:∀ v,o+2≤(G v).length
 g0:∀ v,(G v)[o]?=some (.int .i64 v.1)
 g1:∀ v,(G v)[o+1]?=some (.int .i64 v.2)
 sp:∀ v x y,splice (G v) o [.int .i64 x,.int .i64 y]=G (x,y)
 s0:∀ v x,(G v).set o (.int .i64 x)=G (x,v.2)
 s1:∀ v y,(G v).set (o+1) (.int .i64 y)=G (v.1,y)
 tk:∀ v,((G v).drop o).take 2=[.int .i64 v.1,.int .i64 v.2]
theorem slot0 (b:Bk):Slot (fun v=>({ b with m0:=v }:Bk).cs) 17:=⟨fun _=>by show 19≤23;omega,fun _=>rfl,fun _=>rfl,fun _ _ _=>rfl,fun _ _=>rfl,fun _ _=>rfl,fun _=>rfl⟩
theorem slot1 (b:Bk):Slot (fun v=>({ b with m1:=v }:Bk).cs) 19:=⟨fun _=>by show 21≤23;omega,fun _=>rfl,fun _=>rfl,fun _ _ _=>rfl,fun _ _=>rfl,fun _ _=>rfl,fun _=>rfl⟩
theorem band1 (j:Nat):binK 0 .and (.int .i64 (j:Nat)) (.int .i64 1)=some (.int .i64 ((j % 2:Nat):Int)):=by
 have:=binK_mask 0 (j:Int) 1 (by decide)
 rw [show (2:Int) ^ 1 - 1=1 by decide,show (2:Int) ^ 1=2 by decide] at this
 rw [this];congr 2
theorem band2 {j:Nat} (h:j < 4):binK 0 .and (.int .i64 (j:Nat)) (.int .i64 2)=some (.int .i64 (if 2≤j then 2 else 0)):=by
 rcases (by omega:j=0∨j=1∨j=2∨j=3) with rfl | rfl | rfl | rfl <;> rfl
abbrev K66:List Nat:=[0,1,2,3,6,8,9,10]
def VEnd (P:Nat→Prop) (h:H) (c q t tt m:Nat) (st:St) (G:Vc→List V) (v:Vc) (R:Option Vc × St) (h':H):Prop :=
 match R with
 | (some r,st')=>(st.sd.writes=true→r=v)∧Res P h c q t tt m st' (G r) h'
 | (none,st')=>st.sd.writes=false∧Co P h' c q m st' 4∧(∃ r,h'.get t=some (.cells (G r) tt false))∧Kp (fun b=>P b∧b ≠ q∧b ≠ t) h h'
structure E66 (q t o B8 B9:Nat) (e:E):Prop where
 e0:e.s K66 0=.ptr q 0
 e3:e.s K66 3=.ptr t o
 e8:e.s K66 8=.ptr B8 0
 e9:e.s K66 9=.ptr B9 0
theorem vector66_ok {P:Nat→Prop} {h:H} {c q m:Nat} {st:St} (a:Co P h c q m st 0) {t o tt:Nat} {G:Vc→List V} {v:Vc} {mode:Int} {l:Vc × Vc} (S:Slot G o) (ht:h.get t=some (.cells (G v) tt false)) (pt:P t) (nt:t ≠ q)
  (hm:m+27 < 100000000) (hv:(-5000≤v.1∧v.1≤5000)∧(-5000≤v.2∧v.2≤5000)) (hl:vecB l.1∧vecB l.2) (hw:st.sd.writes=true→if mode=3 then vecB v else v=saidV mode l) :
  RT (fun w h'=>w=.tup []∧VEnd P h c q t tt (m+27) st G v ((vectorP mode (saidV mode l) v).exec st) h') (KW 66 [.ptr q 0,.int .i64 mode,.agg [.int .i64 l.1.1,.int .i64 l.1.2,.int .i64 l.2.1,.int .i64 l.2.2],.ptr t o] h):=by
 have htn:=a.lt t pt
 have hqn:=a.lt q a.pq
 obtain ⟨h1,hh1⟩:∃ z,z=h.new (.cells [.int .i64 l.1.1,.int .i64 l.1.2,.int .i64 l.2.1,.int .i64 l.2.2] 43 false):=⟨_,rfl⟩
 have x1:Ext h h1:=by rw [hh1];exact (Ext.refl h).new _
 have n1:h1.n=h.n+1:=by rw [hh1,H.n_new]
 have r1:h1.rdN h.n 0 4=some [.int .i64 l.1.1,.int .i64 l.1.2,.int .i64 l.2.1,.int .i64 l.2.2]:=by rw [hh1];exact rdN_new _ _ _ _ _ _ (by simp)
 obtain ⟨_,h2,a2,rfl,x2⟩:=(said59_ok mode l h1).elim
 have va:vecB (saidV mode l):=by
  unfold saidV
  split
  ·exact hl.2
  ·split
   ·decide
   ·exact hl.1
 obtain ⟨A,hA⟩:∃ A,A=saidV mode l:=⟨_,rfl⟩
 rw [← hA] at a2 va hw ⊢
 obtain ⟨vA1,vA2,vA3,vA4⟩:=va
 obtain ⟨h3,hh3⟩:∃ z,z=h2.new (.cells [.int .i64 A.1,.int .i64 A.2] 42 false):=⟨_,rfl⟩
 have x3:Ext h2 h3:=by rw [hh3];exact (Ext.refl h2).new _
 have n3:h3.n=h2.n+1:=by rw [hh3,H.n_new]
 have g3:h3.get h2.n=some (.cells [.int .i64 A.1,.int .i64 A.2] 42 false):=by rw [hh3,get_new_same]
 have r3:h3.rdN h2.n 0 2=some [.int .i64 A.1,.int .i64 A.2]:=by rw [rdN_of g3 (by simp)];rfl
 have zw3:(h2.new (.cells [.int .i64 0,.int .i64 0] 42 false)).wrN h2.n 0 [.int .i64 A.1,.int .i64 A.2]=some h3:=by rw [hh3];exact wrN_new _ _ _ _ rfl
 have x02:=x1.trans x2
 have x03:=x02.trans x3
 have x02n:=x02.n
 have a3:Co (fun b=>P b∨b=h2.n) h3 c q m st 0:=by rw [hh3];exact (a.ext x02).box _
 have t3:h3.get t=_:=(x03.get t htn).trans ht
 have vA:(A.1,A.2)=A:=rfl
 have wA:∀ {g:H} {u:Vc},g.get t=some (.cells (G u) tt false)→g.wrN t o [.int .i64 A.1,.int .i64 A.2]=some (g.put t (.cells (G A) tt false)):=fun {g u} hg=>by
  rw [wrN_of hg (S.len u),S.sp,vA]
 rw [w66,f66,s66]
 by_cases c3:mode=3
 rotate_left
 ·have hq:V.tup []=V.tup []∧VEnd P h c q t tt (m+27) st G v ((vectorP mode A v).exec st) (h3.put t (.cells (G A) tt false)):=by
   have e:(vectorP mode A v).exec st=(some A,st):=by unfold vectorP;rw [if_pos c3];rfl
   rw [e]
   refine ⟨rfl,fun h=>by have:=hw h;rw [if_neg c3] at this;exact this.symm,((a3.put (.inl pt) nt _).less a.pq fun b hb=>.inl hb).more (by omega) hm,get_put_same (H.get_lt t3),⟨by rw [H.n_put];exact x03.n,?_⟩⟩
   rintro i ⟨hi,iq,it⟩
   rw [get_put_ne it,x03.get i (a.lt i hi)]
  simp [bx,nw,← hh1,r1,a2,zw3,c3,r3,wA t3]
  exact hq
 subst c3
 have ex:(vectorP 3 A v).exec st=((halfP (decide (st.symV 17 0 ((if v.1 ≠ A.1 then 1 else 0)+(if v.2 ≠ A.2 then 2 else 0)) % 2=1)) 0 A.1 v.1).bind fun x=>(halfP (decide (2≤st.symV 17 0 ((if v.1 ≠ A.1 then 1 else 0)+(if v.2 ≠ A.2 then 2 else 0)))) 1 A.2 v.2).bind fun y=>if vecB (x,y) then Pr.done (x,y) else .stop).exec (st.sym 17 0 ((if v.1 ≠ A.1 then 1 else 0)+(if v.2 ≠ A.2 then 2 else 0))):=by
  unfold vectorP;rw [if_neg (by simp)];rfl
 obtain ⟨J0,hJ0⟩:∃ J0:Nat,((if v.1 ≠ A.1 then 1 else 0)+(if v.2 ≠ A.2 then 2 else 0):Int)=(J0:Nat):=⟨(if v.1 ≠ A.1 then 1 else 0)+(if v.2 ≠ A.2 then 2 else 0),by split <;> split <;> rfl⟩
 have J4:J0 < 4:=by split at hJ0 <;> split at hJ0 <;> omega
 rw [hJ0] at ex
 -- the joint
 obtain ⟨h4,hh4⟩:∃ z,z=h3.new (.cells [.int .i64 (J0:Nat)] 3 false):=⟨_,rfl⟩
 have x4:Ext h3 h4:=by rw [hh4];exact (Ext.refl h3).new _
 have n4:h4.n=h3.n+1:=by rw [hh4,H.n_new]
 have g4:h4.get h3.n=some (.cells [.int .i64 (J0:Nat)] 3 false):=by rw [hh4,get_new_same]
 have a4:Co (fun b=>(P b∨b=h2.n)∨b=h3.n) h4 c q m st 0:=by rw [hh4];exact a3.box _
 obtain ⟨_,h5,a5,rfl,R5⟩:=(symbol60_ok a4 (t:=h3.n) (o:=0) (k:=17) (x:=0) (v:=(J0:Nat)) (f:=0) g4 (.inr rfl) (by omega) rfl (by omega) (by decide) (by decide) (by omega) (by decide) (fun _=>by show _∧_ < ((4:Nat):Int);omega)).elim
 rw [Int.sub_zero,Int.add_zero] at R5
 have j4:st.symV 17 0 (J0:Nat) < 4:=St.symV_lt a.ok.1 (k:=17) (by decide) (by decide) (fun _=>by show _∧_ < ((4:Nat):Int);omega)
 have jw:st.sd.writes=true→st.symV 17 0 (J0:Nat)=J0:=fun h=>by rw [St.symV_w h];omega
 obtain ⟨j,hj⟩:∃ j,j=st.symV 17 0 (J0:Nat):=⟨_,rfl⟩
 obtain ⟨st5,hst5⟩:∃ z,z=st.sym 17 0 (J0:Nat):=⟨_,rfl⟩
 rw [← hj] at R5 j4 jw ex
 rw [← hst5] at R5 ex
 have w5:st5.sd.writes=st.sd.writes:=by rw [hst5];exact St.sym_wr _ _ _ _
 have a5':KW 60 [.ptr q 0,.int .i64 17,.int .i64 0,.int .i64 0,.ptr h3.n 0] h4=some (.ret (.tup []),h5):=a5
 have n5:=R5.kp.n
 have t5:h5.get t=_:=(R5.kp.get t ⟨.inl (.inl pt),nt,by omega⟩).trans ((x4.get t (by omega)).trans t3)
 have g5:h5.get h2.n=_:=(R5.kp.get h2.n ⟨.inl (.inr rfl),by omega,by omega⟩).trans ((x4.get h2.n (by omega)).trans g3)
 have q50:=rd1_of (o:=0) g5
 have q51:=rd1_of (o:=1) g5
 have v50:=(rd1_of (o:=o) t5).trans (S.g0 v)
 have v51:=(rd1_of (o:=o+1) t5).trans (S.g1 v)
 have zd0:IntKind.i64.wrap (v.1 - A.1)=v.1 - A.1:=wi64 (by omega) (by omega)
 have zd1:IntKind.i64.wrap (v.2 - A.2)=v.2 - A.2:=wi64 (by omega) (by omega)
 -- the difference
 obtain ⟨h6,hh6⟩:∃ z,z=h5.new (.cells [.int .i64 (v.1 - A.1),.int .i64 (v.2 - A.2)] 42 false):=⟨_,rfl⟩
 have x6:Ext h5 h6:=by rw [hh6];exact (Ext.refl h5).new _
 have n6:h6.n=h5.n+1:=by rw [hh6,H.n_new]
 have zw6:(h5.new (.cells [.int .i64 0,.int .i64 0] 42 false)).wrN h5.n 0 [.int .i64 (v.1 - A.1),.int .i64 (v.2 - A.2)]=some h6:=by rw [hh6];exact wrN_new _ _ _ _ rfl
 have t6:h6.get t=_:=(x6.get t (by omega)).trans t5
 have r6:h6.rdN h2.n 0 2=some [.int .i64 A.1,.int .i64 A.2]:=by rw [rdN_of ((x6.get h2.n (by omega)).trans g5) (by simp)];rfl
 have a6:Co (fun b=>((P b∨b=h2.n)∨b=h3.n)∨b=h5.n) h6 c q (m+1) st5 0:=by rw [hh6];exact R5.co.box _
 obtain ⟨h7,hh7⟩:∃ z,z=h6.put t (.cells (G A) tt false):=⟨_,rfl⟩
 have w7:h6.wrN t o [.int .i64 A.1,.int .i64 A.2]=some h7:=by rw [wA t6,hh7]
 have n7:h7.n=h6.n:=by rw [hh7,H.n_put]
 have a7:Co (fun b=>((P b∨b=h2.n)∨b=h3.n)∨b=h5.n) h7 c q (m+1) st5 0:=by rw [hh7];exact a6.put (.inl (.inl (.inl pt))) nt _
 have t7:h7.get t=some (.cells (G A) tt false):=by rw [hh7,get_put_same (H.get_lt t6)]
 have g79:h7.get h3.n=some (.cells [.int .i64 (j:Nat)] 3 false):=by rw [hh7,get_put_ne (by omega),x6.get _ (by omega)];exact R5.box
 have g710:h7.get h5.n=some (.cells [.int .i64 (v.1 - A.1),.int .i64 (v.2 - A.2)] 42 false):=by rw [hh7,get_put_ne (by omega),hh6];exact get_new_same
 have kp7:Kp (fun b=>P b∧b ≠ q∧b ≠ t) h h7:=by
  refine ⟨by have:=x03.n;omega,?_⟩
  rintro i ⟨hi,iq,it⟩
  have hin:=a.lt i hi
  rw [hh7,get_put_ne it,x6.get i (by omega),R5.kp.get i ⟨.inl (.inl hi),iq,by omega⟩,x4.get i (by omega),x03.get i hin]
 -- what is left to be shown,by halves
 obtain ⟨Q,hQ⟩:∃ Q:V→H→Prop,Q=fun w h'=>w=.tup []∧VEnd P h c q t tt (m+27) st G v ((vectorP 3 A v).exec st) h':=⟨_,rfl⟩
 rw [← hQ]
 have dJ:(st.sd.writes=true)→(decide (j % 2=1)=decide (v.1 ≠ A.1))∧(decide (2≤j)=decide (v.2 ≠ A.2)):=fun h=>by
  have:=jw h
  constructor
  ·rw [decide_eq_decide];split at hJ0 <;> split at hJ0 <;> rename_i c1 c2 <;> constructor <;> intro hh <;> first | exact c1 | omega | exact (hh (Decidable.not_not.1 c1)).elim
  ·rw [decide_eq_decide];split at hJ0 <;> split at hJ0 <;> rename_i c1 c2 <;> constructor <;> intro hh <;> first | exact c2 | omega | exact (hh (Decidable.not_not.1 c2)).elim
 have v30:∀ X,(h3.new X).rd1 t o=some (.int .i64 v.1):=fun X=>(rd1_of (by rw [get_new_lt (by omega)];exact t3)).trans (S.g0 v)
 have v31:∀ X,(h3.new X).rd1 t (o+1)=some (.int .i64 v.2):=fun X=>(rd1_of (by rw [get_new_lt (by omega)];exact t3)).trans (S.g1 v)
 have q30:∀ X,(h3.new X).rd1 h2.n 0=some (.int .i64 A.1):=fun X=>by rw [rd1_of (by rw [get_new_lt (by omega)];exact g3)];rfl
 have q31:∀ X,(h3.new X).rd1 h2.n 1=some (.int .i64 A.2):=fun X=>by rw [rd1_of (by rw [get_new_lt (by omega)];exact g3)];rfl
 simp [bx,nw,← hh1,r1,a2,zw3]
 refine sq_in (C:=fun o=>RT _ (fin Try.prog _ _ o)) (fun e g=>g=h3.new (.cells [.int .i64 (if v.1 ≠ A.1 then 1 else 0)] 3 false)∧E66 q t o h2.n h3.n e) ?_ ?_
 ·by_cases c1:v.1=A.1
  ·simp [NmP,v30,q30,c1];exact ⟨by simp,by simp,by simp,by simp⟩
  ·simp [NmP,v30,q30,c1];exact ⟨by simp,by simp,by simp,by simp⟩
 rintro e g ⟨rfl,⟨e0,e3,e8,e9⟩⟩
 have zj:IntKind.i64.wrap ((if v.1 ≠ A.1 then 1 else 0)+2)=(if v.1 ≠ A.1 then 1 else 0)+2:=by split <;> rfl
 refine sq_in (C:=fun o=>RT _ (fin Try.prog _ _ o)) (fun e g=>g=h4∧E66 q t o h2.n h3.n e) ?_ ?_
 ·by_cases c2:v.2=A.2
  ·rw [if_neg (fun h:v.2 ≠ A.2=>h c2),Int.add_zero] at hJ0
   rw [hJ0,← hh4]
   have v40:=v31 (.cells [.int .i64 (J0:Nat)] 3 false)
   have q40:=q31 (.cells [.int .i64 (J0:Nat)] 3 false)
   rw [← hh4] at v40 q40
   simp [NmP,e0,e3,e8,e9,v40,q40,c2];exact ⟨by simp [e0],by simp [e3],by simp [e8],by simp [e9]⟩
  ·rw [if_pos c2] at hJ0
   obtain ⟨y,hy⟩:∃ y:Int,y=(if v.1 ≠ A.1 then 1 else 0):=⟨_,rfl⟩
   rw [← hy] at hJ0 ⊢
   have zy:IntKind.i64.wrap (y+2)=(J0:Nat):=by rw [hJ0];exact wi64 (by omega) (by omega)
   simp [NmP,e0,e3,e8,e9,v31,q31,c2,zy,← hh4];exact ⟨by simp [e0],by simp [e3],by simp [e8],by simp [e9]⟩
 rintro e g ⟨rfl,⟨e0,e3,e8,e9⟩⟩
 simp [e0,e9,a5',e3,e8,v50,v51,q50,q51,zd0,zd1,nw,zw6,r6,w7]
 have hb:∀ {cc:Nat} {u a':Int} {on:Bool} {s:St},s.sd.writes=st.sd.writes→(-5000≤u∧u≤5000)→(-4095≤a'∧a'≤4095)→(st.sd.writes=true→on=decide (u ≠ a') ∧ -4095≤u∧u≤4095)→on=true→s.sd.writes=true→u - a' ≠ 0∧(u - a').natAbs≤16376:=fun hs hu ha hh ho hw'=>by
  obtain ⟨h1,h2,h3⟩:=hh (by rw [← hs];exact hw')
  rw [ho] at h1
  have:=of_decide_eq_true h1.symm
  omega
 have wB:st.sd.writes=true→(-4095≤v.1∧v.1≤4095)∧(-4095≤v.2∧v.2≤4095):=fun h=>by
  have:=hw h;rw [if_pos rfl] at this;exact ⟨⟨this.1,this.2.1⟩,⟨this.2.2.1,this.2.2.2⟩⟩
 refine sq_in (C:=fun o=>RT _ (fin Try.prog _ _ o)) (fun e g=>∃ x st',(halfP (decide (j % 2=1)) 0 A.1 v.1).exec st5=(some x,st')∧(st.sd.writes=true→x=v.1)∧(-30000≤x∧x≤30000)∧Co (fun b=>((P b∨b=h2.n)∨b=h3.n)∨b=h5.n) g c q (m+14) st' 0∧g.get t=some (.cells (G (x,A.2)) tt false) ∧
  g.get h3.n=some (.cells [.int .i64 (j:Nat)] 3 false)∧g.get h5.n=some (.cells [.int .i64 (v.1 - A.1),.int .i64 (v.2 - A.2)] 42 false)∧Kp (fun b=>P b∧b ≠ q∧b ≠ t) h7 g∧E66 q t o h2.n h3.n e∧e.s K66 10=.ptr h5.n 0) ?_ ?_
 ·have q9:=rd1_of (o:=0) g79
  have b1:=band1 j
  by_cases cj:j % 2=1
  ·obtain ⟨_,g1,b2,⟨r,rfl,st',f1,f2,f3,f4,f5⟩⟩:=(part80_ok a7 (x:=0) (v:=v.1 - A.1) (by decide) (by omega) (by omega) (fun h=>hb (cc:=0) (u:=v.1) (a':=A.1) (on:=decide (j % 2=1)) w5 hv.1 ⟨vA1,vA2⟩ (fun h=>⟨(dJ h).1,(wB h).1⟩) (by simp [cj]) h)).elim
   have b2':KW 80 [.ptr q 0,.int .i64 0,.int .i64 (v.1 - A.1)] h7=some (.ret (.int .i64 r),g1):=b2
   have tg:=(f5.get t ⟨.inl (.inl (.inl pt)),nt⟩).trans t7
   have u0:=(rd1_of (o:=o) tg).trans (S.g0 A)
   have u70:=(rd1_of (o:=o) t7).trans (S.g0 A)
   have d0:=rd1_of (o:=0) g710
   have zr:IntKind.i64.wrap (A.1+r)=A.1+r:=wi64 (by omega) (by omega)
   have wr:g1.wr1 t o (.int .i64 (A.1+r))=some (g1.put t (.cells (G (A.1+r,A.2)) tt false)):=by
    rw [wr1_of tg (by have:=S.len A;omega),S.s0]
   rw [cj] at b1
   have c1:((1:Nat):Int)=1:=rfl
   rw [c1] at b1
   simp [NmP,e9,q9,-binK_and,b1,d0,b2',u0,u70,zr,wr,e3,e0,e8]
   refine ⟨A.1+r,st',by unfold halfP;rw [if_pos (by simp [cj]),Pr.exec_some f1];rfl,fun h=>by have:=f2 (by rw [w5];exact h);omega,by omega,f4.put (.inl (.inl (.inl pt))) nt _,get_put_same (H.get_lt tg),?_,?_,⟨by rw [H.n_put];exact f5.n,?_⟩,⟨by simp [e0],by simp [e3],by simp [e8],by simp [e9]⟩⟩
   ·rw [get_put_ne (by omega),f5.get h3.n ⟨.inl (.inr rfl),by omega⟩,g79]
   ·rw [get_put_ne (by omega),f5.get h5.n ⟨.inr rfl,by omega⟩,g710]
   ·rintro i ⟨hi,iq,it⟩
    rw [get_put_ne it,f5.get i ⟨.inl (.inl (.inl hi)),iq⟩]
  ·have j0:j % 2=0:=by omega
   rw [j0] at b1
   have c1:((0:Nat):Int)=0:=rfl
   rw [c1] at b1
   simp [NmP,e9,q9,-binK_and,b1]
   refine ⟨A.1,st5,by unfold halfP;rw [if_neg (by simp [cj])];rfl,fun h=>?_,by omega,a7.more (by omega) (by omega),t7,g79,g710,Kp.refl _ _,⟨by simp [e0],by simp [e3],by simp [e8],by simp [e9]⟩⟩
   have:=(dJ h).1
   rw [decide_eq_decide] at this
   exact Decidable.byContradiction fun hc=>cj (this.2 (fun e=>hc e.symm))
 rintro e g ⟨x,st8,f1,f2,f3,a8,t8,g89,g810,kp8,⟨e0,e3,e8,e9⟩,e10⟩
 have w8:st8.sd.writes=st.sd.writes:=(exec_wr' f1).trans w5
 have n8:=kp8.n
 refine sq_in (C:=fun o=>RT _ (fin Try.prog _ _ o)) (fun e g'=>∃ y st',(halfP (decide (2≤j)) 1 A.2 v.2).exec st8=(some y,st')∧(st.sd.writes=true→y=v.2)∧(-30000≤y∧y≤30000)∧Co (fun b=>((P b∨b=h2.n)∨b=h3.n)∨b=h5.n) g' c q (m+27) st' 0∧g'.get t=some (.cells (G (x,y)) tt false) ∧
  Kp (fun b=>P b∧b ≠ q∧b ≠ t) g g'∧E66 q t o h2.n h3.n e) ?_ ?_
 ·have q9:=rd1_of (o:=0) g89
  have b1:=band2 j4
  by_cases cj:2≤j
  ·obtain ⟨_,g1,b2,⟨r,rfl,st',k1,k2,k3,k4,k5⟩⟩:=(part80_ok a8 (x:=1) (v:=v.2 - A.2) (by decide) (by omega) (by omega) (fun h=>hb (cc:=0) (u:=v.2) (a':=A.2) (on:=decide (2≤j)) w8 hv.2 ⟨vA3,vA4⟩ (fun h=>⟨(dJ h).2,(wB h).2⟩) (by simp [cj]) h)).elim
   have b2':KW 80 [.ptr q 0,.int .i64 1,.int .i64 (v.2 - A.2)] g=some (.ret (.int .i64 r),g1):=b2
   have tg:=(k5.get t ⟨.inl (.inl (.inl pt)),nt⟩).trans t8
   have u0:=(rd1_of (o:=o+1) tg).trans (S.g1 _)
   have u70:=(rd1_of (o:=o+1) t8).trans (S.g1 _)
   have d0:=rd1_of (o:=1) g810
   have zr:IntKind.i64.wrap (A.2+r)=A.2+r:=wi64 (by omega) (by omega)
   have wr:g1.wr1 t (o+1) (.int .i64 (A.2+r))=some (g1.put t (.cells (G (x,A.2+r)) tt false)):=by
    rw [wr1_of tg (by have:=S.len (x,A.2);omega),S.s1]
   rw [if_pos cj] at b1
   simp [NmP,e9,q9,-binK_and,b1,d0,b2',u0,u70,zr,wr,e3,e0,e8,e10]
   refine ⟨A.2+r,st',by unfold halfP;rw [if_pos (by simp [cj]),Pr.exec_some k1];rfl,fun h=>by have:=k2 (by rw [w8];exact h);omega,by omega,k4.put (.inl (.inl (.inl pt))) nt _,get_put_same (H.get_lt tg),⟨by rw [H.n_put];exact k5.n,?_⟩,⟨by simp [e0],by simp [e3],by simp [e8],by simp [e9]⟩⟩
   rintro i ⟨hi,iq,it⟩
   rw [get_put_ne it,k5.get i ⟨.inl (.inl (.inl hi)),iq⟩]
  ·rw [if_neg cj] at b1
   simp [NmP,e9,q9,-binK_and,b1]
   refine ⟨A.2,st8,by unfold halfP;rw [if_neg (by simp [cj])];rfl,fun h=>?_,by omega,a8.more (by omega) (by omega),t8,Kp.refl _ _,⟨by simp [e0],by simp [e3],by simp [e8],by simp [e9]⟩⟩
   have:=(dJ h).2
   rw [decide_eq_decide] at this
   exact Decidable.byContradiction fun hc=>cj (this.2 (fun e=>hc e.symm))
 rintro e g' ⟨y,st9,k1,k2,k3,a9,t9,kp9,⟨e0,e3,e8,e9⟩⟩
 have n9:=kp9.n
 have exF:(vectorP 3 A v).exec st=(if vecB (x,y) then Pr.done (x,y) else Pr.stop).exec st9:=by
  rw [ex,Pr.exec_some f1,Pr.exec_some k1]
 have rq:=rd1_of (o:=1) a9.k
 have rt:g'.rdN t o 2=some [.int .i64 x,.int .i64 y]:=by rw [rdN_of t9 (S.len _),S.tk]
 obtain ⟨_,h10,a10,rfl,x10⟩:=(vecMay67_ok (x,y) g').elim
 have a9':=(a9.less (Q:=P) a.pq fun b hb=>.inl (.inl (.inl hb))).ext x10
 have t10:h10.get t=_:=(x10.get t (H.get_lt t9)).trans t9
 have kpF:Kp (fun b=>P b∧b ≠ q∧b ≠ t) h h10:=((kp7.trans kp8).trans kp9).trans (Kp.of x10 fun i hi=>by have:=a.lt i hi.1;have:=x03.n;omega)
 by_cases cv:vecB (x,y)
 ·rw [if_pos cv] at exF
  have hq:Q (.tup []) h10:=by
   rw [hQ]
   refine ⟨rfl,?_⟩
   rw [exF]
   exact ⟨fun h=>Prod.ext (f2 h) (k2 h),a9',t10,kpF⟩
  simp [e0,rq,e3,rt,a10,cv]
  exact hq
 ·rw [if_neg cv] at exF
  have w9:st.sd.writes=false:=by
   cases hh:st.sd.writes with
   | false=>rfl
   | true =>
    refine (cv ?_).elim
    rw [f2 hh,k2 hh]
    have:=hw hh;rw [if_pos rfl] at this;exact this
  obtain ⟨h11,hh11⟩:∃ z,z=h10.put q (.cells [.ptr c 0,.int .i64 4] 87 false):=⟨_,rfl⟩
  have w11:h10.wr1 q 1 (.int .i64 4)=some h11:=by rw [wr1_of a9'.k (by simp),hh11];rfl
  have hq:Q (.tup []) h11:=by
   rw [hQ]
   refine ⟨rfl,?_⟩
   rw [exF]
   refine ⟨w9,?_,⟨(x,y),by rw [hh11,get_put_ne nt,t10]⟩,⟨by rw [hh11,H.n_put];exact kpF.n,?_⟩⟩
   ·obtain ⟨⟨D,C,hD⟩,k,pq,lt⟩:=a9'
    refine ⟨⟨D,?_,fun b hb=>by rw [hh11,H.n_put];exact hD b hb⟩,by rw [hh11];exact get_put_same (H.get_lt k),pq,fun b hb=>by rw [hh11,H.n_put];exact lt b hb⟩
    rw [hh11]
    exact C.keep (by rw [H.n_put];exact Nat.le_refl _) fun b hb hb2=>get_put_ne (by rintro rfl;exact (hD _ hb).2 pq)
   ·rintro i ⟨hi,iq,it⟩
    rw [hh11,get_put_ne iq,kpF.get i ⟨hi,iq,it⟩]
  simp [e0,rq,e3,rt,a10,cv,w11]
  exact hq
end Go.Proofs.Ytbkmdnmncaakdaa
