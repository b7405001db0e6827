import Derived.Test.YtbajipmhnoakeaaGreatPnHp
set_option linter.unusedVariables false
set_option linter.unusedSimpArgs false
set_option maxRecDepth 20000
namespace Go.Proofs.YtbajipmhnoakeaaGreat
open Go Go.Zf Go.RowKit Go.WideShapes
open Go.Zf (wi64)
theorem runA (st:St) (a b:List Op):st.run (a ++ b)=(st.run a).run b:=List.foldl_append
abbrev KLen:List Nat:=[0,2,3,4,5,6,7,9,11,12]
structure IL0 (h0:H) (n c m:Nat) (st:St) (j:Nat) (e:E) (g:H):Prop where
 hj:j≤4
 w:Wc h0 c (m+(4 - j)) (st.run (List.replicate (4 - j) (.sym 29 0 3))) g
 e0:e.s KLen 0=.int .i64 n
 e3:e.s KLen 3=.ptr c 0
 e5:e.s KLen 5=.int .i64 ((4 - j:Nat):Int)
theorem rep_succ (k:Nat) (o:Op):List.replicate (k+1) o=List.replicate k o ++ [o]:=by
 rw [← List.replicate_append_replicate];rfl
theorem loopL0 {h0:H} {n c m:Nat} {st:St} {e:E} {g:H} {o:Out} (hm:m < 1000) (ho:loopZ (l25_0 KW loopZ) e g=o) (hi:IL0 h0 n c m st 4 e g) :
  ∃ e' g',o=some ⟨.ex 0,e',g'⟩∧Wc h0 c (m+4) (st.run (List.replicate 4 (.sym 29 0 3))) g'∧e'.s KLen 0=.int .i64 n∧e'.s KLen 3=.ptr c 0:=by
 have loop:=loop_run (body:=l25_0 KW loopZ) (IL0 h0 n c m st) (fun s=>s.x=.ex 0∧Wc h0 c (m+4) (st.run (List.replicate 4 (.sym 29 0 3))) s.h∧s.e.s KLen 0=.int .i64 n∧s.e.s KLen 3=.ptr c 0) (fun j e g hi=>by
  obtain ⟨hj,w,e0,e3,e5⟩:=hi
  cases j with
  | zero =>
   rw [Nat.sub_zero] at e5 w
   simp [l25_0,e5]
   exact ⟨rfl,w,by simp [e0],by simp [e3]⟩
  | succ j =>
   obtain ⟨k,hk⟩:∃ k,k=4 - (j+1):=⟨_,rfl⟩
   rw [← hk] at e5 w
   obtain ⟨x,g1,a1,⟨y,rfl⟩,w1⟩:=(w.sym (by omega) (k:=29) (x:=0) (v:=3) (by decide) (by decide) (by decide)).elim
   rw [← runA,← rep_succ] at w1
   have a1':KW 61 [.ptr c 0,.int .i64 29,.int .i64 0,.int .i64 3] g=_:=a1
   have z1:IntKind.i64.wrap ((k:Int)+1)=((k+1:Nat):Int):=by rw [wi64 (by omega) (by omega)];omega
   simp [l25_0,e3,e5,show (k:Int) < 4 by omega,show k < 4 by omega,a1',z1,-Int.natCast_add]
   exact ⟨j,by omega,by omega,by rw [show 4 - j=k+1 by omega];exact w1,by simp [e0],by simp [e3],by simp [show 4 - j=k+1 by omega]⟩) 4 e g hi
 obtain ⟨⟨sx,se,sh⟩,h1,h2,h3,h4,h5⟩:=loop
 simp only at h2 h3 h4 h5
 subst h2
 exact ⟨se,sh,by rw [← ho,h1],h3,h4,h5⟩
structure IL1 (h0:H) (n c m:Nat) (st:St) (j:Nat) (e:E) (g:H):Prop where
 hj:j≤n
 w:Wc h0 c (m+(n - j)) (st.run (List.replicate (n - j) (.num 1 0))) g
 e0:e.s KLen 0=.int .i64 n
 e3:e.s KLen 3=.ptr c 0
 e6:e.s KLen 6=.int .i64 ((n - j:Nat):Int)
theorem loopL1 {h0:H} {n c m:Nat} {st:St} {e:E} {g:H} {o:Out} (hn:n≤22) (hm:m < 1000) (ho:loopZ (l25_1 KW loopZ) e g=o) (hi:IL1 h0 n c m st n e g) :
  ∃ e' g',o=some ⟨.ex 2,e',g'⟩∧Wc h0 c (m+n) (st.run (List.replicate n (.num 1 0))) g'∧e'.s KLen 0=.int .i64 n∧e'.s KLen 3=.ptr c 0:=by
 have loop:=loop_run (body:=l25_1 KW loopZ) (IL1 h0 n c m st) (fun s=>s.x=.ex 2∧Wc h0 c (m+n) (st.run (List.replicate n (.num 1 0))) s.h∧s.e.s KLen 0=.int .i64 n∧s.e.s KLen 3=.ptr c 0) (fun j e g hi=>by
  obtain ⟨hj,w,e0,e3,e6⟩:=hi
  cases j with
  | zero =>
   rw [Nat.sub_zero] at e6 w
   simp [l25_1,e0,e6]
   exact ⟨rfl,w,by simp [e0],by simp [e3]⟩
  | succ j =>
   obtain ⟨k,hk⟩:∃ k,k=n - (j+1):=⟨_,rfl⟩
   rw [← hk] at e6 w
   obtain ⟨x,g1,a1,⟨y,rfl⟩,w1⟩:=(w.num (n:=1) (v:=0) (by decide) (by omega) (by decide)).elim
   rw [← runA,← rep_succ] at w1
   have a1':KW 38 [.ptr c 0,.int .i64 1,.int .i64 0] g=_:=a1
   have z1:IntKind.i64.wrap ((k:Int)+1)=((k+1:Nat):Int):=by rw [wi64 (by omega) (by omega)];omega
   simp [l25_1,e0,e3,e6,show (k:Int) < n by omega,show k < n by omega,a1',z1,-Int.natCast_add]
   exact ⟨j,by omega,by omega,by rw [show n - j=k+1 by omega];exact w1,by simp [e0],by simp [e3],by simp [show n - j=k+1 by omega]⟩) n e g hi
 obtain ⟨⟨sx,se,sh⟩,h1,h2,h3,h4,h5⟩:=loop
 simp only at h2 h3 h4 h5
 subst h2
 exact ⟨se,sh,by rw [← ho,h1],h3,h4,h5⟩
theorem lengths25_ok {h:H} {n:Nat} (hn:19≤n∧n≤22):RT (fun w h'=>w=.bool true∧Ext h h') (KW 25 [.int .i64 n] h):=by
 obtain ⟨w,h2,a2,v2,rfl,W2,x2⟩:=(default27_ok h).elim
 obtain ⟨w,h3,a3,c,rfl,C3,x3⟩:=(writer12_ok W2.setR defS_ok true).elim
 have m2:=x2.n
 have w3:Wc h c 0 (newW defS true) h3:=⟨_,C3,fun b hb=>by have h2:h2.n≤b:=hb;omega,x2.trans x3⟩
 obtain ⟨w,h4,a4,⟨y4,rfl⟩,w4⟩:=(w3.sym (by omega) (k:=22) (x:=0) (v:=0) (by decide) (by decide) (by decide)).elim
 obtain ⟨w,h5,a5,⟨y5,rfl⟩,w5⟩:=(w4.sym (by omega) (k:=23) (x:=0) (v:=0) (by decide) (by decide) (by decide)).elim
 obtain ⟨w,h6,a6,⟨y6,rfl⟩,w6⟩:=(w5.sym (by omega) (k:=27) (x:=0) (v:=2) (by decide) (by decide) (by decide)).elim
 have a4':KW 61 [.ptr c 0,.int .i64 22,.int .i64 0,.int .i64 0] h3=_:=a4
 have a5':KW 61 [.ptr c 0,.int .i64 23,.int .i64 0,.int .i64 0] h4=_:=a5
 have a6':KW 61 [.ptr c 0,.int .i64 27,.int .i64 0,.int .i64 2] h5=_:=a6
 obtain ⟨s6,hs6⟩:∃ y,y=(((newW defS true).run [.sym 22 0 0]).run [.sym 23 0 0]).run [.sym 27 0 2]:=⟨_,rfl⟩
 rw [← hs6] at w6
 rw [w25,f25,s25]
 simp [a2,a3,a4',a5',a6']
 generalize ho:loopZ (l25_0 KW loopZ) _ _=o
 obtain ⟨e',h7,rfl,w7,e0,e3⟩:=loopL0 (h0:=h) (n:=n) (c:=c) (m:=0+1+1+1) (by omega) ho ⟨Nat.le_refl _,w6,by simp,by simp,by simp⟩
 simp only [KLen] at e0 e3
 simp [e0,e3]
 generalize ho:loopZ (l25_1 KW loopZ) _ _=o
 obtain ⟨e',h8,rfl,w8,e0,e3⟩:=loopL1 (h0:=h) (n:=n) (c:=c) (m:=0+1+1+1+4) (st:=s6.run (List.replicate 4 (.sym 29 0 3))) hn.2 (by omega) ho ⟨Nat.le_refl _,by rw [Nat.sub_self];exact w7,by simp [e0],by simp [e3],by simp⟩
 simp only [KLen] at e0 e3
 obtain ⟨w,h9,a9,⟨y9,rfl⟩,w9⟩:=(w8.num (n:=1) (v:=1) (by decide) (by omega) (by decide)).elim
 obtain ⟨w,h10,a10,⟨y10,rfl⟩,w10⟩:=(w9.num (n:=n) (v:=5) (by omega) (by omega) (by
  have:n=19∨n=20∨n=21∨n=22:=by omega
  rcases this with rfl | rfl | rfl | rfl <;> decide)).elim
 obtain ⟨w,h11,a11,⟨y11,rfl⟩,w11⟩:=(w10.sym (by omega) (k:=30) (x:=0) (v:=1) (by decide) (by decide) (by decide)).elim
 have a9':KW 38 [.ptr c 0,.int .i64 1,.int .i64 1] h8=_:=a9
 have a10':KW 38 [.ptr c 0,.int .i64 n,.int .i64 5] h9=_:=a10
 have a11':KW 61 [.ptr c 0,.int .i64 30,.int .i64 0,.int .i64 1] h10=_:=a11
 have hst:((((s6.run (List.replicate 4 (.sym 29 0 3))).run (List.replicate n (.num 1 0))).run [.num 1 1]).run [.num n 5]).run [.sym 30 0 1]=(newW defS true).run (lenOps n):=by
  rw [hs6,← runA,← runA,← runA,← runA,← runA,← runA,← runA];rfl
 rw [hst] at w11
 obtain ⟨st,hst'⟩:∃ y,y=(newW defS true).run (lenOps n):=⟨_,rfl⟩
 have hwr:∀ (l:List Op) (st:St),st.sd.writes=true→(st.run l).sd.writes=true:=fun l=>by
  induction l with
  | nil=>exact fun st h=>h
  | cons o l ih =>
   intro st h
   refine ih (st.step o) ?_
   cases o with
   | num n v=>rw [← h];exact St.num_wr _ _ _
   | sym k c v=>rw [← h];exact St.sym_wr _ _ _ _
 have hw:=hwr (lenOps n) (newW defS true) rfl
 have hB:lenBytes n=bytes (stOut ((newW defS true).run (lenOps n))).1 (stOut ((newW defS true).run (lenOps n))).2:=rfl
 rw [← hst'] at w11 hw hB
 obtain ⟨D,C11,hD,x11⟩:=w11
 obtain ⟨out,low,rng,hsd⟩:∃ out low rng,st.sd=.w out low rng:=by
  cases hs:st.sd with
  | w o l r=>exact ⟨_,_,_,rfl⟩
  | r o l r=>rw [hs] at hw;cases hw
 have hB':lenBytes n=bytes out low:=by
  rw [hB]
  obtain ⟨sd,S,ad,nn⟩:=st
  simp only at hsd
  subst hsd
  rfl
 obtain ⟨w,h12,a12,vb,rfl,B12,x12⟩:=(bytes19_ok C11 hsd).elim
 rw [← hB'] at B12
 obtain ⟨lb1,lb2⟩:=lenB n hn
 obtain ⟨w,h13,a13,v13,rfl,W13,x13⟩:=(default27_ok h12).elim
 obtain ⟨w,h14,a14,r,rfl,C14,x14⟩:=(reader25_ok (B12.slb.keep x13.get) (by omega) lb2 W13.setR defS_ok true).elim
 obtain ⟨w,h15,a15,E15⟩:=(code10_any (src:=z16) C14 (by omega) (size:=4) (.inl rfl) (plane:=0) (sign:=0) (by omega) (by omega) (v:=.nils) rfl (fun h=>by cases h) (fun _=>rfl) rfl (fun x hx=>by rw [(List.mem_replicate.1 hx).2];decide) (R:=rdR n) rfl).elim
 have a15':KW 11 [.ptr r 0,.int .i64 4,.int .i64 0,.int .i64 0,.nils] h14=_:=a15
 have m12:=x12.n
 have m13:=x13.n
 have m11:=x11.n
 have X14:Ext h h14:=(x11.trans x12).trans (x13.trans x14)
 have hx:∀ {g:H},Mod (fun b=>h13.n≤b) h14 g→Ext h g:=fun M=>M.ext X14 fun b hb hd=>by omega
 have hN:sideP 4*sideP 4=16:=rfl
 rw [hN] at E15
 by_cases h20:n≤20
 ·obtain ⟨l0,P,hl0,p1,p2,p3,p4⟩:∃ l0 P:Int,(rdR n).1=some (l0 :: List.replicate 15 0)∧IntKind.i64.wrap (2 ^ min n IntKind.i64.bits)=P∧IntKind.i64.wrap (14+P)=14+P∧IntKind.i64.wrap (14+P+5)=14+P+5∧IntKind.i64.wrap (-(14+P+5))=l0:=by
   have:n=19∨n=20:=by omega
   rcases this with rfl | rfl
   ·exact ⟨_,524288,rdR19,by decide,by decide,by decide,by decide⟩
   ·exact ⟨_,1048576,rdR20,by decide,by decide,by decide,by decide⟩
  rcases E15 with ⟨L,lv,q1,rfl,q3,K⟩ | ⟨q1,_⟩
  ·rw [hl0] at q1;cases q1
   have rL:h15.rd1 L 0=some (.int .i64 l0):=by rw [K.l.rd (by simp)];rfl
   simp [e0,e3,a9',a10',a11',a12,a13,a14,a15',show ¬ (20:Int) < n by omega,show ¬ 20 < n by omega,rL,show ¬ (n:Int) < 0 by omega,p1,p2,p3,p4,gl_t,ck,V.same]
   exact ⟨rfl,hx K.x⟩
  ·rw [hl0] at q1;cases q1
 ·obtain ⟨hR,hRn⟩:(rdR n).1=none∧(rdR n).2.n=28:=by
   have:n=21∨n=22:=by omega
   rcases this with rfl | rfl
   ·exact ⟨rdR21,rdR21n⟩
   ·exact ⟨rdR22,rdR22n⟩
  rcases E15 with ⟨L,lv,q1,rfl,q3,K⟩ | ⟨q1,rfl,K⟩
  ·rw [hR] at q1;cases q1
  ·obtain ⟨E,C15,_⟩:=K.C
   have cn:=count32_ok C15
   rw [hRn] at cn
   simp [e0,e3,a9',a10',a11',a12,a13,a14,a15',show (20:Int) < n by omega,show 20 < n by omega,cn,gl_t]
   exact ⟨rfl,hx K.x⟩
end Go.Proofs.YtbajipmhnoakeaaGreat
