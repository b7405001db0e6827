import Derived.Test.YtbajipmhnoakeaaGreatPnHc
set_option linter.unusedVariables false
set_option linter.unusedSimpArgs false
set_option maxRecDepth 20000
namespace Go.Proofs.YtbajipmhnoakeaaGreat
open Go Go.Zf
open Go.Zf (wi64)
abbrev K12:List Nat:=[0,1,2,3,4,10,11,12,13,15,16,17,18,19,20,21,22,24,26,27,28,29,31,33,34,35,36,37,38]
structure K0 (c L:Nat) (vo vs:V) (B:BD) (e:E):Prop where
 e0:e.s K12 0=.ptr c 0
 e1:e.s K12 1=.int .i64 B.size
 e3:e.s K12 3=.int .i64 B.sign
 e13:e.s K12 13=vo
 e15:e.s K12 15=.sl L 0 (B.n*B.n) (.ex (B.n*B.n))
 e16:e.s K12 16=.int .i64 B.colour
 e17:e.s K12 17=vs
structure BR (D0:Nat→Prop) (h0:H) (L:Nat) (vo vs:V) (B:BD):Prop where
 ho:IntsX (fun b=>D0 b∨b=L) h0 vo (B.ord.map fun (x:Nat)=>(x:Int))
 hs:IntsX (fun b=>D0 b∨b=L) h0 vs B.src
 nl:¬ D0 L∧L < h0.n
 size:sizeOk B.size
 n:B.n=sideP B.size
 colour:B.colour≤1
 sign:B.sign≤2
 ordl:B.ord.length=B.n*B.n
 ordb:∀ x ∈ B.ord,x < B.n*B.n
 srcl:B.src.length=B.n*B.n
 srcb:∀ x ∈ B.src,-1048576≤x∧x≤1048576
structure RC (D0:Nat→Prop) (h0:H) (c L:Nat) (B:BD) (h:H) (m:Nat) (st:St) (lv:List Int):Prop where
 C:CoderRef (grow D0 h0 h) h c m st
 x:Mod (fun b=>D0 b∨b=L) h0 h
 l:LvAt h L lv
 ll:lv.length=B.n*B.n
 wr:st.sd.writes=B.wr
theorem Pr.exec_wr {α:Type}:∀ (p:Pr α) (st:St),(p.exec st).2.sd.writes=st.sd.writes
 | .done a,st=>rfl
 | .stop,st=>rfl
 | .sym k c v f,st=>by rw [Pr.exec_sym,Pr.exec_wr,St.sym_wr]
 | .num n v f,st=>by rw [Pr.exec_num,Pr.exec_wr,St.num_wr]
section cd
variable {D0:Nat→Prop} {h0 h h':H} {c L m:Nat} {vo vs:V} {B:BD} {st:St} {lv:List Int}
theorem BR.nn (S:BR D0 h0 L vo vs B):4≤B.n∧B.n≤32∧16≤B.n*B.n∧B.n*B.n≤1024:=by
 have h1:=sideP_b S.size
 rw [← S.n] at h1
 have:B.n*B.n≤32*32:=Nat.mul_le_mul h1.2 h1.2
 have:4*4≤B.n*B.n:=Nat.mul_le_mul h1.1 h1.1
 omega
theorem BR.src (S:BR D0 h0 L vo vs B) (i:Nat) : -1048576≤B.src.getD i 0∧B.src.getD i 0≤1048576:=by
 by_cases hi:i < B.src.length
 ·have:B.src.getD i 0=B.src[i]:=by simp [List.getD,hi]
  rw [this];exact S.srcb _ (List.getElem_mem hi)
 ·have:B.src.getD i 0=0:=by simp [List.getD,List.getElem?_eq_none (by omega:B.src.length≤i)]
  rw [this];omega
theorem BR.rd {v:V} {l:List Int} (a:IntsX (fun b=>D0 b∨b=L) h0 v l) (x:Mod (fun b=>D0 b∨b=L) h0 h) {i:Nat} (hi:i < l.length):∃ b o,iaS 1 v (.int .i64 (i:Nat))=some (.ptr b o)∧h.rd1 b o=some (.int .i64 (l.getD i 0)):=by
 obtain ⟨b,o,h1,h2,h3,h4⟩:=a.at_ i _ (List.getElem?_eq_getElem hi)
 refine ⟨b,o,h1,?_⟩
 have:l.getD i 0=l[i]:=by simp [List.getD,hi]
 rw [this,← h2]
 unfold H.rd1;rw [x.get b h4 h3]
theorem RC.o (S:BR D0 h0 L vo vs B) (a:RC D0 h0 c L B h m st lv) {i:Nat} (hi:i < B.n*B.n):(∃ b o,iaS 1 vo (.int .i64 (i:Nat))=some (.ptr b o)∧h.rd1 b o=some (.int .i64 (B.ord.getD i 0:Nat)))∧B.ord.getD i 0 < B.n*B.n:=by
 have hi2:i < B.ord.length:=by rw [S.ordl];exact hi
 constructor
 ·obtain ⟨b,o,h1,h2⟩:=BR.rd S.ho a.x (i:=i) (by simpa using hi2)
  exact ⟨b,o,h1,by rw [h2];simp [List.getD,hi2]⟩
 ·have:B.ord.getD i 0=B.ord[i]:=by simp [List.getD,hi2]
  rw [this];exact S.ordb _ (List.getElem_mem hi2)
theorem RC.s (S:BR D0 h0 L vo vs B) (a:RC D0 h0 c L B h m st lv) {i:Nat} (hi:i < B.n*B.n):∃ b o,iaS 1 vs (.int .i64 (i:Nat))=some (.ptr b o)∧h.rd1 b o=some (.int .i64 (B.src.getD i 0)) :=
 BR.rd S.hs a.x (by rw [S.srcl];exact hi)
theorem RC.step (S:BR D0 h0 L vo vs B) (a:RC D0 h0 c L B h m st lv) {m':Nat} {st':St} (b:Rs (grow D0 h0 h) h c h' m' st') (w:st'.sd.writes=st.sd.writes):RC D0 h0 c L B h' m' st' lv:=by
 obtain ⟨C',M⟩:=b
 have hn:=a.x.n
 have nL:¬ grow D0 h0 h L:=by rintro (e | e);exact S.nl.1 e;have:=S.nl.2;omega
 refine ⟨C'.mono fun b hb hd=>?_,⟨by have:=M.n;omega,fun b hb hd=>?_⟩,⟨?_,a.l.b⟩,a.ll,by rw [w,a.wr]⟩
 ·rcases hd with (e | e) | e
  ·exact .inl e
  ·exact .inr ⟨e.1,hb⟩
  ·exact .inr ⟨by omega,hb⟩
 ·rw [M.get b (by omega) (by rintro (e | e);exact hd (.inl e);omega),a.x.get b hb hd]
 ·rw [M.get L (H.get_lt a.l.get) nL,a.l.get]
theorem RC.more (a:RC D0 h0 c L B h m st lv) {m':Nat} (hm:m≤m') (hm':m' < 100000000):RC D0 h0 c L B h m' st lv:=⟨a.C.more hm hm',a.x,a.l,a.ll,a.wr⟩
theorem RC.set (S:BR D0 h0 L vo vs B) (a:RC D0 h0 c L B h m st lv) {i:Nat} {v:Int} (hi:i < B.n*B.n) (hv : -4611686018427387904 < v∧v < 4611686018427387904) :
  h.wr1 L i (.int .i64 v)=some (h.put L (.cells (intsV (lv.set i v)) 3 false))∧RC D0 h0 c L B (h.put L (.cells (intsV (lv.set i v)) 3 false)) m st (lv.set i v):=by
 have hl:=H.get_lt a.l.get
 have hn:=a.x.n
 have nL:¬ grow D0 h0 h L:=by rintro (e | e);exact S.nl.1 e;have:=S.nl.2;omega
 have e1:(intsV lv).set i (.int .i64 v)=intsV (lv.set i v):=by simp [intsV,List.map_set]
 refine ⟨by rw [wr1_of a.l.get (by rw [intsV_length,a.ll];exact hi),e1],⟨(a.C.keep (by rw [H.n_put];exact Nat.le_refl _) fun b hb hb2=>get_put_ne (by rintro rfl;exact nL hb)).mono fun b hb hd=>?_,⟨by rw [H.n_put];exact hn,fun b hb hd=>?_⟩,⟨get_put_same hl,?_⟩,by rw [List.length_set];exact a.ll,a.wr⟩⟩
 ·rcases hd with e | e
  ·exact .inl e
  ·exact .inr ⟨e.1,by rw [H.n_put];exact e.2⟩
 ·rw [get_put_ne (by rintro rfl;exact hd (.inr rfl)),a.x.get b hb hd]
 ·intro x hx
  rcases List.mem_or_eq_of_mem_set hx with e | e
  ·exact a.l.b x e
  ·rw [e];exact hv
theorem RC.rs (a:RC D0 h0 c L B h m st lv):Rs (grow D0 h0 h) h c h m st:=Rs.of a.C
theorem RC.sym (S:BR D0 h0 L vo vs B) (a:RC D0 h0 c L B h m st lv) {k x:Nat} {v:Int} (hm:m+1 < 100000000) (hk:k < 32) (hx:x < cx k) (hv:0≤v∧v < vl k) :
  RT (fun w h'=>w=.tup [.int .i64 (st.symV k x v:Nat),.int .i64 0]∧RC D0 h0 c L B h' (m+1) (st.sym k x v) lv) (KW 48 [.ptr c 0,.int .i64 k,.int .i64 x,.int .i64 v] h) :=
 (a.rs.sym hm hk hx (fun _=>hv)).mono fun w h2 ⟨h1,h3⟩=>⟨h1,a.step S h3 (St.sym_wr _ _ _ _)⟩
theorem RC.num (S:BR D0 h0 L vo vs B) (a:RC D0 h0 c L B h m st lv) {n:Nat} {v:Int} (hm:m+n < 100000000) (hn:n≤30) (hv:B.wr=true→0≤v∧v < 2 ^ n) :
  RT (fun w h'=>w=.tup [.int .i64 (st.numV n v.toNat:Nat),.int .i64 0]∧RC D0 h0 c L B h' (m+n) (st.num n v.toNat) lv) (KW 51 [.ptr c 0,.int .i64 n,.int .i64 v] h) :=
 (a.rs.num hm hn (fun h=>hv (by rw [← a.wr];exact h))).mono fun w h2 ⟨h1,h3⟩=>⟨h1,a.step S h3 (St.num_wr _ _ _)⟩
structure I12a (g0:H) (c L:Nat) (vo vs:V) (B:BD) (j:Nat) (e:E) (g:H):Prop where
 hj:j≤B.n*B.n
 hg:g=g0
 k:K0 c L vo vs B e
 e18:e.s K12 18=.int .i64 (endTo B (B.n*B.n - j):Nat)
 e19:e.s K12 19=.int .i64 ((B.n*B.n - j:Nat):Int)
theorem loop12_0 (S:BR D0 h0 L vo vs B) (C:RC D0 h0 c L B h m st lv) {e:E} {o:Out} (ho:loopZ (l12_0 KW loopZ) e h=o) (hi:I12a h c L vo vs B (B.n*B.n) e h) :
  ∃ e',o=some ⟨.ex 0,e',h⟩∧I12a h c L vo vs B 0 e' h:=by
 have hnn:=S.nn
 have loop:=loop_run (body:=l12_0 KW loopZ) (I12a h c L vo vs B) (fun s=>s.x=.ex 0∧I12a h c L vo vs B 0 s.e s.h) (fun j e g hi=>by
  obtain ⟨hj,hg,⟨e0,e1,e3,e13,e15,e16,e17⟩,e18,e19⟩:=hi
  subst hg
  have sl:=S.ho.len
  rw [List.length_map,S.ordl] at sl
  obtain ⟨N,hN⟩:∃ N,N=B.n*B.n:=⟨_,rfl⟩
  rw [← hN] at e18 e19 sl hj
  cases j with
  | zero =>
   rw [Nat.sub_zero] at e19
   simp [l12_0,e13,sl,e19]
   exact ⟨rfl,by omega,rfl,⟨by simp [e0],by simp [e1],by simp [e3],by simp [e13],by simp [e15],by simp [e16],by simp [e17]⟩,by simp [e18,← hN],by simp [e19,← hN]⟩
  | succ j =>
   obtain ⟨i,hi⟩:∃ i,i=N - (j+1):=⟨_,rfl⟩
   rw [← hi] at e18 e19
   have hiN:i < N:=by omega
   obtain ⟨⟨b1,o1,t1,t2⟩,hat⟩:=C.o S (i:=i) (by omega)
   obtain ⟨b,o,s1,s2⟩:=C.s S hat
   have zi:IntKind.i64.wrap ((i:Int)+1)=((i+1:Nat):Int):=by rw [wz (by omega) (by omega)];omega
   have hen:endTo B (i+1)=if B.src.getD (B.ord.getD i 0) 0 ≠ 0 then i+1 else endTo B i:=rfl
   obtain ⟨at_,hat_⟩:∃ at_,at_=B.ord.getD i 0:=⟨_,rfl⟩
   rw [← hat_] at t2 hat s1 s2 hen
   obtain ⟨sv,hsv⟩:∃ sv,sv=B.src.getD at_ 0:=⟨_,rfl⟩
   rw [← hsv] at s2 hen
   have hj1:B.n*B.n - j=i+1:=by omega
   by_cases c0:sv=0
   ·rw [if_neg (by simp [c0])] at hen
    subst c0
    simp [l12_0,e13,sl,e19,show (i:Int) < (N:Int) by omega,hiN,t1,t2,e17,s1,s2,zi,-Int.natCast_add]
    exact ⟨j,by omega,by omega,rfl,⟨by simp [e0],by simp [e1],by simp [e3],by simp [e13],by simp [e15],by simp [e16],by simp [e17]⟩,by rw [hj1,hen];simp [e18],by rw [hj1];simp⟩
   ·rw [if_pos c0] at hen
    simp [l12_0,e13,sl,e19,show (i:Int) < (N:Int) by omega,hiN,t1,t2,e17,s1,s2,zi,c0,-Int.natCast_add]
    exact ⟨j,by omega,by omega,rfl,⟨by simp [e0],by simp [e1],by simp [e3],by simp [e13],by simp [e15],by simp [e16],by simp [e17]⟩,by rw [hj1,hen];simp,by rw [hj1];simp⟩)
  (B.n*B.n) e h hi
 obtain ⟨⟨sx,se,sh⟩,h1,h2,h3⟩:=loop
 have hg:=h3.hg
 simp only at h2 hg h3
 subst h2
 subst hg
 exact ⟨se,by rw [← ho,h1],h3⟩
structure I12b (D0:Nat→Prop) (h0:H) (c L:Nat) (vo vs:V) (B:BD) (en M:Nat) (R:Option (List Int) × St) (j:Nat) (e:E) (g:H):Prop where
 hj:j≤en
 ex:∃ lv st,RC D0 h0 c L B g (M - 46*j) st lv∧(amsP B en j lv).exec st=R
 k:K0 c L vo vs B e
 e18:e.s K12 18=.int .i64 (en:Nat)
 e26:e.s K12 26=.int .i64 ((j:Int) - 1)
structure O12b (D0:Nat→Prop) (h0:H) (c L:Nat) (vo vs:V) (B:BD) (en M:Nat) (R:Option (List Int) × St) (s:Go.Zf.St):Prop where
 ex:∃ lv,RC D0 h0 c L B s.h M R.2 lv∧((s.x=.ex 2∧R.1=some lv∧K0 c L vo vs B s.e∧s.e.s K12 18=.int .i64 (en:Nat))∨(s.x=.rt∧R.1=none∧s.e.s K12 10=.nils∧s.e.s K12 11=.int .i64 4))
theorem loop12_1 (S:BR D0 h0 L vo vs B) {en M:Nat} {R:Option (List Int) × St} (hen:en≤B.n*B.n) (hM:M < 100000000) (hM2:46*en≤M) {e:E} {g:H} {o:Out} (ho:loopZ (l12_1 KW loopZ) e g=o) (hi:I12b D0 h0 c L vo vs B en M R en e g) :
  ∃ s,o=some s∧O12b D0 h0 c L vo vs B en M R s:=by
 have hnn:=S.nn
 have loop:=loop_run (body:=l12_1 KW loopZ) (I12b D0 h0 c L vo vs B en M R) (O12b D0 h0 c L vo vs B en M R) (fun j e g hi=>by
  obtain ⟨hj,⟨lv,st,C,hR⟩,⟨e0,e1,e3,e13,e15,e16,e17⟩,e18,e26⟩:=hi
  cases j with
  | zero =>
   simp at e26
   simp [l12_1,e26]
   have hR:(some lv,st)=R:=hR
   subst hR
   exact ⟨lv,C,.inl ⟨rfl,rfl,⟨by simp [e0],by simp [e1],by simp [e3],by simp [e13],by simp [e15],by simp [e16],by simp [e17]⟩,by simp [e18]⟩⟩
  | succ i =>
   have he4:((i+1:Nat):Int) - 1=(i:Int):=by omega
   rw [he4] at e26
   have hi:i < B.n*B.n:=by omega
   obtain ⟨⟨b1,o1,t1,t2⟩,hat⟩:=C.o S hi
   unfold amsP at hR
   obtain ⟨at_,hat_⟩:∃ at_,at_=B.ord.getD i 0:=⟨_,rfl⟩
   rw [← hat_] at t2 hat hR
   obtain ⟨b,o,s1,s2⟩:=C.s S hat
   have hsb:=S.src at_
   have hab:=iabs_b (B.src.getD at_ 0)
   obtain ⟨sv,hsv⟩:∃ sv,sv=B.src.getD at_ 0:=⟨_,rfl⟩
   have aeq:∀ g,KW 52 [.int .i64 sv] g=some (.ret (.int .i64 (iabs sv)),g):=fun g=>abs52_ok sv g (by rw [hsv];omega)
   have a53:=base53_ok (h:=g) (L:=L) S.size C.l (by rw [C.ll,S.n]) (by rw [← S.n];exact hat)
   have a54:=more54_ok (h:=g) (L:=L) S.size C.l (by rw [C.ll,S.n]) (by rw [← S.n];exact hat)
   rw [← S.n] at a53 a54
   have mb:=(baseP_b lv B.n at_).1
   have mm:=(moreP_b lv B.n at_).1
   have m2:=imin_b (iabs sv) 3
   have m1:=imax_b (imin (iabs sv) 3 - 1) 0
   have hcol:=S.colour
   have hv27:vl 27=3:=by decide
   have hv28:vl 28=4:=by decide
   have zi:IntKind.i64.wrap ((i:Int) - 1)=(i:Int) - 1:=wz (by omega) (by omega)
   have hat64:(at_:Int) < ((B.n*B.n:Nat):Int):=by omega
   rw [← hsv] at s2 hsb hab
   have z3:IntKind.i64.wrap (imin (iabs sv) 3 - 1)=imin (iabs sv) 3 - 1:=by
    have q1 : -1≤imin (iabs sv) 3 - 1∧imin (iabs sv) 3 - 1≤3:=by omega
    exact wz (by omega) (by omega)
   have z4:IntKind.i64.wrap (5*(B.colour:Int))=5*(B.colour:Int):=wz (by omega) (by omega)
   have z7:IntKind.i64.wrap (7*(B.colour:Int))=7*(B.colour:Int):=wz (by omega) (by omega)
   -- the first symbol
   have first:∃ (said:Nat) (st1:St) (g1:H),said≤3∧(saidP B en i lv).exec st=(some said,st1)∧RC D0 h0 c L B g1 (M - 46*(i+1)+1) st1 lv ∧
     (
      (i+1=en∧KW 48 [.ptr c 0,.int .i64 27,.int .i64 B.colour,.int .i64 (imax (imin (iabs sv) 3 - 1) 0)] g=some (.ret (.tup [.int .i64 ((said:Int) - 1),.int .i64 0]),g1)∧1≤said) ∨
      (i+1 ≠ en∧KW 48 [.ptr c 0,.int .i64 28,.int .i64 ((5*B.colour+baseP lv B.n at_:Nat):Int),.int .i64 (imin (iabs sv) 3)] g=some (.ret (.tup [.int .i64 (said:Nat),.int .i64 0]),g1))):=by
    unfold saidP
    rw [← hat_,← hsv]
    by_cases cl:i+1=en
    ·obtain ⟨w,g1,a1,rfl,C1⟩:=(C.sym S (k:=27) (x:=B.colour) (v:=imax (imin (iabs sv) 3 - 1) 0) (by omega) (by decide) (by show B.colour < 2;omega) (by rw [hv27];omega)).elim
     have hlt:=St.symV_lt C.C.ok.1 (k:=27) (x:=B.colour) (v:=imax (imin (iabs sv) 3 - 1) 0) (by decide) (by show B.colour < 2;omega) (fun _=>by rw [hv27];omega)
     rw [hv27] at hlt
     rw [if_pos cl,Pr.exec_sym,Pr.exec_done]
     refine ⟨_,_,g1,by omega,rfl,C1,.inl ⟨cl,?_,by omega⟩⟩
     rw [show ((1+st.symV 27 B.colour (imax (imin (iabs sv) 3 - 1) 0):Nat):Int) - 1=(st.symV 27 B.colour (imax (imin (iabs sv) 3 - 1) 0):Nat) by omega]
     exact a1
    ·obtain ⟨w,g1,a1,rfl,C1⟩:=(C.sym S (k:=28) (x:=5*B.colour+baseP lv B.n at_) (v:=imin (iabs sv) 3) (by omega) (by decide) (by show _ < 10;omega) (by rw [hv28];omega)).elim
     have hlt:=St.symV_lt C.C.ok.1 (k:=28) (x:=5*B.colour+baseP lv B.n at_) (v:=imin (iabs sv) 3) (by decide) (by show _ < 10;omega) (fun _=>by rw [hv28];omega)
     rw [hv28] at hlt
     rw [if_neg cl,Pr.exec_sym,Pr.exec_done]
     exact ⟨_,_,g1,by omega,rfl,C1,.inr ⟨cl,a1⟩⟩
   obtain ⟨said,st1,g1,hs3,b1',C1,first⟩:=first
   rw [Pr.exec_some b1'] at hR
   obtain ⟨w,g2,a2,st2,C2,hend⟩:=(amount55_ok (B:=B) (lv:=lv) (at_:=at_) (said:=said) C1.C C1.wr hcol hs3 (by rw [← hsv];exact hsb) (by omega)).elim
   rw [← hsv] at a2
   obtain ⟨ba,hba⟩:∃ ba,ba=baseP lv B.n at_:=⟨_,rfl⟩
   obtain ⟨mo,hmo⟩:∃ mo,mo=moreP lv B.n at_:=⟨_,rfl⟩
   rw [← hba] at a53 mb first
   rw [← hmo] at a54 mm a2
   have z5:IntKind.i64.wrap (5*(B.colour:Int)+ba)=((5*B.colour+ba:Nat):Int):=by rw [wz (by omega) (by omega)];omega
   have z8:IntKind.i64.wrap (7*(B.colour:Int)+mo)=((7*B.colour+mo:Nat):Int):=by rw [wz (by omega) (by omega)];omega
   have z2:IntKind.i64.wrap ((said:Int) - 1+1)=(said:Int):=by rw [wz (by omega) (by omega)];omega
   have z2':IntKind.i64.wrap (said:Int)=(said:Int):=wz (by omega) (by omega)
   have zen:IntKind.i64.wrap ((en:Int) - 1)=(en:Int) - 1:=wz (by omega) (by omega)
   rcases hend with ⟨v,q1,q2,rfl⟩ | ⟨q1,y,rfl⟩
   ·rw [Pr.exec_some q1] at hR
    have w2:st2.sd.writes=st1.sd.writes:=by have:=Pr.exec_wr (amountP B lv at_ said) st1;rw [q1] at this;exact this
    have C2':=C1.step S C2 w2
    have C3:=C2'.more (m':=M - 46*i) (by omega) (by omega)
    have vb : -4611686018427387904 < (v:Int)∧(v:Int) < 4611686018427387904:=by omega
    obtain ⟨k1,C4⟩:=C3.set S (i:=at_) (v:=(v:Int)) hat vb
    obtain ⟨g3,hg3⟩:∃ y,y=g2.put L (.cells (intsV (lv.set at_ (v:Int))) 3 false):=⟨_,rfl⟩
    rw [← hg3] at k1 C4
    rcases first with ⟨cl,f1,f2⟩ | ⟨cl,f1⟩
    ·have zen':IntKind.i64.wrap ((en:Int) - 1)=(i:Int):=by rw [zen];omega
     simp [l12_1,e26,e13,t1,t2,e17,s1,s2,aeq,e15,e1,a53,a54,e18,zen',minV_i,-minV2,z3,maxV_i,-maxV2,e0,e16,f1,z2,z2',z7,z8,a2,hat64,hat,k1,zi,-Int.natCast_add,-Int.natCast_mul]
     exact ⟨i,by omega,by omega,⟨_,_,C4,hR⟩,⟨by simp [e0],by simp [e1],by simp [e3],by simp [e13],by simp [e15],by simp [e16],by simp [e17]⟩,by simp [e18],by simp [zi]⟩
    ·simp [l12_1,e26,e13,t1,t2,e17,s1,s2,aeq,e15,e1,a53,a54,e18,zen,show ¬ (i:Int)=(en:Int) - 1 by omega,minV_i,-minV2,z4,z5,e0,e16,f1,z7,z8,a2,hat64,hat,k1,zi,-Int.natCast_add,-Int.natCast_mul]
     exact ⟨i,by omega,by omega,⟨_,_,C4,hR⟩,⟨by simp [e0],by simp [e1],by simp [e3],by simp [e13],by simp [e15],by simp [e16],by simp [e17]⟩,by simp [e18],by simp [zi]⟩
   ·rw [Pr.exec_none q1] at hR
    have w2:st2.sd.writes=st1.sd.writes:=by have:=Pr.exec_wr (amountP B lv at_ said) st1;rw [q1] at this;exact this
    have C2':=C1.step S C2 w2
    have C3:=C2'.more (m':=M) (by omega) hM
    rcases first with ⟨cl,f1,f2⟩ | ⟨cl,f1⟩
    ·have zen':IntKind.i64.wrap ((en:Int) - 1)=(i:Int):=by rw [zen];omega
     simp [l12_1,e26,e13,t1,t2,e17,s1,s2,aeq,e15,e1,a53,a54,e18,zen',minV_i,-minV2,z3,maxV_i,-maxV2,e0,e16,f1,z2,z2',z7,z8,a2,-Int.natCast_add,-Int.natCast_mul]
     subst hR
     exact ⟨lv,C3,.inr ⟨rfl,rfl,by simp,by simp⟩⟩
    ·simp [l12_1,e26,e13,t1,t2,e17,s1,s2,aeq,e15,e1,a53,a54,e18,zen,show ¬ (i:Int)=(en:Int) - 1 by omega,minV_i,-minV2,z4,z5,e0,e16,f1,z7,z8,a2,-Int.natCast_add,-Int.natCast_mul]
     subst hR
     exact ⟨lv,C3,.inr ⟨rfl,rfl,by simp,by simp⟩⟩) en e g hi
 obtain ⟨s,h1,h2⟩:=loop
 exact ⟨s,by rw [← ho,h1],h2⟩
end cd
end Go.Proofs.YtbajipmhnoakeaaGreat
