import Derived.Test.YtbajipmhnoakeaaGreatPnHf
set_option linter.unusedVariables false
set_option linter.unusedSimpArgs false
set_option maxRecDepth 20000
namespace Go.Proofs.YtbajipmhnoakeaaGreat
open Go Go.Zf
open Go.Zf (wi64)
def sizeI (s:Int):Prop:=s=4∨s=8∨s=16∨s=32∨s=64
instance (s:Int):Decidable (sizeI s):=by unfold sizeI;infer_instance
theorem sizeI_ok {s:Int} (h:sizeI s):sizeOk s.toNat∧((s.toNat:Nat):Int)=s:=by
 rcases h with rfl | rfl | rfl | rfl | rfl <;> exact ⟨by unfold sizeOk;decide,rfl⟩
def inB (l:List Int):Prop:=∀ x ∈ l,-1048576≤x∧x≤1048576
instance (l:List Int):Decidable (inB l):=by unfold inB;infer_instance
def okIn (wr:Bool) (s p g:Int) (l:List Int):Prop:=sizeI s∧(0≤p∧p≤2)∧(0≤g∧g≤2)∧(wr=true→l.length=sideP s.toNat*sideP s.toNat∧inB l)
instance (wr:Bool) (s p g:Int) (l:List Int):Decidable (okIn wr s p g l):=by unfold okIn;infer_instance
section
variable {X D:Nat→Prop} {h:H} {c m:Nat} {st:St} {v:V} {l:List Int}
abbrev K44:List Nat:=[0,1,2,3,4,10,11,12]
theorem loop44 (a:IntsX X h v l) (hl:l.length < 100000000) {e:E} {o:Out} (ho:loopZ (l44_0 KW loopZ) e h=o) (e4:e.s K44 4=v) (e12:e.s K44 12=.int .i64 0) :
  ∃ s,o=some s∧s.h=h∧((s.x=.ex 0∧inB l)∨(s.x=.rt∧¬ inB l∧s.e.s K44 10=.bool false)):=by
 have sl:=a.len
 have loop:=loop_run (body:=l44_0 KW loopZ) (fun j e g=>j≤l.length∧g=h∧e.s K44 4=v∧e.s K44 12=.int .i64 ((l.length - j:Nat):Int)∧inB (l.take (l.length - j)))
  (fun s=>s.h=h∧((s.x=.ex 0∧inB l)∨(s.x=.rt∧¬ inB l∧s.e.s K44 10=.bool false))) (fun j e g hi=>by
   obtain ⟨hj,rfl,e4,e12,hb⟩:=hi
   cases j with
   | zero =>
    rw [Nat.sub_zero] at e12 hb
    rw [List.take_length] at hb
    simp [l44_0,e4,e12,sl]
    exact ⟨rfl,.inl ⟨rfl,hb⟩⟩
   | succ j =>
    obtain ⟨i,hi⟩:∃ i,i=l.length - (j+1):=⟨_,rfl⟩
    rw [← hi] at e12 hb
    have hil:i < l.length:=by omega
    obtain ⟨b,o,t1,t2,_,_⟩:=a.at_ i _ (List.getElem?_eq_getElem hil)
    have zi:IntKind.i64.wrap ((i:Int)+1)=((i+1:Nat):Int):=by rw [wz (by omega) (by omega)];omega
    have hmem:=List.getElem_mem hil
    have htk:l.take (i+1)=l.take i ++ [l[i]]:=by rw [List.take_add_one,List.getElem?_eq_getElem hil];rfl
    obtain ⟨y,hy⟩:∃ y,y=l[i]:=⟨_,rfl⟩
    rw [← hy] at t2 hmem htk
    by_cases c1:y < -1048576
    ·simp [l44_0,e4,e12,sl,show (i:Int) < l.length by omega,hil,t1,t2,c1]
     exact ⟨rfl,.inr ⟨rfl,fun q=>by have:=q y hmem;omega,by simp⟩⟩
    ·by_cases c2:1048576 < y
     ·simp [l44_0,e4,e12,sl,show (i:Int) < l.length by omega,hil,t1,t2,c1,c2]
      exact ⟨rfl,.inr ⟨rfl,fun q=>by have:=q y hmem;omega,by simp⟩⟩
     ·simp [l44_0,e4,e12,sl,show (i:Int) < l.length by omega,hil,t1,t2,c1,c2,zi,-Int.natCast_add]
      refine ⟨j,by omega,by omega,rfl,by simp [e4],by simp [show l.length - j=i+1 by omega],?_⟩
      rw [show l.length - j=i+1 by omega,htk]
      intro x hx
      rcases List.mem_append.1 hx with hx | hx
      ·exact hb x hx
      ·simp at hx;subst hx;omega) l.length e h ⟨Nat.le_refl _,rfl,e4,by simp [e12],by rw [Nat.sub_self];intro x hx;simp at hx⟩
 obtain ⟨s,h1,h2,h3⟩:=loop
 exact ⟨s,by rw [← ho,h1],h2,h3⟩
theorem asked44_ok (C:CoderRef D h c m st) (a:IntsX X h v l) (s p g:Int):KW 44 [.ptr c 0,.int .i64 s,.int .i64 p,.int .i64 g,v] h=some (.ret (.bool (decide (okIn st.sd.writes s p g l))),h):=by
 have w47:=writes47_ok C
 have sl:=a.len
 rw [w44,f44,s44]
 by_cases c1:sizeI s
 ·obtain ⟨q1,q2⟩:=sizeI_ok c1
  have a45:=side45_ok q1 h
  rw [q2] at a45
  have sb:=sideP_b q1
  obtain ⟨n,hn⟩:∃ n,n=sideP s.toNat:=⟨_,rfl⟩
  rw [← hn] at a45 sb
  have hnn:n*n≤32*32:=Nat.mul_le_mul sb.2 sb.2
  have z1:IntKind.i64.wrap ((n:Int)*n)=((n*n:Nat):Int):=by rw [← Int.natCast_mul];exact wz (by omega) (by omega)
  have no:(¬ (0≤p∧p≤2)∨¬ (0≤g∧g≤2))→decide (okIn st.sd.writes s p g l)=false:=fun q=>decide_eq_false fun ⟨_,q1,q2,_⟩=>by rcases q with q | q <;> omega
  by_cases c2:p < 0
  ·simp [a45,show ¬ (n:Int)=0 by omega,show ¬ n=0 by omega,c2,no (.inl (by omega))]
  ·by_cases c3:2 < p
   ·simp [a45,show ¬ (n:Int)=0 by omega,show ¬ n=0 by omega,c2,c3,no (.inl (by omega))]
   ·by_cases c4:g < 0
    ·simp [a45,show ¬ (n:Int)=0 by omega,show ¬ n=0 by omega,c2,c3,c4,no (.inr (by omega))]
    ·by_cases c5:2 < g
     ·simp [a45,show ¬ (n:Int)=0 by omega,show ¬ n=0 by omega,c2,c3,c4,c5,no (.inr (by omega))]
     ·cases hw:st.sd.writes with
      | false =>
       rw [hw] at w47
       have yes:okIn false s p g l:=⟨c1,by omega,by omega,fun h=>by cases h⟩
       simp [a45,show ¬ (n:Int)=0 by omega,show ¬ n=0 by omega,c2,c3,c4,c5,w47,yes]
      | true =>
       rw [hw] at w47
       by_cases c6:l.length=n*n
       ·simp [a45,show ¬ (n:Int)=0 by omega,show ¬ n=0 by omega,c2,c3,c4,c5,w47,sl,z1,c6,-Int.natCast_mul]
        generalize ho:loopZ (l44_0 KW loopZ) _ _=o
        obtain ⟨⟨sx,se,sh⟩,rfl,hh,hs⟩:=loop44 a (by omega) ho (by simp) (by simp)
        simp only at hh
        subst hh
        rcases hs with ⟨hx,hb⟩ | ⟨hx,hb,e10⟩
        ·simp only at hx
         subst hx
         have yes:okIn true s p g l:=⟨c1,by omega,by omega,fun _=>⟨by rw [← hn];exact c6,hb⟩⟩
         simp [yes]
        ·simp only at hx e10
         subst hx
         have nay:¬ okIn true s p g l:=fun q=>hb (q.2.2.2 rfl).2
         simp only [K44] at e10
         simp [nay,e10]
       ·have nay:¬ okIn true s p g l:=fun q=>c6 (by rw [hn];exact (q.2.2.2 rfl).1)
        simp [a45,show ¬ (n:Int)=0 by omega,show ¬ n=0 by omega,c2,c3,c4,c5,w47,sl,z1,show ¬ (l.length:Int)=((n*n:Nat):Int) by omega,c6,nay,-Int.natCast_mul]
 ·have a45:=side45_no (s:=s) (by unfold sizeI at c1;omega) h
  have nay:¬ okIn st.sd.writes s p g l:=fun q=>c1 q.1
  simp [a45,nay]
end
def CodeEndR (D:Nat→Prop) (h:H) (c m N:Nat) (R:Option (List Int) × St) (w:V) (h':H):Prop :=
 (∃ E,CoderRef E h' c m R.2∧∀ b,E b→D b∨h.n≤b)∧Mod D h h' ∧
  ((∃ L lvF,R.1=some lvF∧w=.tup [.sl L 0 N (.ex N),.int .i64 0]∧lvF.length=N∧LvAt h' L lvF∧h.n≤L)∨(R.1=none∧w=.tup [.nils,.int .i64 4]))
theorem code12_any {D:Nat→Prop} {h:H} {c m:Nat} {st:St} (C:CoderRef D h c m st) (hm:m+50000 < 100000000) {size plane sign:Nat} (hs:sizeOk size) (hp:plane≤2) (hg:sign≤2) {v:V} {src l:List Int} (a:IntsX D h v l) (hf:firstV h 1 l.length v=some (intsV l)) (hlf:lenOf v=some l.length)
  (hsrc:st.sd.writes=true→l=src) (hr:st.sd.writes=false→src=List.replicate (sideP size*sideP size) 0) (hl:src.length=sideP size*sideP size) (hb:inB src)
  {R:Option (List Int) × St} (hR:(codeP (bdOf size plane sign src st.sd.writes)).exec st=R) :
  RT (CodeEndR D h c (m+50000) (sideP size*sideP size) R) (KW 12 [.ptr c 0,.int .i64 size,.int .i64 plane,.int .i64 sign,v] h):=by
 have sb:=sideP_b hs
 have oo:=ord_ok hs
 have yes:okIn st.sd.writes size plane sign l:=by
  refine ⟨by rcases hs with rfl | rfl | rfl | rfl | rfl <;> simp [sizeI],by omega,by omega,fun hw=>?_⟩
  rw [hsrc hw,Int.toNat_natCast];exact ⟨hl,hb⟩
 have a44:=asked44_ok C a size plane sign
 rw [decide_eq_true yes] at a44
 have a45:=side45_ok hs h
 obtain ⟨w,h1,a46,vo,mo,rfl,G1,x1⟩:=(order46_ok hs h).elim
 obtain ⟨B,hB⟩:∃ B,B=bdOf size plane sign src st.sd.writes:=⟨_,rfl⟩
 have hBn:B.n=sideP size:=by rw [hB];rfl
 have hBs:B.src=src:=by rw [hB];rfl
 have hBo:B.ord=ordN B.n:=by rw [hB];rfl
 have hBz:B.size=size:=by rw [hB];rfl
 have hBc:B.colour=min plane 1:=by rw [hB];rfl
 have hBg:B.sign=sign:=by rw [hB];rfl
 have hBw:B.wr=st.sd.writes:=by rw [hB];rfl
 rw [← hB] at hR
 rw [← hBn] at sb oo a45 G1 hl hr ⊢
 obtain ⟨n,hn⟩:∃ n,n=B.n:=⟨_,rfl⟩
 have hnn:B.n*B.n≤32*32:=Nat.mul_le_mul sb.2 sb.2
 have hn16:4*4≤B.n*B.n:=Nat.mul_le_mul sb.1 sb.1
 have ms1:=ms_zero h1 (B.n*B.n) (by omega)
 obtain ⟨h2,hh2⟩:∃ y,y=h1.new (.cells (intsV (List.replicate (B.n*B.n) 0)) 3 false):=⟨_,rfl⟩
 rw [← hh2] at ms1
 have x2:Ext h1 h2:=by rw [hh2];exact (Ext.refl h1).new _
 have n2:h2.n=h1.n+1:=by rw [hh2,H.n_new]
 have ms2:=ms_zero h2 (B.n*B.n) (by omega)
 obtain ⟨h3,hh3⟩:∃ y,y=h2.new (.cells (intsV (List.replicate (B.n*B.n) 0)) 3 false):=⟨_,rfl⟩
 rw [← hh3] at ms2
 have x3:Ext h2 h3:=by rw [hh3];exact (Ext.refl h2).new _
 have n3:h3.n=h2.n+1:=by rw [hh3,H.n_new]
 have X3:Ext h h3:=(x1.trans x2).trans x3
 have w47:=writes47_ok (C.ext X3)
 have hmin:imin (plane:Int) 1=(B.colour:Int):=by rw [hBc];unfold imin;split <;> omega
 have z1:IntKind.i64.wrap ((B.n:Int)*B.n)=((B.n*B.n:Nat):Int):=by rw [← Int.natCast_mul];exact wz (by omega) (by omega)
 have mx1:=x1.n
 -- the rest,from the heap where all is laid out
 have fin12:∀ (g:H) (vs:V) (e:E),Ext h3 g→IntsX (fun b=>(D b∧b < h.n)∨b=h1.n) g vs src→K0 c h1.n vo vs B e→e.s K12 18=.int .i64 (endTo B B.ord.length:Nat)→RT (CodeEndR D h c (m+50000) (B.n*B.n) R) (fin Tryz.prog K12 [.tmp 10,.tmp 11] (main12m KW loopZ e g)):=by
  intro g vs e xg hI k e18
  have mg:=xg.n
  have S:BR (fun b=>D b∧b < h.n) g h1.n vo vs B:=by
   refine ⟨?_,by rw [hBs];exact hI,⟨by rintro ⟨_,e⟩;omega,by omega⟩,by rw [hBz];exact hs,by rw [hBn,hBz],by omega,by omega,by rw [hBo];exact oo.len,by rw [hBo];exact oo.lt,by rw [hBs];exact hl,by rw [hBs];exact hb⟩
   have hnat:natV (ordN B.n)=intsV (B.ord.map fun (x:Nat)=>(x:Int)):=by rw [hBo];rfl
   rcases G1 with ⟨rfl,q2,q3⟩ | ⟨b',rfl,q2,q3,q4⟩
   ·have:(ordN B.n).length=0:=by have:=congrArg List.length q3;simpa [natV,intsV] using this
    rw [oo.len] at this;omega
   ·have hmo:mo=(B.ord.map fun (x:Nat)=>(x:Int)).length:=by rw [hnat,intsV_length] at q3;omega
    rw [hmo]
    have hbl:=H.get_lt q2
    exact IntsX.of (by rw [← hnat,(x2.trans (x3.trans xg)).get b' hbl,q2]) (by rintro (e | e) <;> omega)
  have Cg:RC (fun b=>D b∧b < h.n) g c h1.n B g m st (List.replicate (B.n*B.n) 0):=by
   refine ⟨((C.under).ext (X3.trans xg)).mono fun b _ hd=>.inl hd,Mod.refl _ _,⟨?_,?_⟩,by simp,hBw.symm⟩
   ·rw [(x3.trans xg).get h1.n (by omega),hh2,get_new_same]
   ·intro y hy;rw [(List.mem_replicate.1 hy).2];decide
  refine (main12 S Cg hBo hm hR k e18).mono fun w h' ⟨lv,C',hw⟩=>?_
  have hx':=C'.x.n
  have x3n:=X3.n
  refine ⟨⟨fun b=>grow (fun b=>D b∧b < h.n) g h' b,C'.C,?_⟩,⟨by omega,fun b hb hd=>?_⟩,?_⟩
  ·rintro b (e | e)
   ·exact .inl e.1
   ·exact .inr (by omega)
  ·rw [C'.x.get b (by omega) (by rintro (e | e);exact hd e.1;omega),(X3.trans xg).get b hb]
  ·rcases hw with ⟨q1,q2⟩ | ⟨q1,q2⟩
   ·exact .inl ⟨h1.n,lv,q1,q2,C'.ll,C'.l,by omega⟩
   ·exact .inr ⟨q1,q2⟩
 have hol:B.ord.length=B.n*B.n:=by rw [hBo];exact oo.len
 rw [w12,f12,s12_eq]
 cases hw:st.sd.writes with
 | true =>
  rw [hw] at w47
  obtain rfl:=hsrc hw
  obtain ⟨w,h4,a10,x4,G4⟩:=(copyInts10_ok (h:=h3) (v:=v) (l:=l) (by omega) (by
   have:=firstV_ext (X3) hf;exact this) hlf).elim
  have hI4:IntsX (fun b=>(D b∧b < h.n)∨b=h1.n) h4 w l:=IntsX.grow G4 (fun b h1' h2'=>by have:=X3.n;rintro (e | e) <;> omega)
  have m4:=x4.n
  have x3n:=X3.n
  simp [s12h,a44,a45,a46,z1,ms1,minV_i,-minV2,hmin,ms2,w47,a10,-Int.natCast_mul]
  generalize ho:loopZ (l12_0 KW loopZ) _ _=o
  have S:BR (fun b=>D b∧b < h.n) h4 h1.n vo w B:=by
   refine ⟨?_,by rw [hBs];exact hI4,⟨by rintro ⟨_,e⟩;omega,by omega⟩,by rw [hBz];exact hs,by rw [hBn,hBz],by omega,by omega,by rw [hBo];exact oo.len,by rw [hBo];exact oo.lt,by rw [hBs];exact hl,by rw [hBs];exact hb⟩
   have hnat:natV (ordN B.n)=intsV (B.ord.map fun (x:Nat)=>(x:Int)):=by rw [hBo];rfl
   rcases G1 with ⟨rfl,q2,q3⟩ | ⟨b',rfl,q2,q3,q4⟩
   ·have:(ordN B.n).length=0:=by have:=congrArg List.length q3;simpa [natV,intsV] using this
    rw [oo.len] at this;omega
   ·have hmo:mo=(B.ord.map fun (x:Nat)=>(x:Int)).length:=by rw [hnat,intsV_length] at q3;omega
    rw [hmo]
    have hbl:=H.get_lt q2
    exact IntsX.of (by rw [← hnat,(x2.trans (x3.trans x4)).get b' hbl,q2]) (by rintro (e | e) <;> omega)
  have Cg:RC (fun b=>D b∧b < h.n) h4 c h1.n B h4 m st (List.replicate (B.n*B.n) 0):=by
   refine ⟨((C.under).ext (X3.trans x4)).mono fun b _ hd=>.inl hd,Mod.refl _ _,⟨?_,?_⟩,by simp,hBw.symm⟩
   ·rw [(x3.trans x4).get h1.n (by omega),hh2,get_new_same]
   ·intro y hy;rw [(List.mem_replicate.1 hy).2];decide
  obtain ⟨e',rfl,_,_,k',f18,f19⟩:=loop12_0 S Cg ho ⟨Nat.le_refl _,rfl,⟨by simp,by simp [hBz],by simp [hBg],by simp,by simp,by simp,by simp⟩,by simp [endTo],by simp⟩
  rw [Nat.sub_zero,← hol] at f18
  simp
  refine fin12 h4 w _ x4 hI4 ?_ ?_
  ·obtain ⟨e0,e1,e3,e13,e15,e16,e17⟩:=k'
   exact ⟨e0,e1,e3,e13,e15,e16,e17⟩
  ·exact f18
 | false =>
  rw [hw] at w47
  have hz:=hr hw
  have hend:endTo B B.ord.length=0:=by
   have:∀ i,endTo B i=0:=by
    intro i
    induction i with
    | zero=>rfl
    | succ i ih =>
     unfold endTo
     have r0:∀ (N i:Nat),(List.replicate N (0:Int)).getD i 0=0:=fun N i=>by
      rw [List.getD_eq_getElem?_getD,List.getElem?_replicate];split <;> rfl
     rw [if_neg (by rw [hBs,hz,r0];simp),ih]
   exact this _
  have hI3:IntsX (fun b=>(D b∧b < h.n)∨b=h1.n) h3 (.sl h2.n 0 (B.n*B.n) (.ex (B.n*B.n))) src:=by
   have:=IntsX.of (X:=fun b=>(D b∧b < h.n)∨b=h1.n) (h:=h3) (b:=h2.n) (l:=src) (k:=.ex (B.n*B.n)) (by rw [hh3,get_new_same,hz]) (by have:=x1.n;rintro (e | e) <;> omega)
   rw [hl] at this;exact this
  simp [s12h,a44,a45,a46,z1,ms1,minV_i,-minV2,hmin,ms2,w47,-Int.natCast_mul]
  exact fin12 h3 _ _ (Ext.refl _) hI3 ⟨by simp,by simp [hBz],by simp [hBg],by simp,by simp,by simp,by simp⟩ (by rw [hend];simp)
theorem code12_no {D:Nat→Prop} {h:H} {c m:Nat} {st:St} (C:CoderRef D h c m st) {s p g:Int} {v:V} {l:List Int} {X:Nat→Prop} (a:IntsX X h v l) (no:¬ okIn st.sd.writes s p g l) :
  KW 12 [.ptr c 0,.int .i64 s,.int .i64 p,.int .i64 g,v] h=some (.ret (.tup [.nils,.int .i64 2]),h):=by
 have a44:=asked44_ok C a s p g
 rw [decide_eq_false no] at a44
 rw [w12,f12,s12_eq]
 simp [s12h,a44]
theorem order25_no {s:Int} (hs:¬ sizeI s) (h:H):KW 39 [.int .i64 s] h=some (.ret (.tup [.nils,.int .i64 2]),h):=by
 have a38:=side38_no (s:=s) (by unfold sizeI at hs;omega) h
 rw [w39,f39,s39]
 simp [a38]
theorem code11_no {D:Nat→Prop} {h:H} {c m:Nat} {st:St} (C:CoderAt D h c m st) (hm:m < 90000000) {s p g:Int} {v:V} {l:List Int} (a:IntsX D h v l) (no:¬ okIn st.sd.writes s p g l) :
  RT (fun w h'=>w=.tup [.nils,.int .i64 2]∧CoderAt (grow D h h') h' c m st∧Mod D h h') (KW 11 [.ptr c 0,.int .i64 s,.int .i64 p,.int .i64 g,v] h):=by
 obtain ⟨w,h1,a1,rfl,C1,M1⟩:=(bits29_ok (n:=0) (v:=0) C (by decide) (by omega) (fun _=>by decide)).elim
 rw [St.num_zero] at C1
 rw [show ((0:Nat):Int)=0 from rfl] at a1
 have m1:=M1.n
 have fin11:∀ h',Ext h1 h'→CoderAt (grow D h h') h' c m st∧Mod D h h':=fun h' x=>by
  have:=x.n
  refine ⟨(C1.keep x.n fun b _ hb=>x.get b hb).mono fun b hb hd=>?_,⟨by omega,fun b hb hd=>by rw [x.get b (by omega),M1.get b hb hd]⟩⟩
  rcases hd with e | e
  ·exact .inl e
  ·exact .inr ⟨e.1,by omega⟩
 rw [w11,f11,s11]
 by_cases c1:sizeI s
 ·obtain ⟨q1,q2⟩:=sizeI_ok c1
  have sb:=sideP_b q1
  have oo:=ord_ok q1
  obtain ⟨w,h2,a2,ob,rfl,o1,o2,x2⟩:=(order25_ok q1 oo.len h1).elim
  rw [q2] at a2
  have hnn:sideP s.toNat*sideP s.toNat≤32*32:=Nat.mul_le_mul sb.2 sb.2
  have hn16:4*4≤sideP s.toNat*sideP s.toNat:=Nat.mul_le_mul sb.1 sb.1
  obtain ⟨N,hN⟩:∃ N,N=sideP s.toNat*sideP s.toNat:=⟨_,rfl⟩
  rw [← hN] at a2 hnn hn16
  by_cases c2:p < 0
  ·simp [a1,a2,c2];exact ⟨rfl,fin11 h2 x2⟩
  ·by_cases c3:2 < p
   ·simp [a1,a2,c2,c3];exact ⟨rfl,fin11 h2 x2⟩
   ·by_cases c4:g < 0
    ·simp [a1,a2,c2,c3,c4];exact ⟨rfl,fin11 h2 x2⟩
    ·by_cases c5:2 < g
     ·simp [a1,a2,c2,c3,c4,c5];exact ⟨rfl,fin11 h2 x2⟩
     ·cases hw:st.sd.writes with
      | false=>exact absurd ⟨c1,by omega,by omega,fun h=>by rw [hw] at h;cases h⟩ no
      | true =>
       have w26:=writes26_ok (C1.keep x2.n fun b _ hb=>x2.get b hb)
       rw [hw] at w26
       have I2:IntsX D h2 v l:=a.keep (by have:=x2.n;omega) (fun b hb hd=>by rw [x2.get b (by omega),M1.get b hb hd]) (fun _ _ h=>h)
       have sl:=I2.len
       by_cases c6:l.length=N
       ·have nb:¬ inB l:=fun q=>no ⟨c1,by omega,by omega,fun _=>⟨by rw [c6,hN],q⟩⟩
        obtain ⟨w,g,b1,hg1,M,rfl,mM,mM2⟩:=(max27_ok I2 (by omega) (by omega)).elim
        rw [hg1] at b1
        obtain ⟨w,g',b2,hg2,M',rfl,nM,nM2⟩:=(min28_ok I2 (by omega) (by omega)).elim
        rw [hg2] at b2
        rw [c6] at sl
        by_cases c7:1048576 < M
        ·simp [a1,a2,c2,c3,c4,c5,w26,sl,b1,c7,gk_t]
         exact ⟨rfl,fin11 h2 x2⟩
        ·have c8:M' < -1048576:=by
          refine Classical.byContradiction fun q=>nb fun x hx=>?_
          have:=mM2 x hx
          have:=nM2 x hx
          omega
         simp [a1,a2,c2,c3,c4,c5,w26,sl,b1,c7,b2,c8]
         exact ⟨rfl,fin11 h2 x2⟩
       ·simp [a1,a2,c2,c3,c4,c5,w26,sl,show ¬ (l.length:Int)=(N:Int) by omega,c6,gk_t,gl_t]
        exact ⟨rfl,fin11 h2 x2⟩
 ·have a2:=order25_no c1 h1
  simp [a1,a2]
  exact ⟨rfl,fin11 h1 (Ext.refl _)⟩
end Go.Proofs.YtbajipmhnoakeaaGreat
