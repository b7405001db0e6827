import Derived.Test.YtbkmdnmncaakdaaPaMt
set_option linter.unusedVariables false
set_option linter.unusedSimpArgs false
set_option maxRecDepth 20000
namespace Go.Proofs.Ytbkmdnmncaakdaa
open Go Go.Zf
open Go.Zf (wi64)
theorem NmP.elim {Post:E→H→Prop} {X:Out} (h:NmP Post X):∃ e g,X=some ⟨.nm,e,g⟩∧Post e g:=by
 unfold NmP at h
 split at h
 ·exact ⟨_,_,rfl,h⟩
 ·exact h.elim
def vsOf (G:Gr) (b:Bk):Vs:=candV G b.x b.y b.w
theorem vecP_ok {b:Bk} (h:vecB b.m0∧vecB b.m1) {ref:Int} {v:Vc} (e:vecP b ref=some v):vecB v:=by
 unfold vecP at e
 split at e
 ·split at e
  ·cases e;exact h.1
  ·split at e
   ·cases e;exact h.2
   ·cases e
 ·cases e
theorem at_mem {G:Gr} {x y:Int} {b:Bk} (h:G.at x y=some b):b ∈ G.bs:=by
 unfold Gr.at at h
 split at h
 ·obtain ⟨n,_,h2⟩:=Option.bind_eq_some_iff.1 h
  exact List.mem_of_getElem? h2
 ·cases h
theorem pushV_ok {ref:Int} {acc:List Vc} {o:Option Bk} (h:∀ v ∈ acc,vecB v) (ho:∀ b,o=some b→vecB b.m0∧vecB b.m1):∀ v ∈ pushV ref acc o,vecB v:=by
 unfold pushV
 split
 ·rename_i v hv
  obtain ⟨b,hb,hv⟩:=Option.bind_eq_some_iff.1 hv
  split
  ·intro u hu
   rcases List.mem_append.1 hu with hu | hu
   ·exact h u hu
   ·rw [List.mem_singleton.1 hu];exact vecP_ok (ho b hb) hv
  ·exact h
 ·exact h
theorem accV_ok {G:Gr} (ok:GrOk G) (x y w ref:Int) (j:Nat):∀ v ∈ accV G x y w ref j,vecB v:=by
 unfold accV
 have:∀ (l:List (Int × Int)) (acc:List Vc),(∀ v ∈ acc,vecB v)→∀ v ∈ l.foldl (fun acc p=>pushV ref acc (G.at p.1 p.2)) acc,vecB v:=by
  intro l
  induction l with
  | nil=>intro acc h;exact h
  | cons p l ih=>intro acc h;exact ih _ (pushV_ok h fun b hb=>ok.vec b (at_mem hb))
 exact this _ [] (by simp)
theorem vsOf_ok {G:Gr} (ok:GrOk G) (b:Bk):VsOk (vsOf G b):=fun r _ _=>by
 have h:=accV_ok ok b.x b.y b.w r 4
 have hd:∀ i,vecB ((accV G b.x b.y b.w r 4).getD i (0,0)):=fun i=>by
  by_cases hi:i < (accV G b.x b.y b.w r 4).length
  ·have:(accV G b.x b.y b.w r 4).getD i (0,0)=(accV G b.x b.y b.w r 4)[i]:=by simp [List.getD,hi]
   rw [this];exact h _ (List.getElem_mem hi)
  ·have:(accV G b.x b.y b.w r 4).getD i (0,0)=(0,0):=by simp [List.getD,List.getElem?_eq_none (by omega:(accV G b.x b.y b.w r 4).length≤i)]
   rw [this];decide
 exact ⟨hd 0,hd 1,accV_len _ _ _ _ _ _⟩
structure InG (G:Gr) (b:Bk):Prop where
 sh:ShapeB b
 i1:inT b.x b.y
theorem InG.pl {G:Gr} {b:Bk} (a:InG G b):pl8 b.x b.y:=⟨a.sh.1.1,a.sh.1.2.1,a.sh.1.2.2,a.sh.2.1.1,a.sh.2.1.2.1,a.sh.2.1.2.2⟩
theorem vecs_of {D:Nat→Prop} {h:H} {g:Nat} {G:Gr} (a:GridAt D h g G) {b:Bk} (ig:InG G b) {ref:Int} (hr:0≤ref∧ref≤2) :
  RT (fun r h'=>r=.tup [.agg [.int .i64 (vsOf G b ref).1.1.1,.int .i64 (vsOf G b ref).1.1.2,.int .i64 (vsOf G b ref).1.2.1,.int .i64 (vsOf G b ref).1.2.2],.int .i64 ((vsOf G b ref).2:Nat),.int .i64 0]∧Ext h h')
   (KW 57 [.ptr g 0,.agg [.int .i64 b.x,.int .i64 b.y,.int .i64 b.w,.int .i64 b.h],.int .i64 ref] h):=vecs57_ok a ig.pl ig.i1 ig.sh.2.2.1 hr
abbrev K30:List Nat:=[0,1,3,4,5,6,18,19]
structure I30 (h0:H) (g p n:Nat) (b:Bk) (i:Nat) (e:E) (h:H):Prop where
 xx:Ext h0 h
 hp:h.get p=some (.cells b.cs 45 false)
 e0:e.s K30 0=.ptr g 0
 e3:e.s K30 3=.ptr p 0
 e18:e.s K30 18=.int .i64 (n:Nat)
 e19:e.s K30 19=.int .i64 (i:Nat)
def refI (b:Bk) (i:Nat):Int:=if i=0 then b.r0 else b.r1
def mvI (b:Bk) (i:Nat):Vc:=if i=0 then b.m0 else b.m1
theorem loop30 {D:Nat→Prop} {h0:H} {g p n:Nat} {G:Gr} (a:GridAt D h0 g G) {b:Bk} (ig:InG G b) (hn:n≤2) (hr:∀ i,i < n→0≤refI b i∧refI b i≤2) :
  ∀ k e h,(k≤n∧I30 h0 g p n b (n - k) e h∧∀ i,i < n - k→mvI b i=saidV b.mm (vsOf G b (refI b i)).1)→LS (fun k e h=>k≤n∧I30 h0 g p n b (n - k) e h∧∀ i,i < n - k→mvI b i=saidV b.mm (vsOf G b (refI b i)).1)
   (fun s=>(s.x=.ex 0∧(∀ i,i < n→mvI b i=saidV b.mm (vsOf G b (refI b i)).1)∧Ext h0 s.h)∨(s.x=.rt∧s.e.s K30 4=.bool false∧(∃ i,i < n∧mvI b i ≠ saidV b.mm (vsOf G b (refI b i)).1)∧Ext h0 s.h)) k (l30_0 KW loopZ e h):=by
 rintro k e h ⟨hk,⟨xx,hp,e0,e3,e18,e19⟩,hs⟩
 obtain ⟨i,hi⟩:∃ i,i=n - k:=⟨_,rfl⟩
 rw [← hi] at e19 hs
 by_cases ci:i=n
 ·subst ci
  simp [l30_0,e19,e18]
  exact .inl ⟨rfl,hs,xx⟩
 have hil:i < n:=by omega
 have hil':(i:Int) < n:=by omega
 have rb:h.rdN p 0 23=some b.cs:=by rw [rdN_of hp (by simp)];rfl
 obtain ⟨_,h1,a1,rfl,x1⟩:=(rect58_ok b h).elim
 have p1:h1.get p=_:=(x1.get p (H.get_lt hp)).trans hp
 obtain ⟨_,h2,a2,rfl,x2⟩:=(vecs_of (a.ext (xx.trans x1)) ig (hr i hil)).elim
 obtain ⟨l,hl⟩:∃ l,l=(vsOf G b (refI b i)).1:=⟨_,rfl⟩
 rw [← hl] at a2
 obtain ⟨h3,hh3⟩:∃ z,z=h2.new (.cells [.int .i64 l.1.1,.int .i64 l.1.2,.int .i64 l.2.1,.int .i64 l.2.2] 43 false):=⟨_,rfl⟩
 have x3:Ext h2 h3:=by rw [hh3];exact (Ext.refl h2).new _
 have zw:(h2.new (.cells [.int .i64 0,.int .i64 0,.int .i64 0,.int .i64 0] 43 false)).wrN h2.n 0 [.int .i64 l.1.1,.int .i64 l.1.2,.int .i64 l.2.1,.int .i64 l.2.2]=some h3:=by rw [hh3];exact wrN_new _ _ _ _ rfl
 have r3:h3.rdN h2.n 0 4=some [.int .i64 l.1.1,.int .i64 l.1.2,.int .i64 l.2.1,.int .i64 l.2.2]:=by rw [hh3];exact rdN_new _ _ _ _ _ _ (by simp)
 have p3:h3.get p=_:=((x2.trans x3).get p (H.get_lt p1)).trans p1
 obtain ⟨_,h4,a4,rfl,x4⟩:=(said59_ok b.mm l h3).elim
 have p4:h4.get p=_:=(x4.get p (H.get_lt p3)).trans p3
 have ix1:∀ o:Nat,o=14+i→h.rd1 p o=some (.int .i64 (refI b i))∧h1.rd1 p o=some (.int .i64 (refI b i)):=fun o ho=>by
  subst ho
  rcases (by omega:i=0∨i=1) with rfl | rfl
  ·exact ⟨rd1_of hp,rd1_of p1⟩
  ·exact ⟨rd1_of hp,rd1_of p1⟩
 have r1:=(ix1 (14+i) rfl).1
 have r1b:=(ix1 (14+i) rfl).2
 have mm3:h3.rd1 p 16=some (.int .i64 b.mm):=by rw [rd1_of p3];rfl
 have mv3:h3.rdN p (17+i*2) 2=some [.int .i64 (mvI b i).1,.int .i64 (mvI b i).2]∧h4.rdN p (17+i*2) 2=some [.int .i64 (mvI b i).1,.int .i64 (mvI b i).2]:=by
  rcases (by omega:i=0∨i=1) with rfl | rfl
  ·exact ⟨by rw [rdN_of p3 (by simp)];rfl,by rw [rdN_of p4 (by simp)];rfl⟩
  ·exact ⟨by rw [rdN_of p3 (by simp)];rfl,by rw [rdN_of p4 (by simp)];rfl⟩
 have hi2:i < 2:=by omega
 have hi2':(i:Int) < 2:=by omega
 have z2:IntKind.i64.wrap ((i:Int)+1)=((i+1:Nat):Int):=by rw [wi64 (by omega) (by omega)];omega
 obtain ⟨mv,hmv⟩:∃ z,z=mvI b i:=⟨_,rfl⟩
 obtain ⟨sd,hsd⟩:∃ z,z=saidV b.mm l:=⟨_,rfl⟩
 rw [← hmv] at mv3
 rw [← hsd] at a4
 have xF:=(((xx.trans x1).trans x2).trans x3).trans x4
 have ck4:∀ {β:Type} (a b c d:Int) (z:Option β),ck (some (.agg [.int .i64 a,.int .i64 b,.int .i64 c,.int .i64 d])) (.agg [.int .i64 a,.int .i64 b,.int .i64 c,.int .i64 d]) z=z:=fun a b c d z=>by simp [ck,V.same,V.sames]
 by_cases c:mv=sd
 ·have c':mv.1=sd.1∧mv.2=sd.2:=by rw [c];exact ⟨rfl,rfl⟩
  simp [l30_0,e19,e18,hil,hil',e3,rb,a1,hi2,hi2',r1,r1b,e0,a2,nw,zw,mm3,r3,a4,mv3.1,mv3.2,c'.1,c'.2,z2,ck4,-Int.natCast_add]
  refine ⟨k - 1,by omega,by omega,?_⟩
  rw [show n - (k - 1)=i+1 by omega]
  refine ⟨⟨xF,p4,by simp [e0],by simp [e3],by simp [e18],by simp⟩,fun m hm=>?_⟩
  by_cases e:m=i
  ·rw [e,← hmv,c,hsd,hl]
  ·exact hs m (by omega)
 ·have c':¬ (mv.1=sd.1∧mv.2=sd.2):=fun h=>c (Prod.ext h.1 h.2)
  simp [l30_0,e19,e18,hil,hil',e3,rb,a1,hi2,hi2',r1,r1b,e0,a2,nw,zw,mm3,r3,a4,mv3.1,mv3.2,c',z2,ck4,-Int.natCast_add]
  exact .inr ⟨rfl,by simp,⟨i,hil,by rw [← hmv,← hl,← hsd];exact c⟩,xF⟩
instance (vs:Vs) (b:Bk):Decidable (AgreeB vs b):=inferInstanceAs (Decidable (_→_))
theorem agrees30_ok {D:Nat→Prop} {h:H} {g:Nat} {G:Gr} (a:GridAt D h g G) {b:Bk} (ig:InG G b) (hr:b.inter=true→InterB b) :
  RT (fun w h'=>w=.bool (decide (AgreeB (vsOf G b) b))∧Ext h h') (KW 30 [.ptr g 0,b.v] h):=by
 obtain ⟨h1,hh1⟩:∃ z,z=h.new (.cells b.cs 45 false):=⟨_,rfl⟩
 have x1:Ext h h1:=by rw [hh1];exact (Ext.refl h).new _
 have g1:h1.get h.n=some (.cells b.cs 45 false):=by rw [hh1,get_new_same]
 have rd:∀ o,h1.rd1 h.n o=b.cs[o]?:=fun o=>rd1_of g1
 have rb:h1.rdN h.n 0 23=some b.cs:=by rw [rdN_of g1 (by simp)];rfl
 rw [w30,f30,s30]
 by_cases ci:b.inter=true
 rotate_left
 ·have e:AgreeB (vsOf G b) b:=fun h=>(ci h).elim
  simp [bx,← hh1,rd,ci,e]
  exact ⟨rfl,x1⟩
 by_cases cm:b.mm=3
 ·have e:AgreeB (vsOf G b) b:=fun _ h=>(h cm).elim
  simp [bx,← hh1,rd,ci,cm,e]
  exact ⟨rfl,x1⟩
 obtain ⟨_,r0,_,_,_,sec⟩:=hr ci
 obtain ⟨_,h2,a2,rfl,x2⟩:=(vecs56_ok b h1).elim
 obtain ⟨n,hn⟩:∃ n:Nat,n=if b.comp=true then 2 else 1:=⟨_,rfl⟩
 have hn':(if b.comp=true then (2:Int) else 1)=(n:Nat):=by rw [hn];split <;> rfl
 rw [hn'] at a2
 have g2:h2.get h.n=_:=(x2.get _ (H.get_lt g1)).trans g1
 have hn2:n≤2:=by rw [hn];split <;> omega
 have ha:AgreeB (vsOf G b) b ↔ ∀ i,i < n→mvI b i=saidV b.mm (vsOf G b (refI b i)).1:=by
  constructor
  ·intro h i hi
   have:=h ci cm
   rcases (by omega:i=0∨i=1) with rfl | rfl
   ·exact this.1
   ·refine this.2 ?_
    rw [hn] at hi
    cases hc:b.comp with
    | true=>rfl
    | false=>rw [hc] at hi;simp at hi
  ·intro h _ _
   refine ⟨h 0 (by rw [hn];split <;> omega),fun hc=>h 1 (by rw [hn,if_pos hc];decide)⟩
 simp [bx,← hh1,rd,ci,cm,rb,a2]
 refine loop_in (C:=fun o=>RT _ (fin Try.prog _ _ (sq (blk 0 o) _))) _ _ (loop30 (a.ext (x1.trans x2)) (p:=h.n) (n:=n) ig hn2 (fun i hi=>by
  rcases (by omega:i=0∨i=1) with rfl | rfl
  ·exact r0
  ·unfold secondB at sec
   rw [hn] at hi
   cases hc:b.comp with
   | true=>rw [hc,if_pos rfl] at sec;exact sec.1
   | false=>rw [hc] at hi;simp at hi)) n ⟨Nat.le_refl _,⟨by exact Ext.refl _,g2,by simp,by simp,by simp,by simp⟩,fun i hi=>by omega⟩ ?_
 rintro ⟨sx,se,sh⟩ (⟨s1,all,xx⟩ | ⟨s1,e4,⟨i,hi,hne⟩,xx⟩)
 ·simp only at s1 xx
  subst s1
  have:AgreeB (vsOf G b) b:=ha.2 all
  simp [this]
  exact ⟨rfl,(x1.trans x2).trans xx⟩
 ·simp only at s1 e4 xx
  subst s1
  have:¬ AgreeB (vsOf G b) b:=fun h=>hne (ha.1 h i hi)
  simp [e4,this]
  exact ⟨rfl,(x1.trans x2).trans xx⟩
end Go.Proofs.Ytbkmdnmncaakdaa
