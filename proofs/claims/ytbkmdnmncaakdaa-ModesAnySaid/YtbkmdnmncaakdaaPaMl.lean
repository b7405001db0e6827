import Derived.Test.YtbkmdnmncaakdaaPaMk
set_option linter.unusedVariables false
set_option linter.unusedSimpArgs false
set_option maxRecDepth 20000
namespace Go.Proofs.Ytbkmdnmncaakdaa
open Go Go.Zf
open Go.Zf (wi64)
instance (b:Bk):Decidable (cflB b):=by unfold cflB;infer_instance
instance (b:Bk):Decidable (IntraB b):=inferInstanceAs (Decidable (_∧_))
instance (b:Bk):Decidable (secondB b):=by unfold secondB;infer_instance
instance (b:Bk):Decidable (InterB b):=inferInstanceAs (Decidable (_∧_))
instance (k l:Bool) (b:Bk):Decidable (MayB k l b):=by unfold MayB;infer_instance
def plainA (b:Bk):Bk:={ b with ym:=0,yd:=0,um:=0,ud:=0,cu:=0,cv:=0 }
def wantA (b:Bk):Bk:={ shapeB b with skip:=b.skip,tx:=b.tx }
theorem plainA_set (b:Bk):(((((b.cs.set 6 (.int .i64 0)).set 7 (.int .i64 0)).set 8 (.int .i64 0)).set 9 (.int .i64 0)).set 10 (.int .i64 0)).set 11 (.int .i64 0)=(plainA b).cs:=id rfl
theorem wantA_set (b:Bk):((shapeB b).cs.set 4 (.bool b.skip)).set 12 (.int .i64 b.tx)=(wantA b).cs:=id rfl
theorem plainA_iff (b:Bk):plainA b=wantA b ↔ (b.inter=false∧b.comp=false∧b.r0=0∧b.r1=0∧b.mm=0∧b.m0=(0,0)∧b.m1=(0,0)∧b.fl=0∧b.ob=false):=by
 unfold plainA wantA shapeB
 simp only [Bk.mk.injEq,true_and]
abbrev K36:List Nat:=[0,1,2,3,4,5,6]
theorem intra36_ok (b:Bk) (h:H):RT (fun w h'=>w=.bool (decide (IntraB b))∧Ext h h') (KW 36 [b.v] h):=by
 obtain ⟨h1,hh1⟩:∃ z,z=h.new (.cells b.cs 45 false):=⟨_,rfl⟩
 have x1:Ext h h1:=by rw [hh1];exact (Ext.refl h).new _
 have n1:h1.n=h.n+1:=by rw [hh1,H.n_new]
 have g1:h1.get h.n=some (.cells b.cs 45 false):=by rw [hh1,get_new_same]
 have rb1:h1.rdN h.n 0 23=some b.cs:=by rw [rdN_of g1 (by simp)];rfl
 obtain ⟨h2,hh2⟩:∃ z,z=h1.new (.cells (plainA b).cs 45 false):=⟨_,rfl⟩
 have x2:Ext h1 h2:=by rw [hh2];exact (Ext.refl h1).new _
 have g2:h2.get h.n=_:=(x2.get _ (H.get_lt g1)).trans g1
 have p2:h2.get h1.n=some (.cells (plainA b).cs 45 false):=by rw [hh2,get_new_same]
 have rb2:h2.rdN h.n 0 23=some b.cs:=by rw [rdN_of g2 (by simp)];rfl
 have n2:h2.n=h1.n+1:=by rw [hh2,H.n_new]
 obtain ⟨_,h3,a3,rfl,x3⟩:=(shape29_ok b h2).elim
 have n3:=x3.n
 have g3:h3.get h.n=_:=(x3.get _ (H.get_lt g2)).trans g2
 have p3:h3.get h1.n=_:=(x3.get _ (H.get_lt p2)).trans p2
 have rd:∀ X o,(h3.new X).rd1 h.n o=b.cs[o]?:=fun X o=>rd1_of (by rw [get_new_lt (by omega)];exact g3)
 obtain ⟨h4,hh4⟩:∃ z,z=h3.new (.cells (wantA b).cs 45 false):=⟨_,rfl⟩
 have x4:Ext h3 h4:=by rw [hh4];exact (Ext.refl h3).new _
 have g4:h4.get h.n=_:=(x4.get _ (H.get_lt g3)).trans g3
 have p4:h4.get h1.n=_:=(x4.get _ (H.get_lt p3)).trans p3
 have q4:h4.get h3.n=some (.cells (wantA b).cs 45 false):=by rw [hh4,get_new_same]
 have rd4:∀ o,h4.rd1 h.n o=b.cs[o]?:=fun o=>rd1_of g4
 have rb4:h4.rdN h.n 0 23=some b.cs:=by rw [rdN_of g4 (by simp)];rfl
 have x04:=((x1.trans x2).trans x3).trans x4
 rw [w36,f36,s36]
 simp [bx,nw,← hh1,rb1,plainA_set,← hh2,rb2,a3,rd,wantA_set,← hh4,rd4]
 obtain ⟨_,h5,a5,rfl,x5⟩:=(col64_ok b h4).elim
 have g5:h5.get h.n=_:=(x5.get _ (H.get_lt g4)).trans g4
 have rd5:∀ o,h5.rd1 h.n o=b.cs[o]?:=fun o=>rd1_of g5
 refine sq_in (C:=fun o=>RT _ (fin Try.prog _ _ o)) (fun e g=>g=h4∧e.s K36 6=.bool (decide (b.cu=0∧b.cv=0))∧e.s K36 1=.ptr h.n 0∧e.s K36 3=.ptr h1.n 0∧e.s K36 4=.ptr h3.n 0∧e.s K36 5=.fn (.func 68) [] []) ?_ ?_
 ·by_cases cu0:b.cu=0 <;> simp [cu0,NmP,rd4]
 rintro e g ⟨rfl,e6,e1,e3,e4,e5⟩
 refine sq_in (C:=fun o=>RT _ (fin Try.prog _ _ o)) (fun e g'=>Ext g g'∧e.s K36 6=.bool (decide (cflB b))∧e.s K36 1=.ptr h.n 0∧e.s K36 3=.ptr h1.n 0∧e.s K36 4=.ptr h3.n 0∧e.s K36 5=.fn (.func 68) [] []) ?_ ?_
 ·by_cases c13:b.um=13
  ·have e:cflB b ↔ (¬ (b.cu=0∧b.cv=0)∧imax b.w b.h≤32∧(-16≤b.cu∧b.cu≤16)∧(-16≤b.cv∧b.cv≤16)):=by unfold cflB;rw [if_pos c13]
   by_cases cz:b.cu=0∧b.cv=0
   ·simp [c13,e1,e6,e3,e4,e5,rd4,cz,NmP,e]
    exact Ext.refl _
   ·by_cases cm:imax b.w b.h≤32
    ·by_cases cu : -16≤b.cu∧b.cu≤16
     ·simp [c13,e1,e6,e3,e4,e5,rd4,cz,NmP,e,rb4,a5,cm,rd5,within54_ok,cu]
      exact x5
     ·simp [c13,e1,e6,e3,e4,e5,rd4,cz,NmP,e,rb4,a5,cm,rd5,within54_ok,cu]
      exact x5
    ·simp [c13,e1,e6,e3,e4,e5,rd4,cz,NmP,e,rb4,a5,cm]
     exact x5
  ·have e:cflB b ↔ (b.cu=0∧b.cv=0):=by unfold cflB;rw [if_neg c13]
   simp [c13,e1,e6,e3,e4,e5,rd4,NmP,e]
   exact Ext.refl _
 ·rintro e g ⟨xg,e6,e1,e3,e4,e5⟩
  have gg:g.get h.n=_:=(xg.get _ (H.get_lt g4)).trans g4
  have pg:g.get h1.n=_:=(xg.get _ (H.get_lt p4)).trans p4
  have qg:g.get h3.n=_:=(xg.get _ (H.get_lt q4)).trans q4
  have rdg:∀ o,g.rd1 h.n o=b.cs[o]?:=fun o=>rd1_of gg
  have rp:g.rdN h1.n 0 23=some (plainA b).cs:=by rw [rdN_of pg (by simp)];rfl
  have rq:g.rdN h3.n 0 23=some (wantA b).cs:=by rw [rdN_of qg (by simp)];rfl
  have x0g:=x04.trans xg
  have pi:=plainA_iff b
  by_cases c1:plainA b=wantA b
  ·by_cases c2:0≤b.ym∧b.ym≤12
   ·by_cases c3:0≤b.um∧b.um≤13
    ·by_cases c4:deltaB b.ym b.yd
     ·by_cases c5:deltaB b.um b.ud
      ·have ei:decide (IntraB b)=decide (cflB b):=by rw [decide_eq_decide];exact ⟨fun h=>h.2.2.2.2.2,fun h=>⟨pi.1 c1,c2,c3,c4,c5,h⟩⟩
       simp [e3,rp,e4,rq,c1,e1,rdg,within54_ok,c2,c3,e5,cdy_fn,delta68_ok,c4,c5,e6,ei]
       exact ⟨rfl,x0g⟩
      ·have ei:decide (IntraB b)=false:=by rw [decide_eq_false_iff_not];exact fun h=>c5 h.2.2.2.2.1
       simp [e3,rp,e4,rq,c1,e1,rdg,within54_ok,c2,c3,e5,cdy_fn,delta68_ok,c4,c5,ei]
       exact ⟨rfl,x0g⟩
     ·have ei:decide (IntraB b)=false:=by rw [decide_eq_false_iff_not];exact fun h=>c4 h.2.2.2.1
      simp [e3,rp,e4,rq,c1,e1,rdg,within54_ok,c2,c3,e5,cdy_fn,delta68_ok,c4,ei]
      exact ⟨rfl,x0g⟩
    ·have ei:decide (IntraB b)=false:=by rw [decide_eq_false_iff_not];exact fun h=>c3 h.2.2.1
     simp [e3,rp,e4,rq,c1,e1,rdg,within54_ok,c2,c3,ei]
     exact ⟨rfl,x0g⟩
   ·have ei:decide (IntraB b)=false:=by rw [decide_eq_false_iff_not];exact fun h=>c2 h.2.1
    simp [e3,rp,e4,rq,c1,e1,rdg,within54_ok,c2,ei]
    exact ⟨rfl,x0g⟩
  ·have ei:decide (IntraB b)=false:=by rw [decide_eq_false_iff_not];exact fun h=>c1 (pi.2 h.1)
   simp [e3,rp,e4,rq,c1,ei]
   exact ⟨rfl,x0g⟩
def plainE (b:Bk):Bk:={ b with comp:=false,r0:=0,r1:=0,mm:=0,m0:=(0,0),m1:=(0,0),fl:=0,ob:=false }
def wantE (b:Bk):Bk:={ shapeB b with skip:=b.skip,inter:=true,tx:=b.tx }
theorem plainE_iff (b:Bk):plainE b=wantE b ↔ (b.inter=true∧b.ym=0∧b.yd=0∧b.um=0∧b.ud=0∧b.cu=0∧b.cv=0):=by
 unfold plainE wantE shapeB
 simp only [Bk.mk.injEq,true_and,and_true]
theorem plainE_set (b:Bk):((splice ((splice (b.cs.set 13 (.bool false)) 14 [.int .i64 0,.int .i64 0]).set 16 (.int .i64 0)) 17 [.int .i64 0,.int .i64 0,.int .i64 0,.int .i64 0]).set 21 (.int .i64 0)).set 22 (.bool false)=(plainE b).cs:=id rfl
theorem wantE_set (b:Bk):(((shapeB b).cs.set 4 (.bool b.skip)).set 5 (.bool true)).set 12 (.int .i64 b.tx)=(wantE b).cs:=id rfl
theorem splice_len' (c:List V) (o:Nat) (vs:List V) (h:o+vs.length≤c.length):(splice c o vs).length=c.length:=by simp [splice];omega
@[simp] theorem len_sp2 (c:List V) (o:Nat) (a b:V) (h:o+2≤c.length):(splice c o [a,b]).length=c.length:=splice_len' _ _ _ h
@[simp] theorem len_sp4 (c:List V) (o:Nat) (a b d f:V) (h:o+4≤c.length):(splice c o [a,b,d,f]).length=c.length:=splice_len' _ _ _ h
@[simp] theorem wrN_14 (h:H) (z:List V) (a b:V) (t:TypeId) (e:16≤z.length):(h.new (.cells z t false)).wrN h.n 14 [a,b]=some (h.new (.cells (splice z 14 [a,b]) t false)):=by
 rw [wrN_of get_new_same e,new_put]
@[simp] theorem wrN_17 (h:H) (z:List V) (a b c d:V) (t:TypeId) (e:21≤z.length):(h.new (.cells z t false)).wrN h.n 17 [a,b,c,d]=some (h.new (.cells (splice z 17 [a,b,c,d]) t false)):=by
 rw [wrN_of get_new_same e,new_put]
abbrev K35:List Nat:=[0,1,2,3,4,5]
theorem inter35_ok (b:Bk) (h:H):RT (fun w h'=>w=.bool (decide (InterB b))∧Ext h h') (KW 35 [b.v] h):=by
 obtain ⟨h1,hh1⟩:∃ z,z=h.new (.cells b.cs 45 false):=⟨_,rfl⟩
 have x1:Ext h h1:=by rw [hh1];exact (Ext.refl h).new _
 have n1:h1.n=h.n+1:=by rw [hh1,H.n_new]
 have g1:h1.get h.n=some (.cells b.cs 45 false):=by rw [hh1,get_new_same]
 have rb1:h1.rdN h.n 0 23=some b.cs:=by rw [rdN_of g1 (by simp)];rfl
 obtain ⟨h2,hh2⟩:∃ z,z=h1.new (.cells (plainE b).cs 45 false):=⟨_,rfl⟩
 have x2:Ext h1 h2:=by rw [hh2];exact (Ext.refl h1).new _
 have g2:h2.get h.n=_:=(x2.get _ (H.get_lt g1)).trans g1
 have p2:h2.get h1.n=some (.cells (plainE b).cs 45 false):=by rw [hh2,get_new_same]
 have rb2:h2.rdN h.n 0 23=some b.cs:=by rw [rdN_of g2 (by simp)];rfl
 have n2:h2.n=h1.n+1:=by rw [hh2,H.n_new]
 obtain ⟨_,h3,a3,rfl,x3⟩:=(shape29_ok b h2).elim
 have n3:=x3.n
 have g3:h3.get h.n=_:=(x3.get _ (H.get_lt g2)).trans g2
 have p3:h3.get h1.n=_:=(x3.get _ (H.get_lt p2)).trans p2
 have rd:∀ X o,(h3.new X).rd1 h.n o=b.cs[o]?:=fun X o=>rd1_of (by rw [get_new_lt (by omega)];exact g3)
 obtain ⟨h4,hh4⟩:∃ z,z=h3.new (.cells (wantE b).cs 45 false):=⟨_,rfl⟩
 have x4:Ext h3 h4:=by rw [hh4];exact (Ext.refl h3).new _
 have g4:h4.get h.n=_:=(x4.get _ (H.get_lt g3)).trans g3
 have p4:h4.get h1.n=_:=(x4.get _ (H.get_lt p3)).trans p3
 have q4:h4.get h3.n=some (.cells (wantE b).cs 45 false):=by rw [hh4,get_new_same]
 have rd4:∀ o,h4.rd1 h.n o=b.cs[o]?:=fun o=>rd1_of g4
 have rm4:h4.rdN h.n 19 2=some [.int .i64 b.m1.1,.int .i64 b.m1.2]:=by rw [rdN_of g4 (by simp)];rfl
 have x04:=((x1.trans x2).trans x3).trans x4
 obtain ⟨_,h5,a5,rfl,x5⟩:=(vecMay67_ok b.m1 h4).elim
 have g5:h5.get h.n=_:=(x5.get _ (H.get_lt g4)).trans g4
 have rd5:∀ o,h5.rd1 h.n o=b.cs[o]?:=fun o=>rd1_of g5
 have m1z:(b.m1.1,b.m1.2)=b.m1:=rfl
 rw [w35,f35,s35]
 simp (maxDischargeDepth:=8) [bx,nw,← hh1,rb1,plainE_set,← hh2,rb2,a3,rd,wantE_set,← hh4]
 refine sq_in (C:=fun o=>RT _ (fin Try.prog _ _ o)) (fun e g=>g=h4∧e.s K35 5=.bool (decide (b.r1=0∧b.m1=(0,0)))∧e.s K35 1=.ptr h.n 0∧e.s K35 3=.ptr h1.n 0∧e.s K35 4=.ptr h3.n 0) ?_ ?_
 ·by_cases cr:b.r1=0
  ·have e:(b.m1=(0,0)) ↔ (b.m1.1=0∧b.m1.2=0):=by rw [Prod.ext_iff]
   simp [cr,NmP,rd4,rm4,e]
  ·simp [cr,NmP,rd4]
 rintro e g ⟨rfl,e5,e1,e3,e4⟩
 refine sq_in (C:=fun o=>RT _ (fin Try.prog _ _ o)) (fun e g'=>Ext g g'∧e.s K35 5=.bool (decide (secondB b))∧e.s K35 1=.ptr h.n 0∧e.s K35 3=.ptr h1.n 0∧e.s K35 4=.ptr h3.n 0) ?_ ?_
 ·cases cc:b.comp with
  | true =>
   have es:secondB b ↔ ((0≤b.r1∧b.r1≤2)∧vecB b.m1∧b.ob=false):=by unfold secondB;rw [if_pos cc]
   by_cases c1:0≤b.r1∧b.r1≤2
   ·by_cases c2:vecB b.m1
    ·simp [e1,e3,e4,e5,rd4,cc,NmP,es,within54_ok,c1,rm4,a5,c2,rd5]
     exact x5
    ·simp [e1,e3,e4,e5,rd4,cc,NmP,es,within54_ok,c1,rm4,a5,c2]
     exact x5
   ·simp [e1,e3,e4,e5,rd4,cc,NmP,es,within54_ok,c1]
    exact Ext.refl _
  | false =>
   have es:secondB b ↔ (b.r1=0∧b.m1=(0,0)):=by unfold secondB;rw [if_neg (by rw [cc];decide)]
   simp [e1,e3,e4,e5,rd4,cc,NmP,es]
   exact Ext.refl _
 ·rintro e g' ⟨xg,e5,e1,e3,e4⟩
  have gg:g'.get h.n=_:=(xg.get _ (H.get_lt g4)).trans g4
  have pg:g'.get h1.n=_:=(xg.get _ (H.get_lt p4)).trans p4
  have qg:g'.get h3.n=_:=(xg.get _ (H.get_lt q4)).trans q4
  have rdg:∀ o,g'.rd1 h.n o=b.cs[o]?:=fun o=>rd1_of gg
  have rmg:g'.rdN h.n 17 2=some [.int .i64 b.m0.1,.int .i64 b.m0.2]:=by rw [rdN_of gg (by simp)];rfl
  have rp:g'.rdN h1.n 0 23=some (plainE b).cs:=by rw [rdN_of pg (by simp)];rfl
  have rq:g'.rdN h3.n 0 23=some (wantE b).cs:=by rw [rdN_of qg (by simp)];rfl
  have x0g:=x04.trans xg
  have pi:=plainE_iff b
  obtain ⟨_,h6,a6,rfl,x6⟩:=(vecMay67_ok b.m0 g').elim
  have g6:h6.get h.n=_:=(x6.get _ (H.get_lt gg)).trans gg
  have rd6:∀ o,h6.rd1 h.n o=b.cs[o]?:=fun o=>rd1_of g6
  by_cases c1:plainE b=wantE b
  ·by_cases c2:0≤b.r0∧b.r0≤2
   ·by_cases c3:0≤b.mm∧b.mm≤3
    ·by_cases c4:vecB b.m0
     ·by_cases c5:0≤b.fl∧b.fl≤2
      ·have ei:decide (InterB b)=decide (secondB b):=by rw [decide_eq_decide];exact ⟨fun h=>h.2.2.2.2.2,fun h=>⟨pi.1 c1,c2,c3,c4,c5,h⟩⟩
       simp [e3,rp,e4,rq,c1,e1,rdg,within54_ok,c2,c3,rmg,a6,c4,rd6,c5,e5,ei]
       exact ⟨rfl,x0g.trans x6⟩
      ·have ei:decide (InterB b)=false:=by rw [decide_eq_false_iff_not];exact fun h=>c5 h.2.2.2.2.1
       simp [e3,rp,e4,rq,c1,e1,rdg,within54_ok,c2,c3,rmg,a6,c4,rd6,c5,ei]
       exact ⟨rfl,x0g.trans x6⟩
     ·have ei:decide (InterB b)=false:=by rw [decide_eq_false_iff_not];exact fun h=>c4 h.2.2.2.1
      simp [e3,rp,e4,rq,c1,e1,rdg,within54_ok,c2,c3,rmg,a6,c4,ei]
      exact ⟨rfl,x0g.trans x6⟩
    ·have ei:decide (InterB b)=false:=by rw [decide_eq_false_iff_not];exact fun h=>c3 h.2.2.1
     simp [e3,rp,e4,rq,c1,e1,rdg,within54_ok,c2,c3,ei]
     exact ⟨rfl,x0g⟩
   ·have ei:decide (InterB b)=false:=by rw [decide_eq_false_iff_not];exact fun h=>c2 h.2.1
    simp [e3,rp,e4,rq,c1,e1,rdg,within54_ok,c2,ei]
    exact ⟨rfl,x0g⟩
  ·have ei:decide (InterB b)=false:=by rw [decide_eq_false_iff_not];exact fun h=>c1 (pi.2 h.1)
   simp [e3,rp,e4,rq,c1,ei]
   exact ⟨rfl,x0g⟩
theorem check11_ok (b:Bk) (key ll:Bool) (h:H):RT (fun w h'=>w=.int .i64 (if MayB key ll b then 0 else 2)∧Ext h h') (KW 11 [b.v,.bool key,.bool ll] h):=by
 obtain ⟨h1,hh1⟩:∃ z,z=h.new (.cells b.cs 45 false):=⟨_,rfl⟩
 have x1:Ext h h1:=by rw [hh1];exact (Ext.refl h).new _
 have g1:h1.get h.n=some (.cells b.cs 45 false):=by rw [hh1,get_new_same]
 have rb1:h1.rdN h.n 0 23=some b.cs:=by rw [rdN_of g1 (by simp)];rfl
 have rd1:∀ o,h1.rd1 h.n o=b.cs[o]?:=fun o=>rd1_of g1
 obtain ⟨_,h2,a2,rfl,x2⟩:=(shaped27_ok b h1).elim
 have g2:h2.get h.n=_:=(x2.get _ (H.get_lt g1)).trans g1
 have rb2:h2.rdN h.n 0 23=some b.cs:=by rw [rdN_of g2 (by simp)];rfl
 have rd2:∀ o,h2.rd1 h.n o=b.cs[o]?:=fun o=>rd1_of g2
 rw [w11,f11,s11]
 by_cases c1:ShapeB b
 rotate_left
 ·have e:¬ MayB key ll b:=fun h=>c1 h.1
  cases ci:b.inter <;> simp [bx,← hh1,rb1,rd1,ci,a2,c1,e] <;> exact ⟨rfl,x1.trans x2⟩
 by_cases c2:b.inter=true∧key=true
 ·have e:¬ MayB key ll b:=fun h=>h.2.1 c2
  simp [bx,← hh1,rb1,rd1,c2.1,c2.2,a2,c1,rd2,e]
  simp [c2.2] at e
  exact ⟨by rw [if_neg e],x1.trans x2⟩
 obtain ⟨_,h3,a3,rfl,x3⟩:=(sized37_ok c1 ll h2).elim
 have g3:h3.get h.n=_:=(x3.get _ (H.get_lt g2)).trans g2
 have rb3:h3.rdN h.n 0 23=some b.cs:=by rw [rdN_of g3 (by simp)];rfl
 have x03:=(x1.trans x2).trans x3
 by_cases c3:SizeB ll b
 rotate_left
 ·have e:¬ MayB key ll b:=fun h=>c3 h.2.2.1
  cases ci:b.inter with
  | true =>
   have ck:key=false:=by cases h:key with
    | false=>rfl
    | true=>exact (c2 ⟨ci,h⟩).elim
   subst ck
   simp [bx,← hh1,rb1,rd1,ci,a2,c1,rd2,rb2,a3,c3,e]
   exact ⟨rfl,x03⟩
  | false =>
   simp [bx,← hh1,rb1,rd1,ci,a2,c1,rd2,rb2,a3,c3,e]
   exact ⟨rfl,x03⟩
 cases ci:b.inter with
 | true =>
  have ck:key=false:=by cases h:key with
   | false=>rfl
   | true=>exact (c2 ⟨ci,h⟩).elim
  subst ck
  obtain ⟨_,h4,a4,rfl,x4⟩:=(inter35_ok b h3).elim
  have e:MayB false ll b ↔ InterB b:=⟨fun h=>by have:=h.2.2.2;rw [ci] at this;exact this,fun h=>⟨c1,by simp,c3,by rw [ci];exact h⟩⟩
  by_cases c4:InterB b
  ·simp [bx,← hh1,rb1,rd1,ci,a2,c1,rd2,rb2,a3,c3,rb3,cdy_fn,a4,c4,e]
   exact ⟨rfl,x03.trans x4⟩
  ·simp [bx,← hh1,rb1,rd1,ci,a2,c1,rd2,rb2,a3,c3,rb3,cdy_fn,a4,c4,e]
   exact ⟨rfl,x03.trans x4⟩
 | false =>
  obtain ⟨_,h4,a4,rfl,x4⟩:=(intra36_ok b h3).elim
  have e:MayB key ll b ↔ IntraB b:=⟨fun h=>by have:=h.2.2.2;rw [ci] at this;exact this,fun h=>⟨c1,by rw [ci];simp,c3,by rw [ci];exact h⟩⟩
  by_cases c4:IntraB b
  ·simp [bx,← hh1,rb1,rd1,ci,a2,c1,rd2,rb2,a3,c3,rb3,cdy_fn,a4,c4,e]
   exact ⟨rfl,x03.trans x4⟩
  ·simp [bx,← hh1,rb1,rd1,ci,a2,c1,rd2,rb2,a3,c3,rb3,cdy_fn,a4,c4,e]
   exact ⟨rfl,x03.trans x4⟩
end Go.Proofs.Ytbkmdnmncaakdaa
