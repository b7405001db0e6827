import Derived.Test.YtbkmdnmncaakdaaPaMg
set_option linter.unusedVariables false
set_option linter.unusedSimpArgs false
set_option maxRecDepth 20000
namespace Go.Proofs.Ytbkmdnmncaakdaa
open Go Go.Zf
open Go.Zf (wi64)
theorem atV_eq (o:Option Bk):atV o=.tup [(o.getD bkZ).v,.bool o.isSome]:=by cases o <;> rfl
theorem ovV_eq (o:Option Vc):ovV o=.tup [vcV (o.getD (0,0)),.bool o.isSome]:=by cases o <;> rfl
theorem pushV_eq (ref:Int) (acc:List Vc) (o:Option Bk):pushV ref acc o=(match vecP (o.getD bkZ) ref with
  | some v=>if acc.length < 2∧¬ v ∈ acc then acc ++ [v] else acc
  | none=>acc):=by
 cases o <;> rfl
abbrev K57:List Nat:=[0,1,2,4,6,7,8,9,10,12,13,15,16,94,95]
structure I57 (g0:H) (g B6 B9:Nat) (x y w ref:Int) (acc:List Vc) (j:Nat) (e:E) (h:H):Prop where
 xx:Ext g0 h
 h6:h.get B6=some (.cells [.int .i64 0,.int .i64 0,.int .i64 0,.int .i64 0] 43 false)
 h9:h.get B9=some (.cells (outC acc) 43 false)
 e0:e.s K57 0=.ptr g 0
 e2:e.s K57 2=.int .i64 ref
 e6:e.s K57 6=.ptr B6 0
 e9:e.s K57 9=.ptr B9 0
 e10:e.s K57 10=.int .i64 (acc.length:Nat)
 e94:e.s K57 94=.agg [.int .i64 (x - 1),.int .i64 y,.int .i64 x,.int .i64 (y - 1),.int .i64 (x+w),.int .i64 (y - 1),.int .i64 (x - 1),.int .i64 (y - 1)]
 e95:e.s K57 95=.int .i64 (j:Nat)
theorem loop57 {D:Nat→Prop} {g0:H} {g B6 B9:Nat} {G:Gr} (a:GridAt D g0 g G) (hB6:g0.n≤B6) (hB9:g0.n≤B9) (hB:B6 ≠ B9) {x y w ref:Int} (hx:0≤x∧x≤300) (hy:0≤y∧y≤300) (hw:0≤w∧w≤300) :
  ∀ m e h,(m≤4∧I57 g0 g B6 B9 x y w ref (accV G x y w ref (4 - m)) (4 - m) e h) →
   LS (fun m e h=>m≤4∧I57 g0 g B6 B9 x y w ref (accV G x y w ref (4 - m)) (4 - m) e h) (fun s=>s.x=.ex 1∧I57 g0 g B6 B9 x y w ref (accV G x y w ref 4) 4 s.e s.h) m (l57_0 KW loopZ e h):=by
 rintro m e h ⟨hm,xx,h6,h9,e0,e2,e6,e9,e10,e94,e95⟩
 obtain ⟨j,hj⟩:∃ j,j=4 - m:=⟨_,rfl⟩
 rw [← hj] at e10 e95 h9
 by_cases hj4:j=4
 ·subst hj4
  simp [l57_0,e95]
  exact ⟨rfl,xx,h6,h9,by simp [e0],by simp [e2],by simp [e6],by simp [e9],by simp [e10],by simp [e94],by simp [e95]⟩
 have hj4':j < 4:=by omega
 have hj5:(j:Int) < 4:=by omega
 obtain ⟨⟨u,v⟩,hp⟩:∃ p,(posV x y w)[j]?=some p:=⟨_,List.getElem?_eq_getElem (by show j < 4;exact hj4')⟩
 have hs:=accV_succ G x y w ref hp
 have al:=accV_len G x y w ref j
 obtain ⟨acc,hacc⟩:∃ acc,acc=accV G x y w ref j:=⟨_,rfl⟩
 rw [← hacc] at hs al e10 h9
 have ub:(-1000≤u∧u≤1000)∧(-1000≤v∧v≤1000):=by
  rcases (by omega:j=0∨j=1∨j=2∨j=3) with rfl | rfl | rfl | rfl <;> simp [posV] at hp <;> omega
 have ix:ixN 4 2 (.agg [.int .i64 (x - 1),.int .i64 y,.int .i64 x,.int .i64 (y - 1),.int .i64 (x+w),.int .i64 (y - 1),.int .i64 (x - 1),.int .i64 (y - 1)]) (.int .i64 (j:Nat))=some (.agg [.int .i64 u,.int .i64 v]):=by
  rcases (by omega:j=0∨j=1∨j=2∨j=3) with rfl | rfl | rfl | rfl <;> simp [posV] at hp <;> obtain ⟨rfl,rfl⟩:=hp <;> rfl
 obtain ⟨h1,hh1⟩:∃ z,z=h.new (.cells [.int .i64 u,.int .i64 v] 40 false):=⟨_,rfl⟩
 have x1:Ext h h1:=by rw [hh1];exact (Ext.refl h).new _
 have g1:h1.get h.n=some (.cells [.int .i64 u,.int .i64 v] 40 false):=by rw [hh1,get_new_same]
 have q0:=rd1_of (o:=0) g1
 have q1:=rd1_of (o:=1) g1
 have zw:(h.new (.cells [.int .i64 0,.int .i64 0] 40 false)).wrN h.n 0 [.int .i64 u,.int .i64 v]=some h1:=by rw [hh1];exact wrN_new _ _ _ _ rfl
 obtain ⟨_,h2,a2,rfl,x2⟩:=(at74_ok (a.ext (xx.trans x1)) ub.1 ub.2).elim
 rw [atV_eq] at a2
 have hs:accV G x y w ref (j+1)=pushV ref acc (G.at u v):=hs
 rw [pushV_eq] at hs
 obtain ⟨b,hb⟩:∃ b,b=(G.at u v).getD bkZ:=⟨_,rfl⟩
 rw [← hb] at a2 hs
 obtain ⟨h3,hh3⟩:∃ z,z=h2.new (.cells b.cs 45 false):=⟨_,rfl⟩
 have x3:Ext h2 h3:=by rw [hh3];exact (Ext.refl h2).new _
 have r3:h3.rdN h2.n 0 23=some b.cs:=by rw [hh3];exact rdN_new _ _ _ _ _ _ (by simp)
 have zw3:(h2.new (.cells bkZ.cs 45 false)).wrN h2.n 0 b.cs=some h3:=by rw [hh3];exact wrN_new _ _ _ _ (by simp)
 obtain ⟨_,h4,a4,rfl,x4⟩:=(vec75_ok b ref h3).elim
 rw [ovV_eq] at a4
 obtain ⟨ov,hov⟩:∃ ov,ov=vecP b ref:=⟨_,rfl⟩
 rw [← hov] at a4 hs
 obtain ⟨vv,hvv⟩:∃ vv,vv=ov.getD (0,0):=⟨_,rfl⟩
 rw [← hvv] at a4
 obtain ⟨h5,hh5⟩:∃ z,z=h4.new (.cells [.int .i64 vv.1,.int .i64 vv.2] 42 false):=⟨_,rfl⟩
 have x5:Ext h4 h5:=by rw [hh5];exact (Ext.refl h4).new _
 have r5:h5.rdN h4.n 0 2=some [.int .i64 vv.1,.int .i64 vv.2]:=by rw [hh5];exact rdN_new _ _ _ _ _ _ (by simp)
 have zw5:(h4.new (.cells [.int .i64 0,.int .i64 0] 42 false)).wrN h4.n 0 [.int .i64 vv.1,.int .i64 vv.2]=some h5:=by rw [hh5];exact wrN_new _ _ _ _ rfl
 have xh5:Ext h h5:=(((x1.trans x2).trans x3).trans x4).trans x5
 have g5:h5.get h4.n=some (.cells [.int .i64 vv.1,.int .i64 vv.2] 42 false):=by rw [hh5,get_new_same]
 have h69:h5.get B9=_:=(xh5.get _ (H.get_lt h9)).trans h9
 have h66:h5.get B6=_:=(xh5.get _ (H.get_lt h6)).trans h6
 have z2:IntKind.i64.wrap ((j:Int)+1)=((j+1:Nat):Int):=by rw [wi64 (by omega) (by omega)];omega
 have zn:IntKind.i64.wrap ((acc.length:Int)+1)=((acc.length+1:Nat):Int):=by rw [wi64 (by omega) (by omega)];omega
 have jm:4 - (m - 1)=j+1:=by omega
 have base:∀ s:Bool,s=(G.at u v).isSome→True:=fun _ _=>trivial
 cases hov2:ov with
 | none =>
  rw [hov2] at a4 hs
  simp [l57_0,e95,hj5,e94,ix,nw,zw,q0,q1,e0,a2,zw3,r3,e2,a4,zw5,r5,z2,-Int.natCast_add]
  refine ⟨m - 1,by omega,by omega,?_⟩
  rw [jm,hs]
  exact ⟨xx.trans xh5,h66,h69,by simp [e0],by simp [e2],by simp [e6],by simp [e9],by simp [e10],by simp [e94],by simp⟩
 | some vs =>
  rw [hov2] at a4 hs hvv
  have hvv:vv=vs:=hvv
  subst hvv
  simp only at hs
  by_cases c1:acc.length < 2
  ·have c1':(acc.length:Int) < 2:=by omega
   have sla:slA 2 2 (.ptr B9 0) none (some (.int .i64 (acc.length:Nat))) none=some (.sl B9 0 acc.length (.ex 2)):=by
    simp [slA,sbV,optB,show acc.length≤2 by omega,show (acc.length:Int)≤2 by omega]
   obtain ⟨_,h7,a7,rfl,x7⟩:=(contains76_ok (outC_rd h69 al) (.ex 2) (by omega) vv).elim
   have r7:h7.rdN h4.n 0 2=some [.int .i64 vv.1,.int .i64 vv.2]:=by rw [rdN_of ((x7.get _ (H.get_lt g5)).trans g5) (by simp)];rfl
   have h79:h7.get B9=_:=(x7.get _ (H.get_lt h69)).trans h69
   have h76:h7.get B6=_:=(x7.get _ (H.get_lt h66)).trans h66
   by_cases c2:vv ∈ acc
   ·rw [if_neg (by rintro ⟨_,h⟩;exact h c2)] at hs
    simp [l57_0,e95,hj5,e94,ix,nw,zw,q0,q1,e0,a2,zw3,r3,e2,a4,zw5,r5,r7,z2,e10,c1,c1',e9,sla,a7,c2,-Int.natCast_add]
    refine ⟨m - 1,by omega,by omega,?_⟩
    rw [jm,hs]
    exact ⟨(xx.trans xh5).trans x7,h76,h79,by simp [e0],by simp [e2],by simp [e6],by simp [e9],by simp [e10],by simp [e94],by simp⟩
   ·rw [if_pos ⟨c1,c2⟩] at hs
    obtain ⟨h8,hh8⟩:∃ z,z=h7.put B9 (.cells (outC (acc ++ [vv])) 43 false):=⟨_,rfl⟩
    have wr8:h7.wrN B9 (acc.length*2) [.int .i64 vv.1,.int .i64 vv.2]=some h8:=by
     rw [wrN_of h79 (by show _≤4;simp only [List.length_cons,List.length_nil];omega),outC_push c1,hh8]
    have x8:Ext g0 h8:=by rw [hh8];exact ((xx.trans xh5).trans x7).put hB9 _
    have h89:h8.get B9=some (.cells (outC (acc ++ [vv])) 43 false):=by rw [hh8,get_put_same (H.get_lt h79)]
    have h86:h8.get B6=_:=(by rw [hh8,get_put_ne hB]:h8.get B6=h7.get B6).trans h76
    simp [l57_0,e95,hj5,e94,ix,nw,zw,q0,q1,e0,a2,zw3,r3,e2,a4,zw5,r5,r7,z2,e10,c1,c1',e9,sla,a7,c2,wr8,zn,-Int.natCast_add]
    refine ⟨m - 1,by omega,by omega,?_⟩
    rw [jm,hs]
    exact ⟨x8,h86,h89,by simp [e0],by simp [e2],by simp [e6],by simp [e9],by simp,by simp [e94],by simp⟩
  ·have c1':¬ (acc.length:Int) < 2:=by omega
   rw [if_neg (by rintro ⟨h,_⟩;exact c1 h)] at hs
   simp [l57_0,e95,hj5,e94,ix,nw,zw,q0,q1,e0,a2,zw3,r3,e2,a4,zw5,r5,z2,e10,c1',-Int.natCast_add]
   refine ⟨m - 1,by omega,by omega,?_⟩
   rw [jm,hs]
   exact ⟨xx.trans xh5,h66,h69,by simp [e0],by simp [e2],by simp [e6],by simp [e9],by simp [e10],by simp [e94],by simp⟩
theorem vecs57_ok {D:Nat→Prop} {h:H} {g:Nat} {G:Gr} (a:GridAt D h g G) {x y w hh ref:Int} (p:pl8 x y) (hi:inT x y) (hw:sideB w) (hr:0≤ref∧ref≤2) :
  RT (fun r h'=>r=.tup [.agg (outC (accV G x y w ref 4)),.int .i64 ((accV G x y w ref 4).length:Nat),.int .i64 0]∧Ext h h') (KW 57 [.ptr g 0,.agg [.int .i64 x,.int .i64 y,.int .i64 w,.int .i64 hh],.int .i64 ref] h):=by
 obtain ⟨p1,p2,p3,p4,p5,p6⟩:=p
 have hw':8≤w∧w≤64∧w % 8=0:=by unfold sideB at hw;omega
 obtain ⟨h1,hh1⟩:∃ z,z=h.new (.cells [.int .i64 x,.int .i64 y,.int .i64 w,.int .i64 hh] 39 false):=⟨_,rfl⟩
 obtain ⟨h2,hh2⟩:∃ z,z=h1.new (.cells [.int .i64 0,.int .i64 0,.int .i64 0,.int .i64 0] 43 false):=⟨_,rfl⟩
 obtain ⟨h3,hh3⟩:∃ z,z=h2.new (.cells [.int .i64 0,.int .i64 0,.int .i64 0,.int .i64 0] 43 false):=⟨_,rfl⟩
 have n1:h1.n=h.n+1:=by rw [hh1,H.n_new]
 have n2:h2.n=h1.n+1:=by rw [hh2,H.n_new]
 have x3:Ext h h3:=by rw [hh3,hh2,hh1];exact (((Ext.refl h).new _).new _).new _
 have g4:h3.get h.n=some (.cells [.int .i64 x,.int .i64 y,.int .i64 w,.int .i64 hh] 39 false):=by rw [hh3,get_new_lt (by omega),hh2,get_new_lt (by omega),hh1,get_new_same]
 have g6:h3.get h1.n=some (.cells [.int .i64 0,.int .i64 0,.int .i64 0,.int .i64 0] 43 false):=by rw [hh3,get_new_lt (by omega),hh2,get_new_same]
 have g9:h3.get h2.n=some (.cells [.int .i64 0,.int .i64 0,.int .i64 0,.int .i64 0] 43 false):=by rw [hh3,get_new_same]
 have e38:=none38_ok (a.ext x3)
 have e40:=in40_ok (a.ext x3) (x:=x) (y:=y) (by omega) (by omega)
 have t1:=tmod8 p1 p3
 have t2:=tmod8 p4 p6
 have t3:=tmod8 (show 0≤w by omega) hw'.2.2
 have z1:IntKind.i64.wrap (x - 1)=x - 1:=wi64 (by omega) (by omega)
 have z2:IntKind.i64.wrap (y - 1)=y - 1:=wi64 (by omega) (by omega)
 have z3:IntKind.i64.wrap (x+w)=x+w:=wi64 (by omega) (by omega)
 have q0:=rd1_of (o:=0) g4
 have q1:=rd1_of (o:=1) g4
 have q2:=rd1_of (o:=2) g4
 rw [w57,f57,s57]
 simp [nw,bx,← hh1,← hh2,← hh3,e38,e40,q0,q1,q2,t1,t2,t3,hi,z1,z2,z3,show ¬ w < 8 by omega,show ¬ 64 < w by omega,show ¬ ref < 0 by omega,show ¬ 2 < ref by omega]
 refine loop_in (C:=fun o=>RT _ (fin Try.prog _ _ (sq (blk 1 o) _))) _ _ (loop57 a (B6:=h1.n) (B9:=h2.n) (ref:=ref) (by omega) (by omega) (by omega) (x:=x) (y:=y) (w:=w) ⟨p1,by omega⟩ ⟨p4,by omega⟩ ⟨by omega,by omega⟩) 4
  ⟨Nat.le_refl _,x3,g6,g9,by simp,by simp,by simp,by simp,by simp [accV],by simp,by simp⟩ ?_
 rintro ⟨sx,se,sh⟩ ⟨s1,xx,h6,h9,e0,e2,e6,e9,e10,e94,e95⟩
 simp only at s1 xx h6 h9 e0 e2 e6 e9 e10 e94 e95
 subst s1
 obtain ⟨acc,hacc⟩:∃ acc,acc=accV G x y w ref 4:=⟨_,rfl⟩
 rw [← hacc] at h9 e10 ⊢
 have r9:sh.rdN h2.n 0 4=some (outC acc):=by rw [rdN_of h9 (by show _≤4;omega)];rfl
 have w6:sh.wrN h1.n 0 (outC acc)=some (sh.put h1.n (.cells (outC acc) 43 false)):=by rw [wrN_of h6 (by show 0+4≤4;omega)];rfl
 have r6:(sh.put h1.n (.cells (outC acc) 43 false)).rdN h1.n 0 4=some (outC acc):=by rw [rdN_of (get_put_same (H.get_lt h6)) (by show _≤4;omega)];rfl
 have l4:(outC acc).length=4:=rfl
 simp [e9,r9,e6,w6,e10,r6,l4]
 exact ⟨rfl,xx.put (by omega) _⟩
end Go.Proofs.Ytbkmdnmncaakdaa
