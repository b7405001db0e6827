import Derived.Test.YtbkmdnmncaakdaaPaMi
set_option linter.unusedVariables false
set_option linter.unusedSimpArgs false
set_option maxRecDepth 20000
namespace Go.Proofs.Ytbkmdnmncaakdaa
open Go Go.Zf
open Go.Zf (wi64)
def twoC (p:Int × Int):List V:=[.int .i64 p.1,.int .i64 p.2]
theorem two_gen:∀ (l:List (Int × Int)),(l.flatMap twoC).length=l.length*2∧∀ (n:Nat) (p:Int × Int),l[n]?=some p→((l.flatMap twoC).drop (n*2)).take 2=twoC p:=by
 intro l
 induction l with
 | nil=>exact ⟨rfl,fun n p h=>by simp at h⟩
 | cons x l ih =>
  refine ⟨by rw [List.flatMap_cons,List.length_append,ih.1,List.length_cons];show 2+_=_;omega,fun n p h=>?_⟩
  rw [List.flatMap_cons]
  cases n with
  | zero=>simp at h;subst h;rfl
  | succ n =>
   have e:(n+1)*2=2+n*2:=by omega
   rw [e,← List.drop_drop,List.drop_left' (show (twoC x).length=2 from rfl)]
   exact ih.2 n p (by simpa using h)
@[simp] theorem bs_two (h:H) (t:Nat) (x y:V) (a b:Int):bs h t 1 [x,y] [(some (0,2),.agg [.int .i64 a,.int .i64 b])]=some (.sl h.n 0 1 (.ex 1),h.new (.cells [.int .i64 a,.int .i64 b] t false)):=id rfl
@[simp] theorem bs_bk (h:H) (t:Nat) (b:Bk):bs h t 1 bkZ.cs [(some (0,23),.agg b.cs)]=some (.sl h.n 0 1 (.ex 1),h.new (.cells b.cs t false)):=id rfl
theorem first1 {h:H} {b z:Nat} {l:List V} {t:TypeId} {ro:Bool} (hb:h.get b=some (.cells l t ro)) (hl:l.length=z):firstV h z 1 (.sl b 0 1 (.ex 1))=some l:=by
 unfold firstV
 simp only [Nat.one_mul]
 rw [rdN_of hb (by omega),List.drop_zero,List.take_of_length_le (by omega)]
def Known (b:Bk) (G:Gr):Prop:=∃ q ∈ cellsB b,findN q G.cs ≠ none
abbrev K12:List Nat:=[0,1,3,4,5,6,7,9,11,104,105,106]
def ownL (b:Bk) (j i:Nat):List (Int × Int):=allL (b.x / 8) (b.y / 8) (b.w / 8).toNat j ++ rowL (b.x / 8) (b.y / 8+(j:Nat)) i
structure I12 (h1:H) (g p:Nat) (b:Bk) (G:Gr) (L:List (Int × Int)) (e:E) (h:H):Prop where
 xx:Ext h1 h
 no:∀ q ∈ L,findN q G.cs=none
 own:GrowV h1.n h (e.s K12 5) 99 2 (L.flatMap twoC) L.length
 e0:e.s K12 0=.ptr g 0
 e3:e.s K12 3=.ptr p 0
structure InB (b:Bk):Prop where
 sh:ShapeB b
 i1:inT b.x b.y
 i2:inT (b.x+b.w - 1) (b.y+b.h - 1)
theorem InB.nums {b:Bk} (a:InB b):∃ X Y c r:Nat,b.x=8*(X:Int)∧b.y=8*(Y:Int)∧b.w=8*(c:Int)∧b.h=8*(r:Int)∧b.x / 8=X∧b.y / 8=Y∧(b.w / 8).toNat=c∧(b.h / 8).toNat=r∧X+c≤8∧Y+r≤8∧1≤c∧1≤r:=by
 obtain ⟨⟨hx,hy,hw,hh,_⟩,i1,i2⟩:=a
 unfold placeB at hx hy
 unfold sideB at hw hh
 unfold inT at i1 i2
 refine ⟨(b.x / 8).toNat,(b.y / 8).toNat,(b.w / 8).toNat,(b.h / 8).toNat,?_,?_,?_,?_,?_,?_,rfl,rfl,?_,?_,?_,?_⟩ <;> omega
theorem loop12_0 {D:Nat→Prop} {h1:H} {g p:Nat} {b:Bk} {G:Gr} (a:GridAt D h1 g G) (hp:h1.get p=some (.cells b.cs 45 false)) (ib:InB b) {j:Nat} (hj:j < (b.h / 8).toNat) :
  ∀ m e h,(m≤(b.w / 8).toNat∧I12 h1 g p b G (ownL b j ((b.w / 8).toNat - m)) e h∧e.s K12 6=.int .i64 (b.y+8*(j:Nat))∧e.s K12 7=.int .i64 (b.x+8*((b.w / 8).toNat - m:Nat))) →
   LS (fun m e h=>m≤(b.w / 8).toNat∧I12 h1 g p b G (ownL b j ((b.w / 8).toNat - m)) e h∧e.s K12 6=.int .i64 (b.y+8*(j:Nat))∧e.s K12 7=.int .i64 (b.x+8*((b.w / 8).toNat - m:Nat)))
    (fun s=>(s.x=.ex 3∧I12 h1 g p b G (ownL b j (b.w / 8).toNat) s.e s.h∧s.e.s K12 6=.int .i64 (b.y+8*(j:Nat)))∨(s.x=.rt∧s.e.s K12 4=.int .i64 2∧Ext h1 s.h∧Known b G)) m (l12_0 KW loopZ e h):=by
 rintro m e h ⟨hm,⟨xx,no,own,e0,e3⟩,e6,e7⟩
 obtain ⟨X,Y,c,r,bx,by_,bw,bh,dx,dy,dw,dh,l1,l2,l3,l4⟩:=ib.nums
 obtain ⟨i,hi⟩:∃ i,i=(b.w / 8).toNat - m:=⟨_,rfl⟩
 rw [← hi] at no own e7
 have gp:h.get p=_:=(xx.get _ (H.get_lt hp)).trans hp
 have rd:∀ o,h.rd1 p o=b.cs[o]?:=fun o=>rd1_of gp
 have z1:IntKind.i64.wrap (b.x+b.w)=b.x+b.w:=wi64 (by omega) (by omega)
 by_cases ci:i=c
 ·have:¬ b.x+8*(i:Int) < b.x+b.w:=by omega
  simp [l12_0,e3,rd,z1,e7,this]
  refine .inl ⟨rfl,⟨xx,by rw [dw,← ci];exact no,by simp;rw [dw,← ci];simpa using own,by simp [e0],by simp [e3]⟩,by simp [e6]⟩
 ·have hic:i < c:=by omega
  have lt:b.x+8*(i:Int) < b.x+b.w:=by omega
  have e41:=place41_ok (b.x+8*(i:Nat)) (b.y+8*(j:Nat)) ⟨by omega,by omega⟩ ⟨by omega,by omega⟩ h
  have d1:(b.x+8*(i:Int)) / 8=((X+i:Nat):Int):=by omega
  have d2:(b.y+8*(j:Int)) / 8=((Y+j:Nat):Int):=by omega
  rw [d1,d2] at e41
  obtain ⟨h2,hh2⟩:∃ z,z=h.new (.cells [.int .i64 ((X+i:Nat):Int),.int .i64 ((Y+j:Nat):Int)] 99 false):=⟨_,rfl⟩
  rw [← hh2] at e41
  have x2:Ext h h2:=by rw [hh2];exact (Ext.refl h).new _
  have a2:=a.ext (xx.trans x2)
  obtain ⟨⟨vb,mm,k1,k2,k3,k4,k5,k6,k7⟩,ok,hD⟩:=a2
  have gg:h.get g=h2.get g:=by rw [x2.get g];have:=hD g k4;have:=a.hD g k4;have:=xx.n;omega
  have q6:=rd1_of (o:=6) k1
  have q61:h.rd1 g 6=some (.map mm):=by rw [rd1_of (gg.trans k1)];rfl
  have lk:=lk_ent k2 ((X+i:Nat):Int) ((Y+j:Nat):Int)
  have e41b:=place41_ok (b.x+8*(i:Nat)) (b.y+8*(j:Nat)) ⟨by omega,by omega⟩ ⟨by omega,by omega⟩ h2
  rw [d1,d2] at e41b
  obtain ⟨h3,hh3⟩:∃ z,z=h2.new (.cells [.int .i64 ((X+i:Nat):Int),.int .i64 ((Y+j:Nat):Int)] 99 false):=⟨_,rfl⟩
  rw [← hh3] at e41b
  have x3:Ext h2 h3:=by rw [hh3];exact (Ext.refl h2).new _
  obtain ⟨h4,hh4⟩:∃ z,z=h3.new (.cells [.int .i64 ((X+i:Nat):Int),.int .i64 ((Y+j:Nat):Int)] 99 false):=⟨_,rfl⟩
  have x4:Ext h3 h4:=by rw [hh4];exact (Ext.refl h3).new _
  have g4:h4.get h3.n=some (.cells [.int .i64 ((X+i:Nat):Int),.int .i64 ((Y+j:Nat):Int)] 99 false):=by rw [hh4];exact get_new_same
  have x34:=(x2.trans x3).trans x4
  have xn:=xx.n
  have x34n:=x34.n
  have ln:(ownL b j i).length=j*c+i:=by unfold ownL;rw [List.length_append,allL_len,rowL_len,dw]
  have jc:j*c≤8*8:=Nat.mul_le_mul (by omega) (by omega)
  obtain ⟨v',h5,ap,own5,n5,k5',_⟩:=apZ_grow (bytes:=16) (own.ext x34) (by omega) (y:=.sl h3.n 0 1 (.ex 1)) (m:=1) rfl (first1 g4 rfl) rfl (by rw [ln];omega)
  have z8:IntKind.i64.wrap (b.x+8*(i:Int)+8)=b.x+8*(i:Int)+8:=wi64 (by omega) (by omega)
  cases hf:findN (((X+i:Nat):Int),((Y+j:Nat):Int)) G.cs with
  | some n =>
   rw [hf] at lk
   simp [l12_0,e3,rd,z1,e7,lt,e0,e6,-Int.natCast_add,e41,q6,q61,lk]
   refine .inr ⟨rfl,by simp,xx.trans x2,(((X+i:Nat):Int),((Y+j:Nat):Int)),?_,by rw [hf];exact fun h=>by cases h⟩
   unfold cellsB
   rw [mem_allL]
   exact ⟨i,j,by omega,hj,by rw [dx,dy];simp⟩
  | none =>
   rw [hf] at lk
   simp [l12_0,e3,rd,z1,e7,lt,e0,e6,-Int.natCast_add,e41,q6,q61,lk,e41b,← hh4,ap,z8]
   have own_succ:ownL b j (i+1)=ownL b j i ++ [(((X+i:Nat):Int),((Y+j:Nat):Int))]:=by
    unfold ownL
    rw [rowL_succ,List.append_assoc,dx,dy]
    simp
   refine ⟨m - 1,by omega,by omega,?_,by simp [e6],by simp;omega⟩
   rw [show (b.w / 8).toNat - (m - 1)=i+1 by omega,own_succ]
   refine ⟨⟨by omega,fun q hq=>?_⟩,fun q hq=>?_,by simp [List.flatMap_append];simpa [twoC] using own5,by simp [e0],by simp [e3]⟩
   ·rw [k5' q (by omega) (fun o n k e=>by have:=own.fresh _ _ _ _ e;omega),x34.get q (by omega),xx.get q hq]
   ·rcases List.mem_append.1 hq with hq | hq
    ·exact no q hq
    ·rw [List.mem_singleton.1 hq];exact hf
theorem loop12_1 {D:Nat→Prop} {h1:H} {g p:Nat} {b:Bk} {G:Gr} (a:GridAt D h1 g G) (hp:h1.get p=some (.cells b.cs 45 false)) (ib:InB b) :
  ∀ m e h,(m≤(b.h / 8).toNat∧I12 h1 g p b G (ownL b ((b.h / 8).toNat - m) 0) e h∧e.s K12 6=.int .i64 (b.y+8*((b.h / 8).toNat - m:Nat))) →
   LS (fun m e h=>m≤(b.h / 8).toNat∧I12 h1 g p b G (ownL b ((b.h / 8).toNat - m) 0) e h∧e.s K12 6=.int .i64 (b.y+8*((b.h / 8).toNat - m:Nat)))
    (fun s=>(s.x=.ex 1∧I12 h1 g p b G (cellsB b) s.e s.h)∨(s.x=.rt∧s.e.s K12 4=.int .i64 2∧Ext h1 s.h∧Known b G)) m (l12_1 KW loopZ e h):=by
 rintro m e h ⟨hm,⟨xx,no,own,e0,e3⟩,e6⟩
 obtain ⟨X,Y,c,r,bx,by_,bw,bh,dx,dy,dw,dh,l1,l2,l3,l4⟩:=ib.nums
 obtain ⟨j,hj⟩:∃ j,j=(b.h / 8).toNat - m:=⟨_,rfl⟩
 rw [← hj] at no own e6
 have gp:h.get p=_:=(xx.get _ (H.get_lt hp)).trans hp
 have rd:∀ o,h.rd1 p o=b.cs[o]?:=fun o=>rd1_of gp
 have z1:IntKind.i64.wrap (b.y+b.h)=b.y+b.h:=wi64 (by omega) (by omega)
 have own0:ownL b j 0=allL (b.x / 8) (b.y / 8) (b.w / 8).toNat j:=by simp [ownL,rowL]
 by_cases cj:j=r
 ·have:¬ b.y+8*(j:Int) < b.y+b.h:=by omega
  have ec:cellsB b=ownL b j 0:=by rw [own0];unfold cellsB;rw [cj,dh]
  simp [l12_1,e3,rd,z1,e6,this]
  refine .inl ⟨rfl,⟨xx,by rw [ec];exact no,by rw [ec];simpa using own,by simp [e0],by simp [e3]⟩⟩
 ·have hjr:j < (b.h / 8).toNat:=by omega
  have lt:b.y+8*(j:Int) < b.y+b.h:=by omega
  have z8:IntKind.i64.wrap (b.y+8*(j:Int)+8)=b.y+8*(j:Int)+8:=wi64 (by omega) (by omega)
  simp [l12_1,e3,rd,z1,e6,lt]
  refine loop_in (C:=fun o=>LS _ _ m (sq (blk 2 (blk 3 o)) _)) _ _ (loop12_0 a hp ib hjr) (b.w / 8).toNat ⟨Nat.le_refl _,⟨xx,by rw [Nat.sub_self];exact no,by rw [Nat.sub_self];simpa using own,by simp [e0],by simp [e3]⟩,by simp [e6],by simp⟩ ?_
  rintro ⟨sx,se,sh⟩ (⟨s1,⟨yy,no',own',f0,f3⟩,f6⟩ | ⟨s1,f4,yy,kn⟩)
  ·simp only at s1 yy own' f0 f3 f6
   subst s1
   simp [f6,z8]
   have ec:ownL b (j+1) 0=ownL b j (b.w / 8).toNat:=by unfold ownL;rw [allL_succ];simp [rowL]
   refine ⟨m - 1,by omega,by omega,?_,by simp;omega⟩
   rw [show (b.h / 8).toNat - (m - 1)=j+1 by omega,ec]
   exact ⟨yy,no',by simpa using own',by simp [f0],by simp [f3]⟩
  ·simp only at s1 f4 yy
   subst s1
   simp
   exact .inr ⟨rfl,f4,yy,kn⟩
structure J12 (h2:H) (g m:Nat) (cs:List ((Int × Int) × Nat)) (n:Nat) (ob p:Nat) (L:List (Int × Int)) (i:Nat) (e:E) (h:H):Prop where
 n_:h2.n≤h.n
 get:∀ c,c < h2.n→c ≠ m→h.get c=h2.get c
 mp:h.get m=some (.map ((cs ++ (L.take i).map fun q=>(q,n)).map entV))
 e0:e.s K12 0=.ptr g 0
 e3:e.s K12 3=.ptr p 0
 e104:e.s K12 104=.sl ob 0 L.length (.op 2)
 e105:e.s K12 105=.int .i64 (L.length:Nat)
 e106:e.s K12 106=.int .i64 (i:Nat)
theorem loop12_2 {h2:H} {g m ob p n:Nat} {cs:List ((Int × Int) × Nat)} {L:List (Int × Int)} {vb:V} (hg:h2.rd1 g 6=some (.map m)) (hg5:h2.rd1 g 5=some vb) (hvb:lnS vb=some (.int .i64 (n:Nat))) (hvs:V.same vb vb=true) (gm:g ≠ m) (gl:g < h2.n) (ml:m < h2.n)
  (hob:h2.get ob=some (.cells (L.flatMap twoC) 99 false)) (om:ob ≠ m) (nd:L.Nodup) (no:∀ q ∈ L,findN q cs=none) (hL:L.length≤1000) :
  ∀ k e h,(k≤L.length∧J12 h2 g m cs n ob p L (L.length - k) e h)→LS (fun k e h=>k≤L.length∧J12 h2 g m cs n ob p L (L.length - k) e h) (fun s=>s.x=.ex 5∧J12 h2 g m cs n ob p L L.length s.e s.h) k (l12_2 KW loopZ e h):=by
 rintro k e h ⟨hk,hn,get,mp,e0,e3,e104,e105,e106⟩
 obtain ⟨i,hi⟩:∃ i,i=L.length - k:=⟨_,rfl⟩
 rw [← hi] at mp e106
 by_cases ci:i=L.length
 ·subst ci
  simp [l12_2,e106,e105]
  exact ⟨rfl,hn,get,mp,by simp [e0],by simp [e3],by simp [e104],by simp [e105],by simp [e106]⟩
 ·have hil:i < L.length:=by omega
  have hil':(i:Int) < L.length:=by omega
  obtain ⟨⟨x,y⟩,hq⟩:∃ q,L[i]?=some q:=⟨_,List.getElem?_eq_getElem hil⟩
  obtain ⟨t1,t2⟩:=two_gen L
  have hob':h.get ob=_:=(get ob (H.get_lt hob) om).trans hob
  have rd:h.rdN ob (i*2) 2=some [.int .i64 x,.int .i64 y]:=by rw [rdN_of hob' (by omega),t2 i _ hq];rfl
  obtain ⟨h3,hh3⟩:∃ z,z=h.new (.cells [.int .i64 x,.int .i64 y] 99 false):=⟨_,rfl⟩
  have x3:Ext h h3:=by rw [hh3];exact (Ext.refl h).new _
  have zw:(h.new (.cells [.int .i64 0,.int .i64 0] 99 false)).wrN h.n 0 [.int .i64 x,.int .i64 y]=some h3:=by rw [hh3];exact wrN_new _ _ _ _ rfl
  have r3:h3.rdN h.n 0 2=some [.int .i64 x,.int .i64 y]:=by rw [hh3];exact rdN_new _ _ _ _ _ _ (by simp)
  have x3n:=x3.n
  have gg:h3.get g=h2.get g:=by rw [x3.get g (by omega),get g gl gm]
  have q6:h3.rd1 g 6=some (.map m):=by rw [← hg];unfold H.rd1;rw [gg]
  have q5:h3.rd1 g 5=some vb:=by rw [← hg5];unfold H.rd1;rw [gg]
  have m3:h3.get m=_:=(x3.get m (by omega)).trans mp
  have hx:(x,y) ∉ L.take i:=by
   intro hm
   obtain ⟨k',hk',e⟩:=List.mem_iff_getElem.1 hm
   rw [List.length_take] at hk'
   rw [List.getElem_take] at e
   have e2:L[k']=L[i]:=by rw [e];rw [List.getElem?_eq_getElem hil] at hq;exact (Option.some.inj hq).symm
   exact (List.pairwise_iff_getElem.1 (List.nodup_iff_pairwise_ne.1 nd)) k' i (by omega) hil (by omega) e2
  have hno:findN (x,y) (cs ++ (L.take i).map fun q=>(q,n))=none:=by
   rw [findN_append,no (x,y) (List.mem_of_getElem? hq)]
   refine findN_none fun e he=>?_
   obtain ⟨q,hq',rfl⟩:=List.mem_map.1 he
   rintro rfl
   exact hx hq'
  have up:=up_ent m3 hno n
  rw [show (cs ++ (L.take i).map fun q=>(q,n)) ++ [((x,y),n)]=cs ++ (L.take (i+1)).map fun q=>(q,n) by rw [List.take_add_one,hq];simp] at up
  have z2:IntKind.i64.wrap ((i:Int)+1)=((i+1:Nat):Int):=by rw [wi64 (by omega) (by omega)];omega
  have ck1:∀ {β:Type} (z:Option β),ck (some vb) vb z=z:=fun z=>ck_eq z rfl hvs
  have hxy:L.length - (k - 1)=i+1:=by omega
  simp only [V_und_tup] at up
  simp [l12_2,e106,e105,hil,hil',e104,rd,nw,zw,r3,e0,q6,q5,hvb,up,ck1,z2,-Int.natCast_add]
  refine ⟨k - 1,by omega,by omega,?_⟩
  rw [hxy]
  exact ⟨by rw [H.n_put];omega,fun c hc hm=>by rw [get_put_ne hm,x3.get c (by omega),get c hc hm],by rw [get_put_same (by omega)];simp [List.map_take],by simp [e0],by simp [e3],by simp [e104],by simp [e105],by simp⟩
theorem gput12_ok {D:Nat→Prop} {h:H} {g:Nat} {G:Gr} (a:GridAt D h g G) {b:Bk} (sh:ShapeB b) (hv:vecB b.m0∧vecB b.m1) (hn:G.bs.length < 100000) :
  RT (fun w h'=>w=.int .i64 (putP G b).2∧GridAt (grow D h h') h' g (putP G b).1∧Mod D h h') (KW 12 [.ptr g 0,b.v] h):=by
 obtain ⟨h1,hh1⟩:∃ z,z=h.new (.cells b.cs 45 false):=⟨_,rfl⟩
 have x1:Ext h h1:=by rw [hh1];exact (Ext.refl h).new _
 have n1:h1.n=h.n+1:=by rw [hh1,H.n_new]
 have g1:h1.get h.n=some (.cells b.cs 45 false):=by rw [hh1,get_new_same]
 have rd:∀ o,h1.rd1 h.n o=b.cs[o]?:=fun o=>rd1_of g1
 have a1:=a.ext x1
 have e38:=none38_ok a1
 obtain ⟨⟨px0,px1,px2⟩,⟨py0,py1,py2⟩,sw,sh',smx⟩:=sh
 have bw:8≤b.w∧b.w≤64:=by unfold sideB at sw;omega
 have bh:8≤b.h∧b.h≤64:=by unfold sideB at sh';omega
 have t1:=tmod8 px0 px2
 have t2:=tmod8 py0 py2
 have grows:∀ {h':H},Ext h h'→GridAt (grow D h h') h' g G:=fun {h'} x=>by
  obtain ⟨⟨vb,m,k1,k2,k3,k4,k5,k6,k7⟩,ok,hD⟩:=a
  have xn:=x.n
  exact ⟨⟨vb,m,by rw [x.get g (hD g k4),k1],by rw [x.get m (hD m k5),k2],k3.ext x,.inl k4,.inl k5,k6,fun c o n k e=>⟨.inl (k7 c o n k e).1,(k7 c o n k e).2⟩⟩,ok,fun b hb=>by
   rcases hb with hb | hb
   ·have:=hD b hb;omega
   ·exact hb.2⟩
 obtain ⟨_,h2,a2,rfl,x2⟩:=(side39_ok b.w h1).elim
 obtain ⟨_,h3,a3,rfl,x3⟩:=(side39_ok b.h h2).elim
 simp only [sw,sh',decide_true] at a2 a3
 have x13:=x2.trans x3
 have x03:=x1.trans x13
 have g2:h2.get h.n=_:=(x2.get _ (H.get_lt g1)).trans g1
 have g3:h3.get h.n=_:=(x3.get _ (H.get_lt g2)).trans g2
 have rd2:∀ o,h2.rd1 h.n o=b.cs[o]?:=fun o=>rd1_of g2
 have rd3:∀ o,h3.rd1 h.n o=b.cs[o]?:=fun o=>rd1_of g3
 have e40:=in40_ok (a.ext x03) (x:=b.x) (y:=b.y) (by omega) (by omega)
 have e40b:=in40_ok (a.ext x03) (x:=b.x+b.w - 1) (y:=b.y+b.h - 1) (by omega) (by omega)
 have z1:IntKind.i64.wrap (b.x+b.w)=b.x+b.w:=wi64 (by omega) (by omega)
 have z2:IntKind.i64.wrap (b.x+b.w - 1)=b.x+b.w - 1:=wi64 (by omega) (by omega)
 have z3:IntKind.i64.wrap (b.y+b.h)=b.y+b.h:=wi64 (by omega) (by omega)
 have z4:IntKind.i64.wrap (b.y+b.h - 1)=b.y+b.h - 1:=wi64 (by omega) (by omega)
 rw [w12,f12,s12]
 by_cases c1:inT b.x b.y
 rotate_left
 ·have ep:putP G b=(G,2):=by unfold putP;rw [if_neg (fun h=>c1 h.1)]
  rw [ep]
  simp [bx,← hh1,e38,rd,t1,t2,a2,rd2,a3,rd3,e40,c1]
  exact ⟨rfl,grows x03,Mod.of x03⟩
 by_cases c2:inT (b.x+b.w - 1) (b.y+b.h - 1)
 rotate_left
 ·have ep:putP G b=(G,2):=by unfold putP;rw [if_neg (fun h=>c2 h.2)]
  rw [ep]
  simp [bx,← hh1,e38,rd,t1,t2,a2,rd2,a3,rd3,e40,c1,z1,z2,z3,z4,e40b,c2]
  exact ⟨rfl,grows x03,Mod.of x03⟩
 have ib:InB b:=⟨⟨⟨px0,px1,px2⟩,⟨py0,py1,py2⟩,sw,sh',smx⟩,c1,c2⟩
 obtain ⟨X,Y,c,r,bx_,by_,bw_,bh_,dx,dy,dw,dh,l1,l2,l3,l4⟩:=ib.nums
 simp [bx,← hh1,e38,rd,t1,t2,a2,rd2,a3,rd3,e40,c1,z1,z2,z3,z4,e40b,c2]
 refine loop_in (C:=fun o=>RT _ (fin Try.prog _ _ (sq (blk 1 o) _))) _ _ (loop12_1 (a.ext x03) g3 ib) (b.h / 8).toNat
  ⟨Nat.le_refl _,⟨Ext.refl _,by simp [ownL,rowL,allL],by simp [ownL,rowL,allL];exact GrowV.nil _ _ _ _,by simp,by simp⟩,by simp⟩ ?_
 rintro ⟨sx,se,sh⟩ (⟨s1,⟨xx,no,own,e0,e3⟩⟩ | ⟨s1,e4,xx,q,hq,hq2⟩)
 rotate_left
 ·simp only at s1 e4 xx
  subst s1
  have ep:putP G b=(G,2):=by unfold putP;rw [if_pos ⟨c1,c2⟩,if_neg (fun h=>hq2 (h q hq))]
  rw [ep]
  simp [e4]
  exact ⟨rfl,grows (x03.trans xx),Mod.of (x03.trans xx)⟩
 simp only at s1 xx own e0 e3
 subst s1
 have ep:putP G b=(⟨G.bs ++ [b],G.cs ++ (cellsB b).map fun p=>(p,G.bs.length)⟩,0):=by unfold putP;rw [if_pos ⟨c1,c2⟩,if_pos no]
 rw [ep]
 have Ll:(cellsB b).length=r*c:=by unfold cellsB;rw [allL_len,dw,dh]
 have rc:1≤r*c∧r*c≤64:=⟨Nat.mul_pos l4 l3,by have:=Nat.mul_le_mul (show r≤8 by omega) (show c≤8 by omega);omega⟩
 obtain ⟨L,hL⟩:∃ L,L=cellsB b:=⟨_,rfl⟩
 rw [← hL] at no own Ll ⊢
 have nd:L.Nodup:=by rw [hL];exact allL_nodup _ _ _ _
 obtain ⟨ob,eo,hob,hobl,hob3⟩:∃ ob,se.s K12 5=.sl ob 0 L.length (.op 2)∧sh.get ob=some (.cells (L.flatMap twoC) 99 false)∧(L.flatMap twoC).length=L.length*2∧h3.n≤ob:=by
  rcases own with ⟨_,h0,_⟩ | ⟨ob,o1,o2,o3,o4⟩
  ·omega
  ·exact ⟨ob,o1,o2,o3,o4⟩
 have x0s:=x03.trans xx
 have asx:=a.ext x0s
 obtain ⟨⟨vb,m,k1,k2,k3,k4,k5,k6,k7⟩,ok,hD⟩:=asx
 have hDg:=a.hD g k4
 have hDm:=a.hD m k5
 have x03n:=x03.n
 have hn3:h.n < h3.n:=by have:=x13.n;omega
 have xxn:=xx.n
 have q6:=rd1_of (o:=6) k1
 have q5:=rd1_of (o:=5) k1
 have lv:=k3.len
 simp [eo]
 refine loop_in (C:=fun o=>RT _ (fin Try.prog _ _ (sq (blk 5 o) _))) _ _ (loop12_2 (h2:=sh) (g:=g) (m:=m) (ob:=ob) (p:=h.n) (n:=G.bs.length) (cs:=G.cs) (L:=L) (vb:=vb) q6 q5 lv k3.same k6 (H.get_lt k1) (H.get_lt k2) hob (by omega) nd no (by omega)) L.length
  ⟨Nat.le_refl _,Nat.le_refl _,fun _ _ _=>rfl,by simp [k2],by simp [e0],by simp [e3],by simp,by simp,by simp⟩ ?_
 rintro ⟨tx,te,th⟩ ⟨s1,tn,tget,tm,e0',e3',_,_,_⟩
 simp only at s1 tn tget tm e0' e3'
 subst s1
 rw [List.take_length] at tm
 have gs:sh.get h.n=_:=(xx.get _ (by omega)).trans g3
 have gt:th.get h.n=_:=(tget _ (by omega) (by omega)).trans gs
 have tg:th.get g=_:=(tget g (by omega) k6).trans k1
 have r5:=rd1_of (o:=5) tg
 have rb:th.rdN h.n 0 23=some b.cs:=by rw [rdN_of gt (by simp)];rfl
 have k3t:GrowV 0 th vb 45 23 (G.bs.flatMap Bk.cs) G.bs.length:=k3.keep fun c o n k e=>by
  have:=k7 c o n k e
  exact tget c (by have:=a.hD c this.1;omega) this.2.2
 obtain ⟨h4,hh4⟩:∃ z,z=th.new (.cells b.cs 45 false):=⟨_,rfl⟩
 have x4:Ext th h4:=by rw [hh4];exact (Ext.refl th).new _
 have g4:h4.get th.n=some (.cells b.cs 45 false):=by rw [hh4,get_new_same]
 have x4n:=x4.n
 obtain ⟨v',h5,ap,own5,n5,k5',kv⟩:=apZ_grow (bytes:=176) (k3t.ext x4) (Nat.zero_le _) (y:=.sl th.n 0 1 (.ex 1)) (m:=1) rfl (first1 g4 (cs_len b)) rfl (by omega)
 have vbne:∀ c,c=g∨c=m→∀ o n k,vb ≠ .sl c o n k:=fun c hc o n k e=>by
  have:=k7 c o n k e
  rcases hc with rfl | rfl
  ·exact this.2.1 rfl
  ·exact this.2.2 rfl
 have g5:h5.get g=_:=(k5' g (by omega) (vbne g (.inl rfl))).trans ((x4.get g (by omega)).trans tg)
 have m5:h5.get m=_:=(k5' m (by omega) (vbne m (.inr rfl))).trans ((x4.get m (by omega)).trans tm)
 obtain ⟨h6,hh6⟩:∃ z,z=h5.put g (.cells [.bool true,.int .i64 0,.int .i64 0,.int .i64 64,.int .i64 64,v',.map m] 78 false):=⟨_,rfl⟩
 have w6:h5.wr1 g 5 v'=some h6:=by rw [wr1_of g5 (by simp),hh6];rfl
 have st6:=own5.stZ h5 g 5
 rw [w6] at st6
 have ckv:∀ {β:Type} (z:Option β),ck (some vb) vb z=z:=fun z=>ck_eq z rfl k3.same
 simp [e0',r5,e3',rb,← hh4,ap,st6,ckv]
 have hfin:∀ c,c < h.n→¬ D c→h6.get c=h.get c:=fun c hc hd=>by
  have hcg:c ≠ g:=by rintro rfl;exact hd k4
  have hcm:c ≠ m:=by rintro rfl;exact hd k5
  rw [hh6,get_put_ne hcg,k5' c (by omega) (fun o n k e=>hd (k7 c o n k e).1),x4.get c (by omega),tget c (by omega) hcm,x0s.get c hc]
 have hn6:h6.n=h5.n:=by rw [hh6,H.n_put]
 refine ⟨rfl,⟨⟨v',m,by rw [hh6,get_put_same (H.get_lt g5)],by rw [hh6,get_put_ne (Ne.symm k6),m5],?_,.inl k4,.inl k5,k6,?_⟩,⟨?_,?_,?_⟩,?_⟩,⟨by omega,hfin⟩⟩
 ·have:=own5.put (c:=g) (y:=.cells [.bool true,.int .i64 0,.int .i64 0,.int .i64 64,.int .i64 64,v',.map m] 78 false) (fun o n k e=>by
   rcases kv with ⟨rfl,_⟩ | kv
   ·exact vbne g (.inl rfl) o n k e
   ·have:=kv g o n k e;omega)
  rw [← hh6] at this
  simpa [List.flatMap_append] using this
 ·intro c o n k e
  rcases kv with ⟨rfl,_⟩ | kv
  ·exact ⟨.inl (k7 c o n k e).1,(k7 c o n k e).2⟩
  ·have h0:=kv c o n k e
   have h0':=own5.under c o n k e
   exact ⟨.inr ⟨by omega,by omega⟩,by omega,by omega⟩
 ·intro e he
  rw [List.length_append,List.length_singleton]
  rcases List.mem_append.1 he with he | he
  ·have:=ok.lt e he;omega
  ·obtain ⟨q,_,rfl⟩:=List.mem_map.1 he
   simp
 ·intro b' hb'
  rcases List.mem_append.1 hb' with hb' | hb'
  ·exact ok.vec b' hb'
  ·rw [List.mem_singleton.1 hb'];exact hv
 ·rw [List.length_append,List.length_singleton];omega
 ·rintro c (hc | hc)
  ·have:=a.hD c hc;omega
  ·omega
end Go.Proofs.Ytbkmdnmncaakdaa
