import Derived.Test.YtbajipmhnoakeaaGreatPnHs
set_option linter.unusedVariables false
set_option linter.unusedSimpArgs false
set_option maxRecDepth 20000
namespace Go.Proofs.YtbajipmhnoakeaaGreat
open Go Go.Zf Go.RowKit Go.WideShapes
open Go.Zf (wi64)
def big1:List Int:=List.replicate 15 0 ++ [1048577]
def big2:List Int:=[0,0,0,1048576,0,0,0,0,0,0,0,0,0,0,0,-1048576]
def ds1 (T A B:Nat):List (Dg × V):=[(⟨5,0,0,[]⟩,.nils),(⟨4,3,0,three⟩,.sl T 0 16 (.ex 16)),(⟨4,-1,0,three⟩,.sl T 0 16 (.ex 16)),(⟨4,0,3,three⟩,.sl T 0 16 (.ex 16)),(⟨4,0,0,three.take 15⟩,.sl T 0 15 (.ex 16)),(⟨4,0,0,big1⟩,.sl A 0 16 (.ex 16)),(⟨4,0,0,big2⟩,.sl B 0 16 (.ex 16)),(⟨8,0,0,three⟩,.sl T 0 16 (.ex 16))]
def ds2:List (Dg × V):=[(⟨4,0,0,[]⟩,.nils),(⟨64,0,0,[]⟩,.nils),(⟨5,0,0,[]⟩,.nils),(⟨4,0,-1,[]⟩,.nils)]
def ds3:List (Dg × V):=[(⟨4,0,0,[]⟩,.nils),(⟨8,1,0,[]⟩,.nils),(⟨16,0,2,[]⟩,.nils),(⟨32,0,0,[]⟩,.nils)]
theorem names5_ok (h:H):RT (fun w h'=>w=.bool true∧Ext h h') (KW 5 [] h):=by
 obtain ⟨v2,h2,c,h3,L1,g4,g5,L2,g7,a2,a3,a4,cn1,ws5,a7,fin7,rT,x7⟩:=names_a h
 -- behind both
 obtain ⟨g8,hg8⟩:∃ y,y=g7.new (.cells (intsV z16) 3 false):=⟨_,rfl⟩
 have x8:Ext g7 g8:=by rw [hg8];exact (Ext.refl _).new _
 obtain ⟨cn6,i1,i2⟩:=fin7 g8 x8
 have iz:IntsX (fun _=>False) g8 (.sl g7.n 0 16 (.ex 16)) z16:=IntsX.of (l:=z16) (by rw [hg8,get_new_same]) (fun h=>h)
 have rT8:g8.get g4.n=some (.cells (intsV three) 3 false):=by rw [x8.get _ (H.get_lt rT),rT]
 have iT:IntsX (fun _=>False) g8 (.sl g4.n 0 16 (.ex 16)) three:=IntsX.of (l:=three) rT8 (fun h=>h)
 have e1:=eqInts11_ok i1 iz (by decide)
 have e2:=eqInts11_ok i2 iT (by decide)
 rw [decide_eq_true rfl] at e1 e2
 have ms3:=msZ h3
 have ms4:=msZ g4
 have ms7:=msZ g7
 rw [← hg8] at ms7
 -- coders that are none
 have cz:=code_none (a:=.int .i64 4) (b:=.int .i64 0) (c:=.int .i64 0) (v:=.sl g4.n 0 16 (.ex 16)) (none_nil g8)
 obtain ⟨g9,hg9⟩:∃ y,y=g8.new (.cells [.nilp,.nilp,.nils,.bool false,.int .i64 0] 63 false):=⟨_,rfl⟩
 have b9:bl [.nilp,.nilp,.nils,.bool false,.int .i64 0] []=some (.agg [.nilp,.nilp,.nils,.bool false,.int .i64 0]):=rfl
 have bx9:bx g8 63 (.agg [.nilp,.nilp,.nils,.bool false,.int .i64 0])=some (.ptr g8.n 0,g9):=by rw [hg9];rfl
 have x9:Ext g8 g9:=by rw [hg9];exact (Ext.refl _).new _
 have cz9:=code_none (a:=.int .i64 5) (b:=.int .i64 9) (c:=.int .i64 9) (v:=.nils) (none_zero (h:=g9) (p:=g8.n) (by rw [hg9,get_new_same]))
 -- signs
 obtain ⟨g10,hg10⟩:∃ y,y=g9.new (.cells (intsV [-3,1]) 3 false):=⟨_,rfl⟩
 have b10:bs g9 3 2 [.int .i64 0,.int .i64 0] [(some (0,1),.int .i64 (-3)),(some (1,1),.int .i64 1)]=some (.sl g9.n 0 2 (.ex 2),g10):=by rw [hg10];rfl
 have x10:Ext g9 g10:=by rw [hg10];exact (Ext.refl _).new _
 have s10:=sign16_ok (X:=fun _=>False) (h:=g10) (v:=.sl g9.n 0 2 (.ex 2)) (l:=[-3,1]) (IntsX.of (l:=[-3,1]) (by rw [hg10,get_new_same]) (fun h=>h))
 rw [show signP [-3,1]=1 by decide] at s10
 obtain ⟨g11,hg11⟩:∃ y,y=g10.new (.cells (intsV [0,1]) 3 false):=⟨_,rfl⟩
 have b11:bs g10 3 2 [.int .i64 0,.int .i64 0] [(some (0,1),.int .i64 0),(some (1,1),.int .i64 1)]=some (.sl g10.n 0 2 (.ex 2),g11):=by rw [hg11];rfl
 have x11:Ext g10 g11:=by rw [hg11];exact (Ext.refl _).new _
 have s11:=sign16_ok (X:=fun _=>False) (h:=g11) (v:=.sl g10.n 0 2 (.ex 2)) (l:=[0,1]) (IntsX.of (l:=[0,1]) (by rw [hg11,get_new_same]) (fun h=>h))
 rw [show signP [0,1]=0 by decide] at s11
 have sn:=sign16_ok (X:=fun _=>False) (IntsX.nil' (fun _=>False) g11)
 rw [show signP []=0 by decide] at sn
 obtain ⟨g12,hg12⟩:∃ y,y=g11.new (.cells (intsV [1]) 3 false):=⟨_,rfl⟩
 have b12:bs g11 3 1 [.int .i64 0] [(some (0,1),.int .i64 1)]=some (.sl g11.n 0 1 (.ex 1),g12):=by rw [hg12];rfl
 have x12:Ext g11 g12:=by rw [hg12];exact (Ext.refl _).new _
 have s12:=sign16_ok (X:=fun _=>False) (h:=g12) (v:=.sl g11.n 0 1 (.ex 1)) (l:=[1]) (IntsX.of (l:=[1]) (by rw [hg12,get_new_same]) (fun h=>h))
 rw [show signP [1]=2 by decide] at s12
 rw [w5,f5,s5]
 simp [a2,a3,ms3,a4,cn1,ms4,ws5,a7,e1,e2,cn6,ms7,cz,b9,bx9,cz9,b10,s10,b11,s11,sn,b12,s12,gl_t]
 generalize ho:loopZ (l5_0 KW loopZ) _ _=o
 obtain ⟨e',g13,rfl,x13,e6⟩:=loopNm (h0:=g12) (T:=.sl g4.n 0 16 (.ex 16)) ho ⟨Nat.le_refl _,Ext.refl _,by simp,by simp⟩
 simp only [KNm] at e6
 -- what may not be
 have ms13:=msZ g13
 obtain ⟨g14,hg14⟩:∃ y,y=(g13.new (.cells (intsV z16) 3 false)).put g13.n (.cells ((intsV z16).set 15 (.int .i64 1048577)) 3 false):=⟨_,rfl⟩
 have ws14:(g13.new (.cells (intsV z16) 3 false)).wr1 g13.n 15 (.int .i64 1048577)=some g14:=by rw [wr1_of get_new_same (by decide),hg14]
 have x14:Ext g13 g14:=by rw [hg14];exact ((Ext.refl _).new _).put (Nat.le_refl _) _
 have r14:g14.get g13.n=some (.cells (intsV big1) 3 false):=by rw [hg14,get_put_same (by rw [H.n_new];omega)];rfl
 have ms14:=msZ g14
 obtain ⟨g15,hg15⟩:∃ y,y=(g14.new (.cells (intsV z16) 3 false)).put g14.n (.cells ((intsV z16).set 3 (.int .i64 1048576)) 3 false):=⟨_,rfl⟩
 have ws15:(g14.new (.cells (intsV z16) 3 false)).wr1 g14.n 3 (.int .i64 1048576)=some g15:=by rw [wr1_of get_new_same (by decide),hg15]
 have r15:g15.get g14.n=some (.cells ((intsV z16).set 3 (.int .i64 1048576)) 3 false):=by rw [hg15,get_put_same (by rw [H.n_new];omega)]
 obtain ⟨g16,hg16⟩:∃ y,y=g15.put g14.n (.cells (intsV big2) 3 false):=⟨_,rfl⟩
 have ws16:g15.wr1 g14.n 15 (.int .i64 (-1048576))=some g16:=by rw [wr1_of r15 (by decide),hg16];rfl
 have x16:Ext g14 g16:=by rw [hg16,hg15];exact (((Ext.refl _).new _).put (Nat.le_refl _) _).put (Nat.le_refl _) _
 have r16:g16.get g14.n=some (.cells (intsV big2) 3 false):=by rw [hg16,get_put_same (H.get_lt r15)]
 have sl15:slS 1 (.sl g4.n 0 16 (.ex 16)) none (some (.int .i64 15)) none=some (.sl g4.n 0 15 (.ex 16)):=by simp [slS,sbV,optB]
 obtain ⟨g17,hg17⟩:∃ y,y=g16.new (.cells (dCells (ds1 g4.n g13.n g14.n)) 36 false):=⟨_,rfl⟩
 have x17:Ext g16 g17:=by rw [hg17];exact (Ext.refl _).new _
 have r17:g17.get g16.n=some (.cells (dCells (ds1 g4.n g13.n g14.n)) 36 false):=by rw [hg17,get_new_same]
 obtain ⟨w,g20,a20,rfl,x20⟩:=(awake6_ok g17).elim
 have r20:g20.get g16.n=some (.cells (dCells (ds1 g4.n g13.n g14.n)) 36 false):=by rw [x20.get _ (H.get_lt r17),r17]
 have X16:Ext g8 g16:=((((x9.trans x10).trans (x11.trans x12)).trans x13).trans x14).trans x16
 have X20:Ext g8 g20:=(X16.trans x17).trans x20
 have T20:g20.get g4.n=some (.cells (intsV three) 3 false):=by rw [X20.get _ (H.get_lt rT8),rT8]
 have A20:g20.get g13.n=some (.cells (intsV big1) 3 false):=by rw [((x16.trans x17).trans x20).get _ (H.get_lt r14),r14]
 have B20:g20.get g14.n=some (.cells (intsV big2) 3 false):=by rw [(x17.trans x20).get _ (H.get_lt r16),r16]
 have wT:WV g20 (.sl g4.n 0 16 (.ex 16)) three:=wv_sl (l:=three) (r:=[]) T20 (by decide)
 have wA:WV g20 (.sl g13.n 0 16 (.ex 16)) big1:=wv_sl (l:=big1) (r:=[]) A20 (by decide)
 have wB:WV g20 (.sl g14.n 0 16 (.ex 16)) big2:=wv_sl (l:=big2) (r:=[]) B20 (by decide)
 have w15:WV g20 (.sl g4.n 0 15 (.ex 16)) (three.take 15):=wv_sl (l:=three.take 15) (r:=[0]) T20 (by decide)
 obtain ⟨w,g21,a21,rfl,x21⟩:=(writes3_ok (ad:=true) (slA_of (l:=ds1 g4.n g13.n g14.n) r20 (by simp [ds1]) (fun p hp=>by
  simp only [ds1,List.mem_cons,List.not_mem_nil,or_false] at hp
  rcases hp with rfl | rfl | rfl | rfl | rfl | rfl | rfl | rfl
  ·exact wv_nil _
  ·exact wT
  ·exact wT
  ·exact wT
  ·exact w15
  ·exact wA
  ·exact wB
  ·exact wT))).elim
 -- readers
 obtain ⟨g22,hg22⟩:∃ y,y=g21.new (.cells (dCells ds2) 36 false):=⟨_,rfl⟩
 have x22:Ext g21 g22:=by rw [hg22];exact (Ext.refl _).new _
 have rd:∀ {g:H} {b:Nat} {l:List (Dg × V)},g.get b=some (.cells (dCells l) 36 false)→l.length < 1000→(∀ p ∈ l,p.2=.nils∧p.1.l=[])→SlA g 4 (.sl b 0 l.length (.ex l.length)) (l.map (·.1)).length fun j p=>∀ x,(l.map (·.1))[j]?=some x→DoG g p x:=fun hb hl hp =>
  (slA_of hb hl fun p hq=>by obtain ⟨h1,h2⟩:=hp p hq;rw [h1,h2];exact wv_nil _).imp fun j p _ _ q x hx=>(q x hx).g
 have hnl:∀ p ∈ ds2,p.2=V.nils∧p.1.l=[]:=fun p hp=>by
  simp only [ds2,List.mem_cons,List.not_mem_nil,or_false] at hp
  rcases hp with rfl | rfl | rfl | rfl <;> exact ⟨rfl,rfl⟩
 have hnl3:∀ p ∈ ds3,p.2=V.nils∧p.1.l=[]:=fun p hp=>by
  simp only [ds3,List.mem_cons,List.not_mem_nil,or_false] at hp
  rcases hp with rfl | rfl | rfl | rfl <;> exact ⟨rfl,rfl⟩
 obtain ⟨w,g23,a23,rfl,x23⟩:=(reads4_ok (h:=g22) (bv:=.nils) (bs:=[]) (.inl ⟨rfl,rfl⟩) (by decide) (by simp) (rd (l:=ds2) (by rw [hg22,get_new_same]) (by decide) hnl)).elim
 obtain ⟨g24,hg24⟩:∃ y,y=g23.new (.cells (bytesV (List.replicate 6 255)) 5 false):=⟨_,rfl⟩
 have x24:Ext g23 g24:=by rw [hg24];exact (Ext.refl _).new _
 obtain ⟨g25,hg25⟩:∃ y,y=g24.new (.cells (dCells ds3) 36 false):=⟨_,rfl⟩
 have x25:Ext g24 g25:=by rw [hg25];exact (Ext.refl _).new _
 have r25:g25.get g23.n=some (.cells (bytesV (List.replicate 6 255)) 5 false):=by rw [x25.get _ (by rw [hg24,H.n_new];omega),hg24,get_new_same]
 obtain ⟨w,g26,a26,rfl,x26⟩:=(reads4_ok (h:=g25) (bv:=.sl g23.n 0 6 (.ex 6)) (bs:=List.replicate 6 255) (.inr ⟨_,0,_,_,_,_,rfl,r25,by decide,rfl⟩) (by decide) (fun x hx=>by rw [(List.mem_replicate.1 hx).2];decide) (rd (l:=ds3) (by rw [hg25,get_new_same]) (by decide) hnl3)).elim
 have L1:bl [.int .i64 0,.int .i64 0,.int .i64 0,.nils] [(some (0,1),.int .i64 5)]=some (.agg [.int .i64 5,.int .i64 0,.int .i64 0,.nils]):=rfl
 have L2:bl [.int .i64 0,.int .i64 0,.int .i64 0,.nils] [(some (0,1),.int .i64 4),(some (1,1),.int .i64 3),(some (3,1),.sl g4.n 0 16 (.ex 16))]=some (.agg [.int .i64 4,.int .i64 3,.int .i64 0,.sl g4.n 0 16 (.ex 16)]):=rfl
 have L3:bl [.int .i64 0,.int .i64 0,.int .i64 0,.nils] [(some (0,1),.int .i64 4),(some (1,1),.int .i64 (-1)),(some (3,1),.sl g4.n 0 16 (.ex 16))]=some (.agg [.int .i64 4,.int .i64 (-1),.int .i64 0,.sl g4.n 0 16 (.ex 16)]):=rfl
 have L4:bl [.int .i64 0,.int .i64 0,.int .i64 0,.nils] [(some (0,1),.int .i64 4),(some (2,1),.int .i64 3),(some (3,1),.sl g4.n 0 16 (.ex 16))]=some (.agg [.int .i64 4,.int .i64 0,.int .i64 3,.sl g4.n 0 16 (.ex 16)]):=rfl
 have L5:∀ b n,bl [.int .i64 0,.int .i64 0,.int .i64 0,.nils] [(some (0,1),.int .i64 4),(some (3,1),.sl b 0 n (.ex 16))]=some (.agg [.int .i64 4,.int .i64 0,.int .i64 0,.sl b 0 n (.ex 16)]):=fun _ _=>rfl
 have L8:bl [.int .i64 0,.int .i64 0,.int .i64 0,.nils] [(some (0,1),.int .i64 8),(some (3,1),.sl g4.n 0 16 (.ex 16))]=some (.agg [.int .i64 8,.int .i64 0,.int .i64 0,.sl g4.n 0 16 (.ex 16)]):=rfl
 have b17:bs g16 36 8 [.int .i64 0,.int .i64 0,.int .i64 0,.nils,.int .i64 0,.int .i64 0,.int .i64 0,.nils,.int .i64 0,.int .i64 0,.int .i64 0,.nils,.int .i64 0,.int .i64 0,.int .i64 0,.nils,.int .i64 0,.int .i64 0,.int .i64 0,.nils,.int .i64 0,.int .i64 0,.int .i64 0,.nils,.int .i64 0,.int .i64 0,.int .i64 0,.nils,.int .i64 0,.int .i64 0,.int .i64 0,.nils] [(some (0,4),.agg [.int .i64 5,.int .i64 0,.int .i64 0,.nils]),(some (4,4),.agg [.int .i64 4,.int .i64 3,.int .i64 0,.sl g4.n 0 16 (.ex 16)]),(some (8,4),.agg [.int .i64 4,.int .i64 (-1),.int .i64 0,.sl g4.n 0 16 (.ex 16)]),(some (12,4),.agg [.int .i64 4,.int .i64 0,.int .i64 3,.sl g4.n 0 16 (.ex 16)]),(some (16,4),.agg [.int .i64 4,.int .i64 0,.int .i64 0,.sl g4.n 0 15 (.ex 16)]),(some (20,4),.agg [.int .i64 4,.int .i64 0,.int .i64 0,.sl g13.n 0 16 (.ex 16)]),(some (24,4),.agg [.int .i64 4,.int .i64 0,.int .i64 0,.sl g14.n 0 16 (.ex 16)]),(some (28,4),.agg [.int .i64 8,.int .i64 0,.int .i64 0,.sl g4.n 0 16 (.ex 16)])]=some (.sl g16.n 0 8 (.ex 8),g17):=by rw [hg17];rfl
 have b22:bs g21 36 4 [.int .i64 0,.int .i64 0,.int .i64 0,.nils,.int .i64 0,.int .i64 0,.int .i64 0,.nils,.int .i64 0,.int .i64 0,.int .i64 0,.nils,.int .i64 0,.int .i64 0,.int .i64 0,.nils] [(some (0,4),.agg [.int .i64 4,.int .i64 0,.int .i64 0,.nils]),(some (4,4),.agg [.int .i64 64,.int .i64 0,.int .i64 0,.nils]),(some (8,4),.agg [.int .i64 5,.int .i64 0,.int .i64 0,.nils]),(some (12,4),.agg [.int .i64 4,.int .i64 0,.int .i64 (-1),.nils])]=some (.sl g21.n 0 4 (.ex 4),g22):=by rw [hg22];rfl
 have b24:bs g23 5 6 [.int .u8 0,.int .u8 0,.int .u8 0,.int .u8 0,.int .u8 0,.int .u8 0] [(some (0,1),.int .u8 255),(some (1,1),.int .u8 255),(some (2,1),.int .u8 255),(some (3,1),.int .u8 255),(some (4,1),.int .u8 255),(some (5,1),.int .u8 255)]=some (.sl g23.n 0 6 (.ex 6),g24):=by rw [hg24];rfl
 have b25:bs g24 36 4 [.int .i64 0,.int .i64 0,.int .i64 0,.nils,.int .i64 0,.int .i64 0,.int .i64 0,.nils,.int .i64 0,.int .i64 0,.int .i64 0,.nils,.int .i64 0,.int .i64 0,.int .i64 0,.nils] [(some (0,4),.agg [.int .i64 4,.int .i64 0,.int .i64 0,.nils]),(some (4,4),.agg [.int .i64 8,.int .i64 1,.int .i64 0,.nils]),(some (8,4),.agg [.int .i64 16,.int .i64 0,.int .i64 2,.nils]),(some (12,4),.agg [.int .i64 32,.int .i64 0,.int .i64 0,.nils])]=some (.sl g24.n 0 4 (.ex 4),g25):=by rw [hg25];rfl
 have M:∀ a,bl [.int .i64 0,.int .i64 0,.int .i64 0,.nils] [(some (0,1),.int .i64 a)]=some (.agg [.int .i64 a,.int .i64 0,.int .i64 0,.nils]):=fun _=>rfl
 have M2:∀ a b,bl [.int .i64 0,.int .i64 0,.int .i64 0,.nils] [(some (0,1),.int .i64 a),(some (1,1),.int .i64 b)]=some (.agg [.int .i64 a,.int .i64 b,.int .i64 0,.nils]):=fun _ _=>rfl
 have M3:∀ a b,bl [.int .i64 0,.int .i64 0,.int .i64 0,.nils] [(some (0,1),.int .i64 a),(some (2,1),.int .i64 b)]=some (.agg [.int .i64 a,.int .i64 0,.int .i64 b,.nils]):=fun _ _=>rfl
 simp [e6,ms13,ws14,ms14,ws15,ws16,sl15,L1,L2,L3,L4,L5,L8,b17]
 have a21':KW 3 [.sl g16.n 0 8 (.ex 8),.bool true] g20=_:=a21
 have a23':KW 4 [.nils,.sl g21.n 0 4 (.ex 4)] g22=_:=a23
 have a26':KW 4 [.sl g23.n 0 6 (.ex 6),.sl g24.n 0 4 (.ex 4)] g25=_:=a26
 simp [a20,a21',M,M2,M3,b22,a23',b24,b25,a26',gl_t]
 exact ⟨rfl,(x7.trans x8).trans ((((X20.trans x21).trans (x22.trans x23)).trans (x24.trans x25)).trans x26)⟩
theorem core5 (W:World):Calls Tryz.prog 5 #[] W fun e W'=>e=.returned (.bool true)∧Go.RowKit.Below W.heap.size W W':=by
 have a:=ArgH.empty W
 obtain ⟨w,h'',hrun,rfl,_⟩:=(names5_ok H.empty).elim
 exact law_calls (us:=[]) (callW_ok mixed kp ovC_ok hrun) a.rel .nil a.dom a.no
end Go.Proofs.YtbajipmhnoakeaaGreat
