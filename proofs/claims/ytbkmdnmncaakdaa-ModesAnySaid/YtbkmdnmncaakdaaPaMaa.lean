import Derived.Test.YtbkmdnmncaakdaaPaMy
set_option linter.unusedVariables false
set_option linter.unusedSimpArgs false
set_option maxRecDepth 20000
namespace Go.Proofs.Ytbkmdnmncaakdaa
open Go Go.Zf
open Go.Zf (wi64)
open Pr (Rd)
theorem s0_fine:SOk s0:=⟨⟨by simp,by simp,by simp [at_,bev],by simp⟩,by simp,by simp,by simp⟩
abbrev blkP (wr key ll:Bool) (G:Gr) (b:Bk):Pr Bk:=blockP wr key ll (cntP Bk.skip G b.x b.y) (cntP Bk.inter G b.x b.y) (vsOf G b) (inB wr b)
theorem code_w {D:Nat→Prop} {h:H} {c m:Nat} {st:St} (C:CoderAt D h c m st) (hD:∀ b,D b→b < h.n) {s:Sr} (hsd:st.sd=wS s) (ok:SOk s) {Dg:Nat→Prop} {g:Nat} {G:Gr} (ga:GridAt Dg h g G) (dis:∀ b,Dg b→¬ D b) {b:Bk} (ig:InG G b) (hm:m+72 < 100000000) {key ll:Bool}
  (mb:MayB key ll b) (ag:AgreeB (vsOf G b) b) {l:List Op} (he:(blkP true key ll G b).ech=(some b,l)) (ho:∀ o ∈ l,o.ok) :
  RT (fun w h'=>w=.tup [b.v,.int .i64 0]∧CoderAt (grow D h h') h' c (m+72) (st.run l)∧Mod D h h') (KW 10 [.ptr c 0,.ptr g 0,b.v,.bool key,.bool ll] h):=by
 have hw:st.sd.writes=true:=by rw [hsd];rfl
 have ex:=Pr.exec_w (blkP true key ll G b) hsd ok C.ok.1 (by rw [he];exact ho)
 rw [he] at ex
 have:=code10_ok C hD ga dis ig hm (key:=key) (ll:=ll) (fun _=>⟨mb,ag⟩)
 rw [hw] at this
 refine this.mono fun w h' ce=>?_
 unfold CEnd at ce
 rw [ex] at ce
 exact ⟨ce.2.2,ce.1,ce.2.1⟩
theorem code_m {D:Nat→Prop} {h:H} {c m:Nat} {st:St} {s s' T:Sr} (hT:SOk T) (hsd:st.sd=wS s) (ok:SOk s) (so:SetOk st.S) (C:CoderAt D h c m (mateS (bytes T.1 T.2.1) s st)) (hD:∀ b,D b→b < h.n) {Dg:Nat→Prop} {g:Nat} {G:Gr} (ga:GridAt Dg h g G) (dis:∀ b,Dg b→¬ D b) {b:Bk} (ig:InG G b) (hm:m+72 < 100000000) {key ll:Bool}
  {r:Bk} (hr:shapeB b=shapeB r) {l:List Op} (he:Rd (blkP false key ll G r) (some r) l) (h1:(st.run l).sd=wS s') (h2:WithinS s' T) :
  RT (fun w h'=>w=.tup [r.v,.int .i64 0]∧CoderAt (grow D h h') h' c (m+72) (mateS (bytes T.1 T.2.1) s' (st.run l))∧Mod D h h') (KW 10 [.ptr c 0,.ptr g 0,b.v,.bool key,.bool ll] h):=by
 obtain ⟨s2,k1,k2⟩:=Pr.exec_m hT he hsd ok so ⟨s',h1,h2⟩
 have hs2:s2=s':=by
  have:=k1.symm.trans h1
  injection this with a b c
  exact Prod.ext a (Prod.ext b c)
 subst hs2
 have this:=code10_ok C hD ga dis ig hm (key:=key) (ll:=ll) (fun hw=>by cases hw)
 have ex:(blkP false key ll G b)=blkP false key ll G r:=by
  unfold blkP inB
  have e1:b.x=r.x:=(congrArg Bk.x hr:(shapeB b).x=(shapeB r).x)
  have e2:b.y=r.y:=(congrArg Bk.y hr:(shapeB b).y=(shapeB r).y)
  rw [e1,e2,vsOf_sh G hr]
  simp only [Bool.false_eq_true,if_false,hr]
 rw [← ex] at k2
 refine this.mono fun w h' ce=>?_
 have ce:CEnd D h c (m+72) ((blkP false key ll G b).exec (mateS (bytes T.1 T.2.1) s st)) w h':=ce
 unfold CEnd at ce
 rw [k2] at ce
 exact ⟨ce.2.2,ce.1,ce.2.1⟩
theorem bytes_b {m:Nat} {T:Sr} (so:SideOk m (wS T)):(bytes T.1 T.2.1).length < 140737488355329:=bytes_bound so
theorem CoderAt.cut {D:Nat→Prop} {h:H} {p m:Nat} {st:St} (a:CoderAt D h p m st):CoderAt (fun b=>D b∧b < h.n) h p m st:=a.mono fun b hb hd=>⟨hd,hb⟩
theorem awake4_ok (h:H):RT (fun w h'=>w=.bool true∧Ext h h') (KW 4 [] h):=by
 obtain ⟨_,h1,a1,v1,rfl,W1,x1⟩:=(default27_ok h).elim
 obtain ⟨_,h2,a2,p,rfl,C2,x2⟩:=(writer12_ok W1.setR defS_ok true).elim
 have C2:=C2.cut
 obtain ⟨_,h3,a3,g,rfl,G3,x3⟩:=(new8_ok h2).elim
 obtain ⟨_,h4,a4,rfl,x4⟩:=(usual13_ok h3).elim
 obtain ⟨y1,hy1⟩:∃ z,z=h4.new (.cells bkZ.cs 45 false):=⟨_,rfl⟩
 have ny1:y1.n=h4.n+1:=by rw [hy1,H.n_new]
 obtain ⟨y2,hy2⟩:∃ z,z=y1.new (.cells bkZ.cs 45 false):=⟨_,rfl⟩
 have ny2:y2.n=h4.n+2:=by rw [hy2,H.n_new,ny1]
 have ga2:y2.get h4.n=some (.cells bkZ.cs 45 false):=by rw [hy2,get_new_lt (by omega),hy1,get_new_same]
 have gb2:y2.get y1.n=some (.cells bkZ.cs 45 false):=by rw [hy2,get_new_same]
 obtain ⟨y3,hy3⟩:∃ z,z=y2.put h4.n (.cells usA.cs 45 false):=⟨_,rfl⟩
 have s45:y2.wrN h4.n 0 usA.cs=some y3:=by rw [wrN_of ga2 (by simp),hy3];rfl
 have gb3:y3.get y1.n=some (.cells bkZ.cs 45 false):=by rw [hy3,get_put_ne (by omega),gb2]
 obtain ⟨h5,hh5⟩:∃ z,z=y3.put y1.n (.cells usB.cs 45 false):=⟨_,rfl⟩
 have s46:y3.wrN y1.n 0 usB.cs=some h5:=by rw [wrN_of gb3 (by simp),hh5];rfl
 have n5:h5.n=h4.n+2:=by rw [hh5,H.n_put,hy3,H.n_put,ny2]
 have x5:Ext h4 h5:=by rw [hh5,hy3,hy2,hy1];exact (((((Ext.refl h4).new _).new _).put (Nat.le_refl _) _).put (by rw [H.n_new];omega) _)
 have m1:=x1.n
 have m2:=x2.n
 have m3:=x3.n
 have m4:=x4.n
 have gA5:h5.get h4.n=some (.cells usA.cs 45 false):=by rw [hh5,get_put_ne (by omega),hy3,get_put_same (H.get_lt ga2)]
 have gB5:h5.get (h4.n+1)=some (.cells usB.cs 45 false):=by rw [hh5,← ny1,get_put_same (H.get_lt gb3)]
 have x35:=x4.trans x5
 have x25:=x3.trans x35
 have G5:=G3.ext x35
 have C5:=C2.keep (h':=h5) x25.n fun b _ hb=>x25.get b hb
 -- the first block
 have igA:InG gr0 usA:=⟨by decide +kernel,by decide +kernel⟩
 have igB:InG gr0 usB:=⟨by decide +kernel,by decide +kernel⟩
 have agA:AgreeB (vsOf gr0 usA) usA:=fun h=>by cases h
 have agB:AgreeB (vsOf gr0 usB) usB:=fun _ h=>(h rfl).elim
 have cn:∀ wr b,blkP wr false false gr0 b=blockP wr false false 0 0 (vsOf gr0 b) (inB wr b):=fun wr b=>by unfold blkP;rw [cnt_0,cnt_0]
 obtain ⟨eA,rA⟩:=us_ech may_A agA
 obtain ⟨eB,rB⟩:=us_ech may_B agB
 have eA:(blkP true false false gr0 usA).ech=(some usA,usOps usA):=by rw [cn];exact eA
 have eB:(blkP true false false gr0 usB).ech=(some usB,usOps usB):=by rw [cn];exact eB
 have rA:Rd (blkP false false false gr0 usA) (some usA) (usOps usA):=by rw [cn];exact rA
 have rB:Rd (blkP false false false gr0 usB) (some usB) (usOps usB):=by rw [cn];exact rB
 obtain ⟨_,h6,a6,rfl,C6,M6⟩:=(code_w C5 (fun b hb=>by omega) (s:=s0) rfl s0_fine G5 (fun b hb hd=>by omega) igA (by decide) may_A agA eA rA.ok).elim
 obtain ⟨s1,hs1,ok1,wi1⟩:=run_within (usOps usA) (st:=newW defS true) (s:=s0) rfl s0_fine C5.ok.1 rA.ok
 have M6n:=M6.n
 have gA6:h6.get h4.n=_:=(M6.get _ (by omega) (fun hd=>by omega)).trans gA5
 have gB6:h6.get (h4.n+1)=_:=(M6.get _ (by omega) (fun hd=>by omega)).trans gB5
 have G6:=G5.keep M6.n fun b hb=>M6.get b (by omega) (fun hd=>by omega)
 obtain ⟨st1,hst1⟩:∃ z,z=(newW defS true).run (usOps usA):=⟨_,rfl⟩
 have cA:st1.n=8:=by rw [hst1,run_n,cost_A];rfl
 rw [← hst1] at C6 hs1
 obtain ⟨h7,hh7⟩:∃ z,z=h6.new (.cells usA.cs 45 false):=⟨_,rfl⟩
 have n7:h7.n=h6.n+1:=by rw [hh7,H.n_new]
 have x7:Ext h6 h7:=by rw [hh7];exact (Ext.refl h6).new _
 have gX7:h7.get h6.n=some (.cells usA.cs 45 false):=by rw [hh7,get_new_same]
 have C7:=C6.keep x7.n fun b _ hb=>x7.get b hb
 have hc7:=count32_ok C7
 rw [cA] at hc7
 have hD7:∀ b,grow (fun b=>h1.n≤b∧b < h2.n) h5 h6 b→b < h7.n:=by rintro b (hb | hb) <;> omega
 -- the second
 obtain ⟨_,h8,a8,rfl,C8,M8⟩:=(code_w C7 hD7 hs1 ok1 (G6.ext x7) (fun b hb hd=>by rcases hd with hd | hd <;> omega) igB (by decide) may_B agB eB rB.ok).elim
 obtain ⟨s2,hs2,ok2,wi2⟩:=run_within (usOps usB) hs1 ok1 C7.ok.1 rB.ok
 have M8n:=M8.n
 have nD7:∀ b,h2.n≤b→b < h5.n→¬ grow (fun b=>h1.n≤b∧b < h2.n) h5 h6 b:=by rintro b h1 h2 (hb | hb) <;> omega
 have gA8:h8.get h4.n=_:=(M8.get _ (by omega) (nD7 _ (by omega) (by omega))).trans ((x7.get _ (by omega)).trans gA6)
 have gB8:h8.get (h4.n+1)=_:=(M8.get _ (by omega) (nD7 _ (by omega) (by omega))).trans ((x7.get _ (by omega)).trans gB6)
 have gX8:h8.get h6.n=_:=(M8.get _ (by omega) (by rintro (hb | hb) <;> omega)).trans gX7
 have G8:=(G6.ext x7).keep M8.n fun b hb=>M8.get b (by omega) (nD7 b (by omega) (by omega))
 obtain ⟨st2,hst2⟩:∃ z,z=st1.run (usOps usB):=⟨_,rfl⟩
 have cB:st2.n=19:=by rw [hst2,run_n,cost_B,cA];rfl
 rw [← hst2] at C8 hs2
 obtain ⟨h9,hh9⟩:∃ z,z=h8.new (.cells usB.cs 45 false):=⟨_,rfl⟩
 have n9:h9.n=h8.n+1:=by rw [hh9,H.n_new]
 have x9:Ext h8 h9:=by rw [hh9];exact (Ext.refl h8).new _
 have gY9:h9.get h8.n=some (.cells usB.cs 45 false):=by rw [hh9,get_new_same]
 have C9:=C8.keep x9.n fun b _ hb=>x9.get b hb
 obtain ⟨_,h10,a10,bv,rfl,W10,x10⟩:=(bytes19_ok C9 hs2).elim
 have hbl:=bytes_b (T:=s2) (by have:=C9.ok.2.1;rw [hs2] at this;exact this)
 obtain ⟨_,h11,a11,v11,rfl,W11,x11⟩:=(default27_ok h10).elim
 obtain ⟨_,h12,a12,r,rfl,C12,x12⟩:=(reader25_ok (W10.slb.keep x11.get) hbl W10.byte W11.setR defS_ok true).elim
 have C12:=C12.cut
 have wiT:WithinS s0 s2:=Within.trans wi1 wi2
 rw [newR_mate ok2 wiT] at C12
 have m10:=x10.n
 have m11:=x11.n
 have m12:=x12.n
 have x812:=((x9.trans x10).trans x11).trans x12
 have G12:=G8.ext x812
 have C12w:=C9.keep ((x10.trans x11).trans x12).n fun b _ hb=>((x10.trans x11).trans x12).get b hb
 have hc12:=count32_ok C12w
 rw [cB] at hc12
 have gA12:h12.get h4.n=_:=(x812.get _ (by omega)).trans gA8
 have gB12:h12.get (h4.n+1)=_:=(x812.get _ (by omega)).trans gB8
 have gX12:h12.get h6.n=_:=(x812.get _ (by omega)).trans gX8
 have gY12:h12.get h8.n=_:=(((x10.trans x11).trans x12).get _ (by omega)).trans gY9
 -- the reader
 obtain ⟨_,h13,a13,rfl,C13,M13⟩:=(code_m ok2 (st:=newW defS true) (s:=s0) (s':=s1) rfl s0_fine C5.ok.1 C12 (fun b hb=>hb.2) G12 (fun b hb hd=>by omega) (b:={ bkZ with w:=8,h:=8 }) (r:=usA) (by exact ⟨by decide +kernel,by decide +kernel⟩) (by decide) rfl rA (by rw [← hst1];exact hs1) wi2).elim
 rw [← hst1] at C13
 have M13n:=M13.n
 have gA13:h13.get h4.n=_:=(M13.get _ (by omega) (fun hd=>by omega)).trans gA12
 have gB13:h13.get (h4.n+1)=_:=(M13.get _ (by omega) (fun hd=>by omega)).trans gB12
 have gX13:h13.get h6.n=_:=(M13.get _ (by omega) (fun hd=>by omega)).trans gX12
 have gY13:h13.get h8.n=_:=(M13.get _ (by omega) (fun hd=>by omega)).trans gY12
 have G13:=G12.keep M13.n fun b hb=>M13.get b (by omega) (fun hd=>by omega)
 obtain ⟨h14,hh14⟩:∃ z,z=h13.put h6.n (.cells usA.cs 45 false):=⟨_,rfl⟩
 have n14:h14.n=h13.n:=by rw [hh14,H.n_put]
 have w14:h13.wrN h6.n 0 usA.cs=some h14:=by rw [wrN_of gX13 (by simp),hh14];rfl
 have G14:=G13.keep (h':=h14) (by omega) fun b hb=>by rw [hh14,get_put_ne (by omega)]
 have C14:=C13.keep (h':=h14) (by omega) fun b hb hb2=>by
  rw [hh14,get_put_ne]
  rintro rfl
  rcases hb with hb | hb <;> omega
 have hD14:∀ b,grow (fun b=>h11.n≤b∧b < h12.n) h12 h13 b→b < h14.n:=by rintro b (hb | hb) <;> omega
 obtain ⟨_,h15,a15,rfl,C15,M15⟩:=(code_m ok2 hs1 ok1 C7.ok.1 C14 hD14 G14 (fun b hb hd=>by rcases hd with hd | hd <;> omega) (b:={ bkZ with x:=8,w:=16,h:=8 }) (r:=usB) (by exact ⟨by decide +kernel,by decide +kernel⟩) (by decide) rfl rB (by rw [← hst2];exact hs2) (Within.refl _ _ _)).elim
 have M15n:=M15.n
 have nD14:∀ b,b < h11.n→¬ grow (fun b=>h11.n≤b∧b < h12.n) h12 h13 b:=by rintro b h1 (hb | hb) <;> omega
 have gA15:h15.get h4.n=some (.cells usA.cs 45 false):=by rw [M15.get _ (by omega) (nD14 _ (by omega)),hh14,get_put_ne (by omega),gA13]
 have gB15:h15.get (h4.n+1)=some (.cells usB.cs 45 false):=by rw [M15.get _ (by omega) (nD14 _ (by omega)),hh14,get_put_ne (by omega),gB13]
 have gX15:h15.get h6.n=some (.cells usA.cs 45 false):=by rw [M15.get _ (by omega) (nD14 _ (by omega)),hh14,get_put_same (by omega)]
 have gY15:h15.get h8.n=some (.cells usB.cs 45 false):=by rw [M15.get _ (by omega) (nD14 _ (by omega)),hh14,get_put_ne (by omega),gY13]
 obtain ⟨h16,hh16⟩:∃ z,z=h15.put h8.n (.cells usB.cs 45 false):=⟨_,rfl⟩
 have w16:h15.wrN h8.n 0 usB.cs=some h16:=by rw [wrN_of gY15 (by simp),hh16];rfl
 have rd:∀ {gg:H} {i:Nat} {b:Bk},gg.get i=some (.cells b.cs 45 false)→gg.rdN i 0 23=some b.cs:=fun {gg i b} hg=>by rw [rdN_of hg (by simp)];rfl
 have gA16:h16.get h4.n=_:=(by rw [hh16,get_put_ne (by omega)]:h16.get h4.n=h15.get h4.n).trans gA15
 have gB16:h16.get (h4.n+1)=_:=(by rw [hh16,get_put_ne (by omega)]:h16.get (h4.n+1)=h15.get (h4.n+1)).trans gB15
 have gX16:h16.get h6.n=_:=(by rw [hh16,get_put_ne (by omega)]:h16.get h6.n=h15.get h6.n).trans gX15
 have gY16:h16.get h8.n=some (.cells usB.cs 45 false):=by rw [hh16,get_put_same (by omega)]
 have bA:bl bkZ.cs [(some (2,1),.int .i64 8),(some (3,1),.int .i64 8)]=some (.agg ({ bkZ with w:=8,h:=8 }:Bk).cs):=id rfl
 have bB:bl bkZ.cs [(some (0,1),.int .i64 8),(some (2,1),.int .i64 16),(some (3,1),.int .i64 8)]=some (.agg ({ bkZ with x:=8,w:=16,h:=8 }:Bk).cs):=id rfl
 have xF:Ext h h16:=by
  refine ⟨by rw [hh16,H.n_put];omega,fun i hi=>?_⟩
  rw [hh16,get_put_ne (by omega),M15.get i (by omega) (nD14 i (by omega)),hh14,get_put_ne (by omega),M13.get i (by omega) (fun hd=>by omega),x812.get i (by omega),M8.get i (by omega) (by rintro (hb | hb) <;> omega),x7.get i (by omega),M6.get i (by omega) (fun hd=>by omega),x25.get i (by omega),x2.get i (by omega),x1.get i hi]
 rw [← ny1] at gB5 gB6 gB8 gB12 gB13 gB15 gB16
 rw [w4,f4,s4]
 have rA5:=rd gA5
 have rB7:h7.rdN y1.n 0 23=some usB.cs:=rd ((x7.get _ (by omega)).trans gB6)
 have rA12:=rd gA12
 have rB12:=rd gB12
 have rX12:=rd gX12
 have rY12:=rd gY12
 have rA16:=rd gA16
 have rB16:=rd gB16
 have rX16:=rd gX16
 have rY16:=rd gY16
 have z7:(h6.new (.cells bkZ.cs 45 false)).wrN h6.n 0 usA.cs=some h7:=by rw [hh7];exact wrN_new _ _ _ _ (by simp)
 have z9:(h8.new (.cells bkZ.cs 45 false)).wrN h8.n 0 usB.cs=some h9:=by rw [hh9];exact wrN_new _ _ _ _ (by simp)
 simp [a1,a2,a3,a4,nw,← hy1,← hy2,s45,s46,rA5,a6,z7,hc7,rB7,a8,z9,a10,a11,a12,rA12,rB12,rX12,rY12,hc12,bA,a13,w14,bB,a15,w16,rA16,rB16,rX16,rY16]
 exact ⟨rfl,xF⟩
end Go.Proofs.Ytbkmdnmncaakdaa
