import Derived.Test.YtbkmdnmncaakdaaPaMaa
set_option linter.unusedVariables false
set_option linter.unusedSimpArgs false
set_option maxRecDepth 20000
namespace Go.Proofs.Ytbkmdnmncaakdaa
open Go Go.Zf
open Go.Zf (wi64)
open Pr (Rd)
structure CellsAt (h:H) (v:V) (n:Nat):Prop where
 len:lnS v=some (.int .i64 (n:Nat))
 at_:∀ i:Nat,i < n→∃ (b o:Nat) (x:Int),iaS 1 v (.int .i64 (i:Nat))=some (.ptr b o)∧h.rd1 b o=some (.int .i64 x)∧b < h.n
theorem CellsAt.ext {h h':H} {v:V} {n:Nat} (a:CellsAt h v n) (x:Ext h h'):CellsAt h' v n :=
 ⟨a.len,fun i hi=>by
  obtain ⟨b,o,y,h1,h2,h3⟩:=a.at_ i hi
  exact ⟨b,o,y,h1,by rw [← h2];unfold H.rd1;rw [x.get b h3],by have:=x.n;omega⟩⟩
def cellB (n:Nat):Bk:={ bkZ with x:=8*((n % 8:Nat):Int),y:=8*((n / 8:Nat):Int),w:=8,h:=8 }
theorem cellB_in (G:Gr) {n:Nat} (hn:n < 64):InG G (cellB n):=by
 have h1:n % 8 < 8:=Nat.mod_lt _ (by decide)
 have h2:n / 8 < 8:=by omega
 refine ⟨⟨⟨?_,?_,?_⟩,⟨?_,?_,?_⟩,.inl rfl,.inl rfl,(by decide:imax 8 8≤4*imin 8 8)⟩,⟨?_,?_,?_,?_⟩⟩ <;> simp only [cellB] <;> omega
structure Tri (h0:H) (r w g:Nat) (m:Nat) (st sw:St) (s:Sr) (G:Gr) (h:H):Prop where
 xx:Ext h0 h
 ex:∃ Dr Dw Dg:Nat→Prop,CoderAt Dr h r m st∧CoderAt Dw h w m sw∧GridAt Dg h g G∧(∀ b,Dr b→h0.n≤b∧b < h.n)∧(∀ b,Dw b→h0.n≤b∧b < h.n)∧(∀ b,Dg b→h0.n≤b∧b < h.n)∧(∀ b,Dr b→¬ Dw b)∧(∀ b,Dg b→¬ Dr b∧¬ Dw b)
 rd:st.sd.writes=false
 wr:sw.sd=wS s
 ok:SOk s
 nn:st.n=sw.n
theorem Tri.ext {h0:H} {r w g m:Nat} {st sw:St} {s:Sr} {G:Gr} {h h':H} (a:Tri h0 r w g m st sw s G h) (x:Ext h h'):Tri h0 r w g m st sw s G h':=by
 obtain ⟨xx,⟨Dr,Dw,Dg,c1,c2,c3,d1,d2,d3,d4,d5⟩,rd,wr,ok,nn⟩:=a
 have:=x.n
 exact ⟨xx.trans x,⟨Dr,Dw,Dg,c1.keep x.n fun b _ hb=>x.get b hb,c2.keep x.n fun b _ hb=>x.get b hb,c3.ext x,fun b hb=>by have:=d1 b hb;omega,fun b hb=>by have:=d2 b hb;omega,fun b hb=>by have:=d3 b hb;omega,d4,d5⟩,rd,wr,ok,nn⟩
abbrev K3:List Nat:=[0,1,2,5,6,7,8,9,10,11,12,13,14,15,16,17,18,19]
structure I3 (h0:H) (cv:V) (r w g p5:Nat) (i:Nat) (e:E) (h:H):Prop where
 tri:∃ st sw s G,Tri h0 r w g (72*i) st sw s G h∧G.bs.length≤i
 e1:e.s K3 1=cv
 e5:e.s K3 5=.ptr p5 0
 e7:e.s K3 7=.ptr r 0
 e9:e.s K3 9=.ptr w 0
 e11:e.s K3 11=.ptr g 0
 e13:e.s K3 13=.int .i64 (i:Nat)
theorem bl_cell (x y:Int):bl bkZ.cs [(some (0,1),.int .i64 x),(some (1,1),.int .i64 y),(some (2,1),.int .i64 8),(some (3,1),.int .i64 8)]=some (.agg ({ bkZ with x:=x,y:=y,w:=8,h:=8 }:Bk).cs):=id rfl
theorem loop3 {h0:H} {cv:V} {N r w g p5:Nat} {key ll:Bool} (hc:CellsAt h0 cv N) (h5:h0.get p5=some (.cells [.bool key,.bool ll] 24 false)) :
  ∀ k e h,(k≤min N 64∧I3 h0 cv r w g p5 (min N 64 - k) e h)→LS (fun k e h=>k≤min N 64∧I3 h0 cv r w g p5 (min N 64 - k) e h) (fun s=>(s.x=.ex 0∧I3 h0 cv r w g p5 (min N 64) s.e s.h)∨(s.x=.rt∧s.e.s K3 6=.bool true∧Ext h0 s.h)) k (l3_0 KW loopZ e h):=by
 rintro k e h ⟨hk,⟨st,sw,s,G,⟨xx,⟨Dr,Dw,Dg,C1,C2,G3,d1,d2,d3,d4,d5⟩,rdr,wrw,ok,nn⟩,gl⟩,e1,e5,e7,e9,e11,e13⟩
 obtain ⟨i,hi⟩:∃ i,i=min N 64 - k:=⟨_,rfl⟩
 rw [← hi] at C1 C2 gl e13
 have hln:=hc.len
 by_cases ci:i=min N 64
 ·have fin:I3 h0 cv r w g p5 (min N 64) e h:=by rw [← ci];exact ⟨⟨st,sw,s,G,⟨xx,⟨Dr,Dw,Dg,C1,C2,G3,d1,d2,d3,d4,d5⟩,rdr,wrw,ok,nn⟩,gl⟩,e1,e5,e7,e9,e11,e13⟩
  by_cases cN:i=N
  ·have:¬ (i:Int) < (N:Int):=by omega
   simp [l3_0,e1,hln,e13,this]
   exact .inl ⟨rfl,⟨fin.tri,by simp [e1],by simp [e5],by simp [e7],by simp [e9],by simp [e11],by rw [← ci];simp [e13]⟩⟩
  ·have h1:(i:Int) < (N:Int):=by omega
   have h2:¬ (i:Int) < 64:=by omega
   simp [l3_0,e1,hln,e13,h1,h2]
   exact .inl ⟨rfl,⟨fin.tri,by simp [e1],by simp [e5],by simp [e7],by simp [e9],by simp [e11],by rw [← ci];simp [e13]⟩⟩
 have iN:i < N:=by omega
 have h1:(i:Int) < (N:Int):=by omega
 have h2:(i:Int) < 64:=by omega
 obtain ⟨b0,o0,x0,ia,rx,_⟩:=(hc.ext xx).at_ i iN
 obtain ⟨n,hn⟩:∃ n:Nat,x0 % 64=(n:Int):=⟨(x0 % 64).toNat,by omega⟩
 have n64:n < 64:=by omega
 have mk:binK 0 .and (.int .i64 x0) (.int .i64 63)=some (.int .i64 (n:Nat)):=by
  have:=binK_mask 0 x0 6 (by decide)
  rw [show (2:Int) ^ 6 - 1=63 by decide,show (2:Int) ^ 6=64 by decide,hn] at this
  exact this
 have zr:(n:Int).tmod 8=((n % 8:Nat):Int):=rfl
 have zq:IntKind.i64.wrap ((n:Int).tdiv 8)=((n / 8:Nat):Int):=by rw [show (n:Int).tdiv 8=((n / 8:Nat):Int) from rfl,wi64 (by omega) (by omega)]
 have zq':IntKind.i64.wrap ((n:Int) / 8)=((n / 8:Nat):Int):=by rw [wi64 (by omega) (by omega)];omega
 obtain ⟨nr,hnr⟩:∃ z,z=n % 8:=⟨_,rfl⟩
 obtain ⟨nq,hnq⟩:∃ z,z=n / 8:=⟨_,rfl⟩
 rw [← hnr] at zr
 rw [← hnq] at zq zq'
 have z8r:IntKind.i64.wrap (8*(nr:Int))=8*(nr:Int):=wi64 (by omega) (by omega)
 have z8q:IntKind.i64.wrap (8*(nq:Int))=8*(nq:Int):=wi64 (by omega) (by omega)
 obtain ⟨at_,hat⟩:∃ z:Bk,z={ bkZ with x:=8*(nr:Int),y:=8*(nq:Int),w:=8,h:=8 }:=⟨_,rfl⟩
 have hcell:at_=cellB n:=by rw [hat,hnr,hnq];rfl
 have igA:InG G at_:=by rw [hcell];exact cellB_in G n64
 have blc:=bl_cell (8*(nr:Int)) (8*(nq:Int))
 rw [← hat] at blc
 have atwh:at_.w=8∧at_.h=8:=by rw [hat];exact ⟨rfl,rfl⟩
 -- the place
 obtain ⟨g1,hg1⟩:∃ z,z=h.new (.cells at_.cs 45 false):=⟨_,rfl⟩
 have n1:g1.n=h.n+1:=by rw [hg1,H.n_new]
 have x1:Ext h g1:=by rw [hg1];exact (Ext.refl h).new _
 have gA1:g1.get h.n=some (.cells at_.cs 45 false):=by rw [hg1,get_new_same]
 have zw1:(h.new (.cells bkZ.cs 45 false)).wrN h.n 0 at_.cs=some g1:=by rw [hg1];exact wrN_new _ _ _ _ (by simp)
 have C1a:=C1.keep x1.n fun b _ hb=>x1.get b hb
 have C2a:=C2.keep x1.n fun b _ hb=>x1.get b hb
 have G3a:=G3.ext x1
 have hw:g1.rd1 p5 0=some (.bool key)∧g1.rd1 p5 1=some (.bool ll):=by
  have hp:=H.get_lt h5
  have:=xx.n
  have e:g1.get p5=_:=(x1.get p5 (by omega)).trans ((xx.get p5 hp).trans h5)
  exact ⟨by rw [rd1_of e];rfl,by rw [rd1_of e];rfl⟩
 have cnt1:=count32_ok C1a
 have rA1:g1.rdN h.n 0 23=some at_.cs:=by rw [rdN_of gA1 (by simp)];rfl
 have nbd:0≤st.n∧st.n≤1000000:=by have:=C1.ok.2.2;omega
 -- the reader
 obtain ⟨wv,g2,a2,ce⟩:=(code10_ok C1a (fun b hb=>by have:=d1 b hb;omega) G3a (fun b hb=>(d5 b hb).1) igA (by omega) (key:=key) (ll:=ll) (fun h=>by rw [rdr] at h;cases h)).elim
 unfold CEnd at ce
 rw [rdr] at ce
 have hbd:=block_bd key ll (cntP_le Bk.skip G at_.x at_.y) (cntP_le Bk.inter G at_.x at_.y) (vsOf_ok G3.ok at_) igA.sh
 obtain ⟨l,hl1,hl2⟩:=Pr.exec_rd (blkP false key ll G at_) rdr C1.ok.1 C1.ok.2.1 hbd (by omega)
 have hcost:=hl1.cost hbd
 have hpos:=block_pos hl1
 have wr2:=exec_wr (blkP false key ll G at_) st
 have ce:CoderAt (grow Dr g1 g2) g2 r (72*i+72) ((blkP false key ll G at_).exec st).2∧Mod Dr g1 g2∧wv=(match ((blkP false key ll G at_).exec st).1 with | some r=>.tup [r.v,.int .i64 0] | none=>.tup [bkZ.v,.int .i64 4]):=ce
 obtain ⟨Rx,st2,hR⟩:∃ Rx st2,(blkP false key ll G at_).exec st=(Rx,st2):=⟨_,_,rfl⟩
 rw [hR] at ce hl1 hl2 wr2
 obtain ⟨C1b,M2,hwv⟩:=ce
 have M2n:=M2.n
 have C1b:CoderAt (grow Dr g1 g2) g2 r (72*i+72) st2:=C1b
 have hl2:st2.n=st.n+costL l:=hl2
 have cnt2:=count32_ok C1b
 have C2b:=C2a.keep M2.n fun b hb hb2=>M2.get b hb2 fun hd=>d4 b hd hb
 have G3b:=G3a.keep M2.n fun b hb=>M2.get b (by have:=d3 b hb;omega) (d5 b hb).1
 have nDr:∀ b,b < h0.n∨(h.n≤b∧b < g1.n)→¬ Dr b:=fun b hb hd=>by have:=d1 b hd;omega
 have gA2:g2.get h.n=_:=(M2.get _ (by omega) (nDr _ (by omega))).trans gA1
 have xx2:Ext h0 g2:=M2.ext (xx.trans x1) fun b hb=>nDr b (.inl hb)
 have hdiff:IntKind.i64.wrap (st2.n - st.n)=(costL l:Nat):=by rw [wi64 (by omega) (by omega)];omega
 have hle1:¬ (64:Int) < (costL l:Nat):=by omega
 have hle2:¬ st2.n≤st.n:=by omega
 cases Rx with
 | none =>
  have hwv:wv=.tup [bkZ.v,.int .i64 4]:=hwv
  rw [hwv] at a2
  have C1c:CoderAt (grow Dr g1 g2) (g2.new (.cells bkZ.cs 45 false)) r (72*i+72) st2:=C1b.keep (by rw [H.n_new];omega) fun b _ hb=>get_new_lt hb
  have cnt2:=count32_ok C1c
  have rz:(g2.new (.cells bkZ.cs 45 false)).rdN g2.n 0 23=some bkZ.cs:=rdN_new _ _ _ _ _ _ (by simp)
  simp [l3_0,e1,hln,e13,h1,h2,ia,rx,mk,zr,zq,zq',z8r,z8q,blc,nw,zw1,e7,cnt1,rA1,e5,hw.1,hw.2,e11,a2,cnt2,hdiff,hle1,hle2,rz]
  exact .inr ⟨rfl,by simp,xx2.new _⟩
 | some rb =>
  have hwv:wv=.tup [rb.v,.int .i64 0]:=hwv
  rw [hwv] at a2
  obtain ⟨shr,mb,ag,ech⟩:=block_u (cntP_le Bk.skip G at_.x at_.y) (cntP_le Bk.inter G at_.x at_.y) (vsOf_ok G3.ok at_) igA.sh hl1
  have er:rb.x=at_.x∧rb.y=at_.y∧rb.w=8∧rb.h=8:=⟨(congrArg Bk.x shr:(shapeB rb).x=(shapeB at_).x),(congrArg Bk.y shr:(shapeB rb).y=(shapeB at_).y),((congrArg Bk.w shr:(shapeB rb).w=(shapeB at_).w)).trans atwh.1,((congrArg Bk.h shr:(shapeB rb).h=(shapeB at_).h)).trans atwh.2⟩
  have evs:=vsOf_sh G shr
  have ech':(blkP true key ll G rb).ech=(some rb,l):=by
   show (blockP true key ll (cntP Bk.skip G rb.x rb.y) (cntP Bk.inter G rb.x rb.y) (vsOf G rb) rb).ech=_
   rw [er.1,er.2.1,evs];exact ech
  rw [← evs] at ag
  obtain ⟨g3,hg3⟩:∃ z,z=g2.new (.cells rb.cs 45 false):=⟨_,rfl⟩
  have n3:g3.n=g2.n+1:=by rw [hg3,H.n_new]
  have x3:Ext g2 g3:=by rw [hg3];exact (Ext.refl g2).new _
  have zw3:(g2.new (.cells bkZ.cs 45 false)).wrN g2.n 0 rb.cs=some g3:=by rw [hg3];exact wrN_new _ _ _ _ (by simp)
  have gR3:g3.get g2.n=some (.cells rb.cs 45 false):=by rw [hg3,get_new_same]
  have rdR:∀ o,g3.rd1 g2.n o=rb.cs[o]?:=fun o=>rd1_of gR3
  have rR3:g3.rdN g2.n 0 23=some rb.cs:=by rw [rdN_of gR3 (by simp)];rfl
  have gA3:g3.get h.n=_:=(x3.get _ (by omega)).trans gA2
  have rdA:∀ o,g3.rd1 h.n o=at_.cs[o]?:=fun o=>rd1_of gA3
  have C1c:=C1b.keep x3.n fun b _ hb=>x3.get b hb
  have C2c:=C2b.keep x3.n fun b _ hb=>x3.get b hb
  have G3c:=G3b.ext x3
  have cnt3:=count32_ok C1c
  have hp5:=H.get_lt h5
  have xx3:=xx2.trans x3
  have hw3:g3.rd1 p5 0=some (.bool key)∧g3.rd1 p5 1=some (.bool ll):=by
   have e:g3.get p5=_:=(xx3.get p5 hp5).trans h5
   exact ⟨by rw [rd1_of e];rfl,by rw [rd1_of e];rfl⟩
  obtain ⟨_,g4,a4,rfl,x4⟩:=(check11_ok rb key ll g3).elim
  rw [if_pos mb] at a4
  have gR4:g4.get g2.n=_:=(x4.get _ (H.get_lt gR3)).trans gR3
  have rR4:g4.rdN g2.n 0 23=some rb.cs:=by rw [rdN_of gR4 (by simp)];rfl
  have xx4:=xx3.trans x4
  have x4n:=x4.n
  have hw4:g4.rd1 p5 0=some (.bool key)∧g4.rd1 p5 1=some (.bool ll):=by
   have e:g4.get p5=_:=(xx4.get p5 hp5).trans h5
   exact ⟨by rw [rd1_of e];rfl,by rw [rd1_of e];rfl⟩
  have C1d:=C1c.keep x4.n fun b _ hb=>x4.get b hb
  have C2d:=C2c.keep x4.n fun b _ hb=>x4.get b hb
  have G3d:=G3c.ext x4
  have igR:InG G rb:=igA.sh' shr
  -- the writer
  obtain ⟨_,g5,a5,rfl,C2e,M5⟩:=(code_w C2d (fun b hb=>by have:=d2 b hb;omega) wrw ok G3d (fun b hb=>(d5 b hb).2) igR (by omega) mb ag ech' hl1.ok).elim
  obtain ⟨s',hs',ok',_⟩:=run_within l wrw ok C2.ok.1 hl1.ok
  have M5n:=M5.n
  have nDw:∀ b,¬ (h0.n≤b∧b < h.n)→¬ Dw b:=fun b hb hd=>hb (d2 b hd)
  have gR5:g5.get g2.n=_:=(M5.get _ (by omega) (nDw _ (by omega))).trans gR4
  have xx5:Ext h0 g5:=M5.ext xx4 fun b hb=>nDw b (by omega)
  have C1e:=C1d.keep M5.n fun b hb hb2=>M5.get b hb2 (by
   rcases hb with hb | hb
   ·exact d4 b hb
   ·exact nDw b (by omega))
  have G3e:=G3d.keep M5.n fun b hb=>M5.get b (by have:=d3 b hb;omega) (d5 b hb).2
  obtain ⟨g6,hg6⟩:∃ z,z=g5.new (.cells rb.cs 45 false):=⟨_,rfl⟩
  have n6:g6.n=g5.n+1:=by rw [hg6,H.n_new]
  have x6:Ext g5 g6:=by rw [hg6];exact (Ext.refl g5).new _
  have zw6:(g5.new (.cells bkZ.cs 45 false)).wrN g5.n 0 rb.cs=some g6:=by rw [hg6];exact wrN_new _ _ _ _ (by simp)
  have rC6:g6.rdN g5.n 0 23=some rb.cs:=by rw [hg6];exact rdN_new _ _ _ _ _ _ (by simp)
  have rR6:g6.rdN g2.n 0 23=some rb.cs:=by rw [rdN_of ((x6.get _ (by omega)).trans gR5) (by simp)];rfl
  have G3f:=G3e.ext x6
  have C1f:=C1e.keep x6.n fun b _ hb=>x6.get b hb
  have C2f:=C2e.keep x6.n fun b _ hb=>x6.get b hb
  -- the grid
  have hv2:vecB rb.m0∧vecB rb.m1:=by
   obtain ⟨_,_,_,hmi⟩:=mb
   cases hin:rb.inter with
   | true =>
    rw [hin,if_pos rfl] at hmi
    refine ⟨hmi.2.2.2.1,?_⟩
    have:=hmi.2.2.2.2.2
    unfold secondB at this
    cases hcm:rb.comp with
    | true=>rw [hcm,if_pos rfl] at this;exact this.2.1
    | false=>rw [hcm,if_neg (by decide)] at this;rw [this.2];decide
   | false =>
    rw [hin,if_neg (by decide)] at hmi
    obtain ⟨⟨_,_,_,_,_,z6,z7,_⟩,_⟩:=hmi
    rw [z6,z7];exact ⟨by decide,by decide⟩
  obtain ⟨_,g7,a7,rfl,G3g,M7⟩:=(gput12_ok G3f igR.sh hv2 (by omega)).elim
  have M7n:=M7.n
  have nDg:∀ b,¬ (h0.n≤b∧b < h.n)→¬ Dg b:=fun b hb hd=>hb (d3 b hd)
  have xx7:Ext h0 g7:=M7.ext (xx5.trans x6) fun b hb=>nDg b (by omega)
  have C1g:=C1f.keep M7.n fun b hb hb2=>M7.get b hb2 (by
   rcases hb with hb | hb
   ·exact fun hd=>(d5 b hd).1 hb
   ·exact nDg b (by omega))
  have C2g:=C2f.keep M7.n fun b hb hb2=>M7.get b hb2 (by
   rcases hb with hb | hb
   ·exact fun hd=>(d5 b hd).2 hb
   ·exact nDg b (by omega))
  have hz:72*i+72=72*(i+1):=by omega
  rw [hz] at C1g C2g
  have glen:(putP G rb).1.bs.length≤i+1:=by
   unfold putP
   split
   ·split
    ·simp only [List.length_append,List.length_singleton];omega
    ·exact Nat.le_succ_of_le gl
   ·exact Nat.le_succ_of_le gl
  have tri:Tri h0 r w g (72*(i+1)) st2 (sw.run l) s' (putP G rb).1 g7:=by
   refine ⟨xx7,⟨grow Dr g1 g2,grow Dw g4 g5,grow Dg g6 g7,C1g,C2g,G3g,?_,?_,?_,?_,?_⟩,by rw [← rdr];exact wr2,hs',ok',by rw [hl2,nn,run_n]⟩
   ·have:=xx.n
    rintro b (hb | hb)
    ·have:=d1 b hb;omega
    ·omega
   ·have:=xx.n
    rintro b (hb | hb)
    ·have:=d2 b hb;omega
    ·omega
   ·have:=xx.n
    rintro b (hb | hb)
    ·have:=d3 b hb;omega
    ·omega
   ·rintro b (hb | hb) (hd | hd)
    ·exact d4 b hb hd
    ·have:=d1 b hb;omega
    ·have:=d2 b hd;omega
    ·omega
   ·rintro b (hb | hb)
    ·refine ⟨?_,?_⟩
     ·rintro (hd | hd)
      ·exact (d5 b hb).1 hd
      ·have:=d3 b hb;omega
     ·rintro (hd | hd)
      ·exact (d5 b hb).2 hd
      ·have:=d3 b hb;omega
    ·refine ⟨?_,?_⟩
     ·rintro (hd | hd)
      ·have:=d1 b hd;omega
      ·omega
     ·rintro (hd | hd)
      ·have:=d2 b hd;omega
      ·omega
  have ki:min N 64 - (k - 1)=i+1:=by omega
  have zi:IntKind.i64.wrap ((i:Int)+1)=((i+1:Nat):Int):=by rw [wi64 (by omega) (by omega)];omega
  simp [l3_0,e1,hln,e13,h1,h2,ia,rx,mk,zr,zq,zq',z8r,z8q,blc,nw,zw1,e7,cnt1,rA1,e5,hw.1,hw.2,e11,a2,zw3,cnt3,hdiff,hle1,hle2,rdR,rdA,er.1,er.2.1,er.2.2.1,er.2.2.2,rR3,hw3.1,hw3.2,a4,e9,rR4,hw4.1,hw4.2,a5,zw6,rC6,rR6,a7,zi,-Int.natCast_add]
  refine ⟨k - 1,by omega,by omega,?_⟩
  rw [ki]
  exact ⟨⟨st2,sw.run l,s',(putP G rb).1,tri,glen⟩,by simp [e1],by simp [e5],by simp [e7],by simp [e9],by simp [e11],by simp⟩
end Go.Proofs.Ytbkmdnmncaakdaa
