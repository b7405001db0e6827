import Derived.Test.YtbajipmhnoakeaaGreatPnHe
set_option linter.unusedVariables false
set_option linter.unusedSimpArgs false
set_option maxRecDepth 20000
namespace Go.Proofs.YtbajipmhnoakeaaGreat
open Go Go.Zf
open Go.Zf (wi64)
noncomputable def tail12m (K:Oracle) (L:Looper) (e:E) (h:H):Out :=
 sq (sq (bd (binK 0 .sub (e.s k12 18) (.int .i64 1)) fun t135 =>
 some ⟨.nm,(ux12 e 26 t135).st 18 t135,h⟩) fun e h =>
 blk 2 (L (l12_1 K L) e h)) fun e h =>
 sq (sq (some ⟨.nm,(ux12 e 36 (.int .i64 0)).st 26 (.int .i64 0),h⟩) fun e h =>
 blk 4 (L (l12_2 K L) e h)) fun e h =>
 sq (some ⟨.nm,((ux12 e 11 (.int .i64 0)).st 5 (e.s k12 15)).st 6 (.int .i64 0),h⟩) fun e h =>
 some ⟨.rt,e,h⟩
noncomputable def mid12m (K:Oracle) (L:Looper) (e:E) (h:H):Out :=
 sq (bc k12 [92,93,94,95,91,96,97,20] e (K 48 [(e.s k12 0),(.int .i64 22),(e.s k12 21),(e.s k12 20)] h) fun t95 h1 =>
 bd (exV t95 0) fun t96 =>
 bd (exV t95 1) fun t97 =>
 some ⟨.nm,(ux12 e 20 t96).st 14 t96,h1⟩) fun e h =>
 sq (sq (bd (binK 0 .eql (e.s k12 20) (.int .i64 1)) fun t99 =>
 some ⟨.nm,ux12 e 99 t99,h⟩) fun e h =>
 br (e.s k12 99) (sq (some ⟨.nm,((ux12 e 11 (.int .i64 0)).st 5 (e.s k12 15)).st 6 (.int .i64 0),h⟩) fun e h =>
 some ⟨.rt,e,h⟩)
 (some ⟨.nm,e,h⟩)) fun e h =>
 sq (bd (maxV [(e.s k12 18),(.int .i64 1)]) fun t103 =>
 bc k12 [102,103,104,101,105,106,107,108,22,23,24,25] e (K 49 [t103] h) fun t104 h1 =>
 bd (exV t104 0) fun t105 =>
 bd (exV t104 1) fun t106 =>
 bd (exV t104 2) fun t107 =>
 bd (exV t104 3) fun t108 =>
 some ⟨.nm,((ux12 e 25 t108).st 16 t105).st 17 t107,h1⟩) fun e h =>
 sq (bc k12 [110,111,112,113,114,115,109,116,117,22] e (K 50 [(e.s k12 1)] h) fun t112 h1 =>
 bc k12 [110,111,112,113,114,115,109,116,117,22] e (K 48 [(e.s k12 0),t112,(e.s k12 16),(e.s k12 22)] h1) fun t115 h2 =>
 bd (exV t115 0) fun t116 =>
 bd (exV t115 1) fun t117 =>
 some ⟨.nm,(ux12 e 22 t116).st 16 t116,h2⟩) fun e h =>
 sq (sq (bd (binK 0 .gtr (e.s k12 22) (.int .i64 0)) fun t119 =>
 some ⟨.nm,ux12 e 119 t119,h⟩) fun e h =>
 br (e.s k12 119) (sq (bd (binK 0 .sub (e.s k12 22) (.int .i64 1)) fun t123 =>
 bc k12 [121,122,123,124,125,120,126,127,24] e (K 51 [(e.s k12 0),t123,(e.s k12 24)] h) fun t125 h1 =>
 bd (exV t125 0) fun t126 =>
 bd (exV t125 1) fun t127 =>
 some ⟨.nm,(ux12 e 24 t126).st 17 t126,h1⟩) fun e h =>
 bd (binK 0 .sub (e.s k12 22) (.int .i64 1)) fun t129 =>
 bd (binK 0 .shl (.int .i64 1) t129) fun t130 =>
 bd (binK 0 .add t130 (.int .i64 1)) fun t131 =>
 bd (binK 0 .add t131 (e.s k12 24)) fun t133 =>
 some ⟨.nm,(ux12 e 18 t133).st 12 t133,h⟩)
 (some ⟨.nm,(ux12 e 18 (.int .i64 1)).st 12 (.int .i64 1),h⟩)) fun e h =>
 tail12m K L e h
noncomputable def main12m (K:Oracle) (L:Looper) (e:E) (h:H):Out :=
 sq (some ⟨.nm,(ux12 e 20 (.int .i64 0)).st 14 (.int .i64 0),h⟩) fun e h =>
 sq (sq (bd (binK 0 .eql (e.s k12 18) (.int .i64 0)) fun t84 =>
 some ⟨.nm,ux12 e 84 t84,h⟩) fun e h =>
 br (e.s k12 84) (some ⟨.nm,(ux12 e 20 (.int .i64 1)).st 14 (.int .i64 1),h⟩)
 (some ⟨.nm,e,h⟩)) fun e h =>
 sq (bd (binK 0 .mul (.int .i64 2) (e.s k12 16)) fun t86 =>
 some ⟨.nm,(ux12 e 21 t86).st 15 t86,h⟩) fun e h =>
 sq (sq (bd (binK 0 .gtr (e.s k12 1) (.int .i64 8)) fun t88 =>
 some ⟨.nm,ux12 e 88 t88,h⟩) fun e h =>
 br (e.s k12 88) (bd (binK 0 .add (e.s k12 21) (.int .i64 1)) fun t90 =>
 some ⟨.nm,(ux12 e 21 t90).st 15 t90,h⟩)
 (some ⟨.nm,e,h⟩)) fun e h =>
 mid12m K L e h
noncomputable def s12h (K:Oracle) (L:Looper) (e:E) (h:H):Out :=
 sq (some ⟨.nm,((ux12 e 11 (.int .i64 0)).st 5 .nils).st 6 (.int .i64 0),h⟩) fun e h =>
 sq (sq (bc k12 [39,40,41,42,43,44,45] e (K 44 [(e.s k12 0),(e.s k12 1),(e.s k12 2),(e.s k12 3),(e.s k12 4)] h) fun t44 h1 =>
 bd (unV .not t44) fun t45 =>
 some ⟨.nm,ux12 e 45 t45,h1⟩) fun e h =>
 br (e.s k12 45) (sq (some ⟨.nm,((ux12 e 11 (.int .i64 2)).st 5 .nils).st 6 (.int .i64 2),h⟩) fun e h =>
 some ⟨.rt,e,h⟩)
 (some ⟨.nm,e,h⟩)) fun e h =>
 sq (bc k12 [46,47,12] e (K 45 [(e.s k12 1)] h) fun t47 h1 =>
 some ⟨.nm,(ux12 e 12 t47).st 7 t47,h1⟩) fun e h =>
 sq (bc k12 [49,50,48,51,52,13,14] e (K 46 [(e.s k12 1)] h) fun t50 h1 =>
 bd (exV t50 0) fun t51 =>
 bd (exV t50 1) fun t52 =>
 some ⟨.nm,(ux12 e 14 t52).st 8 t51,h1⟩) fun e h =>
 sq (bd (binK 0 .mul (e.s k12 12) (e.s k12 12)) fun t55 =>
 bf (ms h 3 8 [(.int .i64 0)] t55 t55) fun t56 h1 =>
 some ⟨.nm,(ux12 e 15 t56).st 9 t56,h1⟩) fun e h =>
 sq (bd (minV [(e.s k12 2),(.int .i64 1)]) fun t58 =>
 some ⟨.nm,(ux12 e 16 t58).st 10 t58,h⟩) fun e h =>
 sq (bd (binK 0 .mul (e.s k12 12) (e.s k12 12)) fun t61 =>
 bf (ms h 3 8 [(.int .i64 0)] t61 t61) fun t62 h1 =>
 some ⟨.nm,(ux12 e 17 t62).st 11 t62,h1⟩) fun e h =>
 sq (some ⟨.nm,(ux12 e 18 (.int .i64 0)).st 12 (.int .i64 0),h⟩) fun e h =>
 sq (sq (bc k12 [63,64] e (K 47 [(e.s k12 0)] h) fun t64 h1 =>
 some ⟨.nm,ux12 e 64 t64,h1⟩) fun e h =>
 br (e.s k12 64) (sq (bc k12 [65,66,17] e (K 10 [(e.s k12 4)] h) fun t66 h1 =>
 some ⟨.nm,(ux12 e 17 t66).st 11 t66,h1⟩) fun e h =>
 sq (some ⟨.nm,(ux12 e 19 (.int .i64 0)).st 13 (.int .i64 0),h⟩) fun e h =>
 blk 0 (L (l12_0 K L) e h))
 (some ⟨.nm,e,h⟩)) fun e h =>
 main12m K L e h
theorem s12_eq:s12=s12h:=by kernel_rfl
section cd
variable {D0:Nat→Prop} {h0 h h':H} {c L m:Nat} {vo vs:V} {B:BD} {st:St} {lv:List Int}
def End12 (D0:Nat→Prop) (h0:H) (c L:Nat) (B:BD) (M:Nat) (R:Option (List Int) × St) (w:V) (h':H):Prop :=
  ∃ lv,RC D0 h0 c L B h' M R.2 lv∧((R.1=some lv∧w=.tup [.sl L 0 (B.n*B.n) (.ex (B.n*B.n)),.int .i64 0])∨(R.1=none∧w=.tup [.nils,.int .i64 4]))
theorem tail12 (S:BR D0 h0 L vo vs B) (C:RC D0 h0 c L B h m st lv) {en:Nat} (hen:en≤B.n*B.n) (hm:m+49000 < 100000000) {R:Option (List Int) × St} (hR:((amsP B en en lv).bind fun lv=>sgsP B (B.ord.take en) lv).exec st=R)
   {e:E} (k:K0 c L vo vs B e) (e18:e.s K12 18=.int .i64 (en:Nat)):RT (End12 D0 h0 c L B (m+49000) R) (fin Tryz.prog K12 [.tmp 10,.tmp 11] (tail12m KW loopZ e h)):=by
  have hnn:=S.nn
  obtain ⟨e0,e1,e3,e13,e15,e16,e17⟩:=k
  have zen:IntKind.i64.wrap ((en:Int) - 1)=(en:Int) - 1:=wz (by omega) (by omega)
  have hm46:46*en≤46*1024:=by omega
  simp [tail12m,e18,zen]
  generalize ho:loopZ (l12_1 KW loopZ) _ _=o
  obtain ⟨⟨sx,se,sh⟩,rfl,lv1,C1,hs⟩:=loop12_1 (D0:=D0) (h0:=h0) (c:=c) (L:=L) (M:=m+46*en) (R:=(amsP B en en lv).exec st) S hen (by omega) (by omega) ho
   ⟨Nat.le_refl _,⟨lv,st,by rw [Nat.add_sub_cancel];exact C,rfl⟩,⟨by simp [e0],by simp [e1],by simp [e3],by simp [e13],by simp [e15],by simp [e16],by simp [e17]⟩,by simp [e18],by simp⟩
  simp only at C1
  rcases hs with ⟨hx,hR1,k1,f18⟩ | ⟨hx,hR1,f10,f11⟩
  ·simp only at hx k1 f18
   subst hx
   have hA:(amsP B en en lv).exec st=(some lv1,((amsP B en en lv).exec st).2):=by rw [← hR1]
   rw [Pr.exec_some hA] at hR
   obtain ⟨st1,hst1⟩:∃ s,s=((amsP B en en lv).exec st).2:=⟨_,rfl⟩
   rw [← hst1] at C1 hR
   obtain ⟨g0,g1,g3,g13,g15,g16,g17⟩:=k1
   simp only [K12] at f18
   simp
   generalize ho2:loopZ (l12_2 KW loopZ) _ _=o2
   obtain ⟨⟨tx,te,th⟩,rfl,lv2,C2,hx2,hR2,k2⟩:=loop12_2 (D0:=D0) (h0:=h0) (c:=c) (L:=L) (M:=m+46*en+en) (R:=R) S hen (by omega) (by omega) ho2
    ⟨Nat.le_refl _,⟨lv1,st1,by rw [Nat.add_sub_cancel];exact C1,by rw [Nat.sub_self];exact hR⟩,⟨by simp [g0],by simp [g1],by simp [g3],by simp [g13],by simp [g15],by simp [g16],by simp [g17]⟩,by simp [f18],by simp⟩
   simp only at hx2 C2 k2
   subst hx2
   have q15:=k2.e15
   simp only [K12] at q15
   simp [q15]
   exact ⟨lv2,C2.more (by omega) hm,.inl ⟨hR2,rfl⟩⟩
  ·simp only at hx f10 f11
   subst hx
   have hA:(amsP B en en lv).exec st=(none,((amsP B en en lv).exec st).2):=by rw [← hR1]
   rw [Pr.exec_none hA] at hR
   subst hR
   simp only [K12] at f10 f11
   simp [f10,f11]
   exact ⟨lv1,C1.more (by omega) hm,.inr ⟨rfl,rfl⟩⟩
theorem main12 (S:BR D0 h0 L vo vs B) (C:RC D0 h0 c L B h m st (List.replicate (B.n*B.n) 0)) (hord:B.ord=ordN B.n) (hm:m+50000 < 100000000) {R:Option (List Int) × St} (hR:(codeP B).exec st=R)
   {e:E} (k:K0 c L vo vs B e) (e18:e.s K12 18=.int .i64 (endTo B B.ord.length:Nat)):RT (End12 D0 h0 c L B (m+50000) R) (fin Tryz.prog K12 [.tmp 10,.tmp 11] (main12m KW loopZ e h)):=by
  have hnn:=S.nn
  have hcol:=S.colour
  obtain ⟨K,f1,f2,f3,f4,f5,f6⟩:=size_facts S.size
  rw [← S.n] at f1
  obtain ⟨e0,e1,e3,e13,e15,e16,e17⟩:=k
  unfold codeP endP at hR
  have hle:=endTo_le B B.ord.length
  rw [S.ordl] at hle
  obtain ⟨E,hE⟩:∃ E,E=endTo B B.ord.length:=⟨_,rfl⟩
  rw [S.ordl] at hE
  rw [S.ordl,← hE] at hR e18
  rw [← hE] at hle
  obtain ⟨fl,hfl⟩:∃ fl:Nat,fl=if 8 < B.size then 1 else 0:=⟨_,rfl⟩
  have hfl2:fl≤1:=by rw [hfl];split <;> omega
  obtain ⟨zf,hzf⟩:∃ zf:Nat,zf=if E=0 then 1 else 0:=⟨_,rfl⟩
  have hzf2:zf≤1:=by rw [hzf];split <;> omega
  have hzi2:(if E=0 then (1:Int) else 0)=(zf:Int):=by rw [hzf];split <;> rfl
  rw [hzi2,← hfl] at hR
  obtain ⟨x,hx⟩:∃ x,x=2*B.colour+fl:=⟨_,rfl⟩
  have z1:IntKind.i64.wrap (2*(B.colour:Int))=2*(B.colour:Int):=wz (by omega) (by omega)
  have hv22:vl 22=2:=by decide
  have hc22:cx 22=4:=by decide
  obtain ⟨w,g1,a1,rfl,C1⟩:=(C.sym S (k:=22) (x:=x) (v:=(zf:Int)) (by omega) (by decide) (by rw [hc22];omega) (by rw [hv22];omega)).elim
  rw [show ((22:Nat):Int)=22 from rfl] at a1
  rw [← hx] at hR
  have hR:(Pr.bind (if st.symV 22 x (zf:Int)=1 then Pr.done 0 else Pr.sym (ekP B.size) B.colour (clsP (max E 1)) fun c=>if c=0 then Pr.done 1 else Pr.num (c - 1) (extP (max E 1)) fun x=>Pr.done (2 ^ (c - 1)+1+x)) fun en=>(amsP B en en (List.replicate (B.n*B.n) 0)).bind fun lv=>sgsP B (B.ord.take en) lv).exec (st.sym 22 x (zf:Int))=R:=hR
  obtain ⟨st1,hst1⟩:∃ s,s=st.sym 22 x (zf:Int):=⟨_,rfl⟩
  obtain ⟨z,hz⟩:∃ z,z=st.symV 22 x (zf:Int):=⟨_,rfl⟩
  rw [← hst1] at C1 hR
  rw [← hz] at a1 hR
  -- behind the first symbol
  have mid:∀ e':Go.Zf.E,K0 c L vo vs B e'→e'.s K12 18=.int .i64 (E:Nat)→e'.s K12 20=.int .i64 (zf:Nat)→e'.s K12 21=.int .i64 (x:Nat)→RT (End12 D0 h0 c L B (m+50000) R) (fin Tryz.prog K12 [.tmp 10,.tmp 11] (mid12m KW loopZ e' h)):=by
   intro e' ⟨e0,e1,e3,e13,e15,e16,e17⟩ e18 e20 e21
   by_cases cz:z=1
   ·rw [if_pos cz] at hR
    have hR:(some (List.replicate (B.n*B.n) 0),st1)=R:=hR
    rw [cz] at a1
    simp [mid12m,e0,e21,e20,a1,e15]
    subst hR
    exact ⟨_,C1.more (by omega) hm,.inl ⟨rfl,rfl⟩⟩
   ·rw [if_neg cz] at hR
    have hmx:imax (E:Int) 1=((max E 1:Nat):Int):=by unfold imax;split <;> omega
    obtain ⟨M,hM⟩:∃ M,M=max E 1:=⟨_,rfl⟩
    rw [← hM] at hmx hR
    have hM1:1≤M:=by omega
    have hM2:M≤2 ^ K:=by omega
    have hM3:M≤1024:=by omega
    obtain ⟨y,cl⟩:=class49_ok hM1 hM3 g1
    have hcls:=cls_b hM1 hM2 (by omega)
    have hvc:(0:Int)≤(clsP M:Nat)∧((clsP M:Nat):Int) < vl (ekP B.size):=by rw [f4];omega
    obtain ⟨w,g2,a2,rfl,C2⟩:=(C1.sym S (k:=ekP B.size) (x:=B.colour) (v:=(clsP M:Nat)) (by omega) f5 (by rw [f6];omega) hvc).elim
    have hlt:=St.symV_lt C1.C.ok.1 (k:=ekP B.size) (x:=B.colour) (v:=(clsP M:Nat)) f5 (by rw [f6];omega) (fun _=>hvc)
    rw [f4] at hlt
    have hR:(Pr.bind (if st1.symV (ekP B.size) B.colour (clsP M)=0 then Pr.done 1 else Pr.num (st1.symV (ekP B.size) B.colour (clsP M) - 1) (extP M) fun x=>Pr.done (2 ^ (st1.symV (ekP B.size) B.colour (clsP M) - 1)+1+x)) fun en=>(amsP B en en (List.replicate (B.n*B.n) 0)).bind fun lv=>sgsP B (B.ord.take en) lv).exec (st1.sym (ekP B.size) B.colour (clsP M))=R:=hR
    obtain ⟨cc,hcc⟩:∃ cc,cc=st1.symV (ekP B.size) B.colour ((clsP M:Nat):Int):=⟨_,rfl⟩
    rw [← hcc] at a2 hlt hR
    obtain ⟨st2,hst2⟩:∃ s,s=st1.sym (ekP B.size) B.colour ((clsP M:Nat):Int):=⟨_,rfl⟩
    rw [← hst2] at C2 hR
    have k50:=ends50_ok S.size g1
    by_cases cc0:cc=0
    ·rw [if_pos cc0] at hR
     have hR:((amsP B 1 1 (List.replicate (B.n*B.n) 0)).bind fun lv=>sgsP B (B.ord.take 1) lv).exec st2=R:=hR
     rw [cc0] at a2
     simp [mid12m,e0,e21,e20,a1,cz,show ¬ (z:Int)=1 by omega,e18,maxV_i,-maxV2,hmx,cl,e1,k50,e16,a2]
     refine (tail12 S C2 (en:=1) (by omega) (by omega) hR ?_ ?_).mono fun w h' ⟨lv,q1,q2⟩=>⟨lv,q1.more (by omega) hm,q2⟩
     ·exact ⟨by simp [e0],by simp [e1],by simp [e3],by simp [e13],by simp [e15],by simp [e16],by simp [e17]⟩
     ·simp
    ·rw [if_neg cc0] at hR
     obtain ⟨kk,hk⟩:∃ k,cc=k+1:=⟨cc - 1,by omega⟩
     have hk10:kk≤9:=by omega
     have hwr:B.wr=true→0≤extP M∧extP M < 2 ^ kk:=by
      intro hw
      have hw1:st1.sd.writes=true:=by rw [C1.wr,hw]
      have:=St.symV_w hw1 (ekP B.size) B.colour ((clsP M:Nat):Int)
      rw [← hcc,Int.toNat_natCast] at this
      have:=ext_b hM1 (by omega)
      rw [show clsP M - 1=kk by omega] at this
      omega
     rw [show cc - 1=kk by omega] at hR
     have hR:((amsP B (2 ^ kk+1+st2.numV kk (extP M).toNat) (2 ^ kk+1+st2.numV kk (extP M).toNat) (List.replicate (B.n*B.n) 0)).bind fun lv=>sgsP B (B.ord.take (2 ^ kk+1+st2.numV kk (extP M).toNat)) lv).exec (st2.num kk (extP M).toNat)=R:=hR
     obtain ⟨w,g3,a3,rfl,C3⟩:=(C2.num S (n:=kk) (v:=extP M) (by omega) (by omega) hwr).elim
     have hnlt:=St.numV_lt C2.C.ok.2.1 (n:=kk) (v:=(extP M).toNat) (by omega)
     obtain ⟨X,hX⟩:∃ X,X=st2.numV kk (extP M).toNat:=⟨_,rfl⟩
     rw [← hX] at a3 hnlt hR
     have pk:(2:Nat) ^ kk≤512:=Nat.pow_le_pow_right (by decide) hk10
     have pc:=two_pow_cast kk
     have p0:=Nat.two_pow_pos kk
     have z3:IntKind.i64.wrap ((cc:Int) - 1)=(kk:Int):=by rw [wz (by omega) (by omega)];omega
     have mk:min kk 64=kk:=by omega
     have z4:IntKind.i64.wrap ((2:Int) ^ kk)=2 ^ kk:=wz (by omega) (by omega)
     have z5:IntKind.i64.wrap ((2:Int) ^ kk+1)=2 ^ kk+1:=wz (by omega) (by omega)
     have z6:IntKind.i64.wrap ((2:Int) ^ kk+1+X)=((2 ^ kk+1+X:Nat):Int):=by rw [wz (by omega) (by omega)];omega
     have hend:2 ^ kk+1+X≤B.n*B.n:=by
      rw [f1]
      have:2 ^ (kk+1)≤2 ^ K:=Nat.pow_le_pow_right (by decide) (by omega)
      rw [Nat.pow_succ] at this
      omega
     simp [mid12m,e0,e21,e20,a1,cz,show ¬ (z:Int)=1 by omega,e18,maxV_i,-maxV2,hmx,cl,e1,k50,e16,a2,show (0:Int) < (cc:Int) by omega,show 0 < cc by omega,z3,a3,mk,IntKind.bits,z4,z5,z6,-Int.natCast_add,show ¬ (kk:Int) < 0 by omega]
     refine (tail12 S C3 hend (by omega) hR ?_ ?_).mono fun w h' ⟨lv,q1,q2⟩=>⟨lv,q1.more (by omega) hm,q2⟩
     ·exact ⟨by simp [e0],by simp [e1],by simp [e3],by simp [e13],by simp [e15],by simp [e16],by simp [e17]⟩
     ·simp
  have z2:IntKind.i64.wrap (2*(B.colour:Int)+1)=2*(B.colour:Int)+1:=wz (by omega) (by omega)
  by_cases cE:E=0
  ·rw [if_pos cE] at hzf
   by_cases cs:8 < B.size
   ·rw [if_pos cs] at hfl
    simp [main12m,e18,cE,e16,z1,e1,show (8:Int) < (B.size:Nat) by omega,cs,z2]
    exact mid _ ⟨by simp [e0],by simp [e1],by simp [e3],by simp [e13],by simp [e15],by simp [e16],by simp [e17]⟩ (by simp [e18,cE]) (by simp [hzf]) (by simp [hx,hfl])
   ·rw [if_neg cs] at hfl
    simp [main12m,e18,cE,e16,z1,e1,show ¬ (8:Int) < (B.size:Nat) by omega,cs]
    exact mid _ ⟨by simp [e0],by simp [e1],by simp [e3],by simp [e13],by simp [e15],by simp [e16],by simp [e17]⟩ (by simp [e18,cE]) (by simp [hzf]) (by simp [hx,hfl])
  ·rw [if_neg cE] at hzf
   by_cases cs:8 < B.size
   ·rw [if_pos cs] at hfl
    simp [main12m,e18,cE,show ¬ (E:Int)=0 by omega,e16,z1,e1,show (8:Int) < (B.size:Nat) by omega,cs,z2]
    exact mid _ ⟨by simp [e0],by simp [e1],by simp [e3],by simp [e13],by simp [e15],by simp [e16],by simp [e17]⟩ (by simp [e18]) (by simp [hzf]) (by simp [hx,hfl])
   ·rw [if_neg cs] at hfl
    simp [main12m,e18,cE,show ¬ (E:Int)=0 by omega,e16,z1,e1,show ¬ (8:Int) < (B.size:Nat) by omega,cs]
    exact mid _ ⟨by simp [e0],by simp [e1],by simp [e3],by simp [e13],by simp [e15],by simp [e16],by simp [e17]⟩ (by simp [e18]) (by simp [hzf]) (by simp [hx,hfl])
end cd
end Go.Proofs.YtbajipmhnoakeaaGreat
