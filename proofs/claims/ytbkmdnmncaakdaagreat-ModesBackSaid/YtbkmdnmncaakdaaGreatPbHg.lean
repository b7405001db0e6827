import Derived.Test.YtbkmdnmncaakdaaGreatPbHf
set_option linter.unusedVariables false
set_option linter.unusedSimpArgs false
set_option maxRecDepth 20000
namespace Go.Proofs.YtbkmdnmncaakdaaGreat
open Go Go.Zf
open Go.Zf (wi64)
open Go.ChangeShapes Go.WideShapes
theorem rdN_keep {h h':H} {b o n:Nat} {l:List V} (hr:h.rdN b o n=some l) (hk:b < h.n→h'.get b=h.get b):h'.rdN b o n=some l:=by
 cases hg:h.get b with
 | none=>unfold H.rdN at hr;rw [hg] at hr;cases hr
 | some x=>unfold H.rdN at hr ⊢;rw [hk (H.get_lt hg)];exact hr
theorem DosAt.ext {h h':H} {v:V} {L:List Dq} (a:DosAt h v L) (hk:∀ b,b < h.n→h'.get b=h.get b):DosAt h' v L :=
 ⟨a.len,fun i d hd=>by
  obtain ⟨b,o,h1,h2⟩:=a.at_ i d hd
  exact ⟨b,o,h1,rdN_keep h2 (hk b)⟩⟩
theorem back3_ok {h:H} {lv:V} {L:List Dq} {key ll:Bool} (hL:DosAt h lv L) (hI:∀ d ∈ L,I64 d.b.x∧I64 d.b.y) :
  RT (fun w h'=>w=.bool true∧Ext h h') (KW 3 [lv,.bool key,.bool ll] h):=by
 obtain ⟨_,h1,a1,rfl,x1⟩:=(awake4_ok h).elim
 obtain ⟨_,h2,a2,v2,rfl,W2,x2⟩:=(default27_ok h1).elim
 obtain ⟨_,h3,a3,w,rfl,C3,x3⟩:=(writer12_ok W2.setR defS_ok true).elim
 obtain ⟨_,h4,a4,g,rfl,G4,x4⟩:=(new8_ok h3).elim
 obtain ⟨_,h5,a5,hg,rfl,G5,x5⟩:=(new8_ok h4).elim
 have C3:=C3.cut
 have m1:=x1.n
 have m2:=x2.n
 have m3:=x3.n
 have m4:=x4.n
 have m5:=x5.n
 have x35:=x4.trans x5
 have C5:=C3.keep x35.n fun b _ hb=>x35.get b hb
 have G45:=G4.ext x5
 have x05:=(((x1.trans x2).trans x3).trans x4).trans x5
 obtain ⟨D0,hD0⟩:∃ D:Nat→Prop,∀ b,D b ↔ (h2.n≤b∧b < h4.n):=⟨_,fun _=>Iff.rfl⟩
 have duo:Duo D0 (slF .nils) h5 w g 0 (newW defS true) gr0 h5 :=
  ⟨Mod.refl _ _,_,_,C5,G45,fun b hb=>⟨by omega,.inl ((hD0 b).2 ⟨hb.1,by omega⟩)⟩,fun b hb=>.inl ((hD0 b).2 ⟨by omega,hb.2⟩),fun b hb hd=>by omega,fun b ⟨o,n,k,e⟩=>by cases e⟩
 have hLw:∀ {h':H},Mod D0 h5 h'→DosAt h' lv L:=fun {h'} M=>hL.ext fun b hb=>by rw [M.get b (by omega) (fun hd=>by have:=(hD0 b).1 hd;omega),x05.get b hb]
 rw [w3,f3,s3]
 simp [a1,a2,a3,a4,a5]
 refine loop_in (C:=fun o=>RT _ (fin Tryz.prog _ _ (sq (blk 0 o) _))) _ _ (loop3w (D0:=D0) (hS:=h5) (w:=w) (g:=g) (hg:=hg) (key:=key) (ll:=ll) hLw hI) (min L.length 60)
  ⟨Nat.le_refl _,⟨newW defS true,s0,gr0,[],by rw [Nat.sub_self];simpa using duo,⟨rfl,s0_fine,⟨[],rfl,rfl,rfl⟩,by simp [gr0],by simp⟩,by simp;exact GrowV.nil _ _ _ _⟩,by simp,by simp,by simp,by simp,by simp,by simp,by simp⟩ ?_
 rintro ⟨sx,se,h6⟩ ⟨s1,⟨st,s,G,dn,duo6,wr,gv6⟩,e0,e1,e2,e7,e9,e11,e14⟩
 simp only at s1 duo6 gv6 e1 e2 e7 e11
 subst s1
 obtain ⟨dv,hdv⟩:∃ z,z=se.s K3 13:=⟨_,rfl⟩
 rw [← hdv] at duo6 gv6
 obtain ⟨M6,Dc,Dg,C6,G6,d1,d2,d3,d4⟩:=duo6
 have m6:=M6.n
 obtain ⟨_,h7,a7,v7,rfl,W7,x7⟩:=(bytes19_ok C6 wr.sd).elim
 have hbl:=bytes_b (T:=s) (by have:=C6.ok.2.1;rw [wr.sd] at this;exact this)
 obtain ⟨_,h8,a8,v8,rfl,W8,x8⟩:=(default27_ok h7).elim
 obtain ⟨_,h9,a9,r,rfl,C9,x9⟩:=(reader25_ok (W7.slb.keep x8.get) hbl W7.byte W8.setR defS_ok true).elim
 have C9:=C9.cut
 obtain ⟨l,hl,wl⟩:=wr.run
 obtain ⟨s',hs',_,wi⟩:=run_within l (st:=newW defS true) (s:=s0) rfl s0_fine C5.ok.1 wl.ok
 rw [← hl,wr.sd] at hs'
 have:=wS_inj hs'
 subst this
 rw [newR_mate wr.ok wi] at C9
 have m7:=x7.n
 have m8:=x8.n
 have m9:=x9.n
 have x69:=(x7.trans x8).trans x9
 have G5':GridAt (fun b=>h4.n≤b∧b < h5.n) h9 hg gr0:=G5.keep (by omega) fun b hb=>by rw [x69.get b (by omega),M6.get b hb.2 fun hd=>by have:=(hD0 b).1 hd;omega]
 obtain ⟨D1,hD1⟩:∃ D:Nat→Prop,∀ b,D b ↔ ((h4.n≤b∧b < h5.n)∨(h8.n≤b∧b < h9.n)):=⟨_,fun _=>Iff.rfl⟩
 have duo9:Duo D1 (fun _=>False) h9 r hg 0 (mateS (bytes s.1 s.2.1) s0 (newW defS true)) gr0 h9 :=
  ⟨Mod.refl _ _,_,_,C9,G5',fun b hb=>⟨hb.2,.inl ((hD1 b).2 (.inr hb))⟩,fun b hb=>.inl ((hD1 b).2 (.inl hb)),fun b hb hd=>by omega,fun b hb=>hb.elim⟩
 have gv9:=gv6.ext x69
 have hLr:∀ {h':H},Mod D1 h9 h'→DosAt h' dv dn:=fun {h'} M=>dos_of (gv9.keep fun c o n k e=>M.get c (gv9.under c o n k e) fun hd=>by
  have:=gv6.under c o n k e
  have:=(d4 c ⟨o,n,k,e⟩).2.1
  have:=(hD1 c).1 hd
  omega)
 have dl:=wr.dl
 simp [e7,a7,a8,a9]
 refine loop_in (C:=fun o=>RT _ (fin Tryz.prog _ _ (sq (blk 2 o) _))) _ _ (loop3r (D0:=D1) (hS:=h9) (dv:=dv) (dn:=dn) (key:=key) (ll:=ll) (w:=w) (r:=r) (hg:=hg) (nE:=st.n) wr.ok (by omega) hLr) dn.length
  ⟨Nat.le_refl _,⟨newW defS true,s0,gr0,[],dn,l,G,rfl,by simp,by rw [Nat.sub_self];simpa using duo9,rfl,s0_fine,wl,by rw [← hl];exact wr.sd,by simp [gr0],by rw [← hl]⟩,by simp [e1],by simp [e2],by simp [e7],by simp [e11],by simp [hdv],by simp,by simp⟩ ?_
 rintro ⟨tx,te,h10⟩ ⟨t1,⟨st2,s2,G2,p1,p2,l2,Gend,hdn,hp1,duoF,_,_,wl2,_,_,rn⟩,_,_,f7,_,_,f23,_⟩
 simp only at t1 duoF f7 f23
 subst t1
 have hp2:p2=[]:=by
  have:=congrArg List.length hdn
  simp at this
  exact List.length_eq_zero_iff.1 (by omega)
 subst hp2
 obtain ⟨rfl,_⟩:=wl2
 have rn:st2.n=st.n:=rn
 have cr:=duoF.count
 have MF:=duoF.md
 have cr:KW 12 [.ptr r 0] h10=some (.ret (.int .i64 st2.n),h10):=cr
 have CF:CoderAt Dc h10 w (72*min L.length 60) st:=C6.keep (by have:=MF.n;omega) fun b hb hb2=>by
  rw [MF.get b (by omega) fun hd=>by
   have h1:=(hD1 b).1 hd
   rcases (d1 b hb).2 with h3 | h3
   ·have:=(hD0 b).1 h3;omega
   ·omega,x69.get b hb2]
 have cw:KW 12 [.ptr w 0] h10=some (.ret (.int .i64 st.n),h10):=count32_ok CF
 rw [rn] at cr
 have xF:Ext h h10:=⟨by have:=MF.n;omega,fun b hb=>by
  rw [MF.get b (by omega) (fun hd=>by have:=(hD1 b).1 hd;omega),x69.get b (by omega),M6.get b (by omega) (fun hd=>by have:=(hD0 b).1 hd;omega),x05.get b hb]⟩
 simp [f7,f23,cr,cw]
 exact ⟨rfl,xF⟩
theorem wf_i64 {n:Int} (h:(Lit.int .i64 n).wf=true):I64 n:=by
 simp [Lit.wf,IntKind.min,IntKind.max,IntKind.signed,IntKind.bits] at h
 exact ⟨by omega,by omega⟩
theorem six26 {cs:List V} (h:cs.length=26):∃ a0 a1 a2 a3 a4 a5 a6 a7 a8 a9 b0 b1 b2 b3 b4 b5 b6 b7 b8 b9 c0 c1 c2 c3 c4 c5,cs=[a0,a1,a2,a3,a4,a5,a6,a7,a8,a9,b0,b1,b2,b3,b4,b5,b6,b7,b8,b9,c0,c1,c2,c3,c4,c5]:=by
 match cs,h with
 | [a0,a1,a2,a3,a4,a5,a6,a7,a8,a9,b0,b1,b2,b3,b4,b5,b6,b7,b8,b9,c0,c1,c2,c3,c4,c5],_=>exact ⟨_,_,_,_,_,_,_,_,_,_,_,_,_,_,_,_,_,_,_,_,_,_,_,_,_,_,rfl⟩
theorem good22:good Tryz.prog 7 22=true:=by kernel_rfl
theorem c3:Tryz.prog.cellsOf 3=1:=by kernel_rfl
theorem c4:Tryz.prog.cellsOf 4=1:=by kernel_rfl
theorem c37:Tryz.prog.cellsOf 37=2:=by kernel_rfl
theorem c39:Tryz.prog.cellsOf 39=2:=by kernel_rfl
theorem c40:Tryz.prog.cellsOf 40=4:=by kernel_rfl
theorem c42:Tryz.prog.cellsOf 42=23:=by kernel_rfl
theorem c44:Tryz.prog.cellsOf 44=26:=by kernel_rfl
instance:Inhabited Dq:=⟨dqZ⟩
section
variable {Hd:Type}
theorem rd_int {h:H} {x:V} {d:DataW Hd} (a:Rd Tryz.prog h 3 [x] d):∃ n,x=.int .i64 n∧I64 n:=by
 obtain ⟨n,e,w⟩:=a.int_inv Tryz.underlying3
 cases e
 exact ⟨n,rfl,wf_i64 w⟩
theorem rd_bool {h:H} {x:V} {d:DataW Hd} (a:Rd Tryz.prog h 4 [x] d):∃ n,x=.bool n:=by
 obtain ⟨n,e⟩:=a.bool_inv Tryz.underlying4
 cases e
 exact ⟨n,rfl⟩
theorem rd_dq {h:H} {xs:List V} {d:DataW Hd} (a:Rd Tryz.prog h 44 xs d):∃ x:Dq,xs=x.cs∧I64 x.b.x∧I64 x.b.y:=by
 obtain ⟨hl,hf⟩:=a.struct_inv Tryz.underlying44
 rw [c44] at hl
 obtain ⟨a0,a1,a2,a3,a4,a5,a6,a7,a8,a9,b0,b1,b2,b3,b4,b5,b6,b7,b8,b9,q0,q1,q2,q3,q4,q5,rfl⟩:=six26 hl
 obtain ⟨_,g0⟩:=hf 0 _ rfl
 obtain ⟨_,g1⟩:=hf 1 _ rfl
 obtain ⟨_,g2⟩:=hf 2 _ rfl
 obtain ⟨_,g3⟩:=hf 3 _ rfl
 simp [c3,c4,c42] at g0 g1 g2 g3
 obtain ⟨pt,rfl⟩:=rd_bool g1
 obtain ⟨sd,rfl,_⟩:=rd_int g2
 obtain ⟨kn,rfl,_⟩:=rd_int g3
 obtain ⟨_,kf⟩:=g0.struct_inv Tryz.underlying42
 obtain ⟨_,k0⟩:=kf 0 _ rfl
 obtain ⟨_,k1⟩:=kf 1 _ rfl
 obtain ⟨_,k2⟩:=kf 2 _ rfl
 obtain ⟨_,k3⟩:=kf 3 _ rfl
 obtain ⟨_,k4⟩:=kf 4 _ rfl
 obtain ⟨_,k5⟩:=kf 5 _ rfl
 obtain ⟨_,k6⟩:=kf 6 _ rfl
 obtain ⟨_,k7⟩:=kf 7 _ rfl
 obtain ⟨_,k8⟩:=kf 8 _ rfl
 obtain ⟨_,k9⟩:=kf 9 _ rfl
 obtain ⟨_,k10⟩:=kf 10 _ rfl
 obtain ⟨_,k11⟩:=kf 11 _ rfl
 obtain ⟨_,k12⟩:=kf 12 _ rfl
 obtain ⟨_,k13⟩:=kf 13 _ rfl
 obtain ⟨_,k14⟩:=kf 14 _ rfl
 obtain ⟨_,k15⟩:=kf 15 _ rfl
 obtain ⟨_,k16⟩:=kf 16 _ rfl
 obtain ⟨_,k17⟩:=kf 17 _ rfl
 obtain ⟨_,k18⟩:=kf 18 _ rfl
 simp [c3,c4,c37,c40] at k0 k1 k2 k3 k4 k5 k6 k7 k8 k9 k10 k11 k12 k13 k14 k15 k16 k17 k18
 obtain ⟨n0,rfl,i0⟩:=rd_int k0
 obtain ⟨n1,rfl,i1⟩:=rd_int k1
 obtain ⟨n2,rfl,_⟩:=rd_int k2
 obtain ⟨n3,rfl,_⟩:=rd_int k3
 obtain ⟨n4,rfl⟩:=rd_bool k4
 obtain ⟨n5,rfl⟩:=rd_bool k5
 obtain ⟨n6,rfl,_⟩:=rd_int k6
 obtain ⟨n7,rfl,_⟩:=rd_int k7
 obtain ⟨n8,rfl,_⟩:=rd_int k8
 obtain ⟨n9,rfl,_⟩:=rd_int k9
 obtain ⟨n10,rfl,_⟩:=rd_int k10
 obtain ⟨n11,rfl,_⟩:=rd_int k11
 obtain ⟨n12,rfl,_⟩:=rd_int k12
 obtain ⟨n13,rfl⟩:=rd_bool k13
 obtain ⟨n15,rfl,_⟩:=rd_int k15
 obtain ⟨n17,rfl,_⟩:=rd_int k17
 obtain ⟨n18,rfl⟩:=rd_bool k18
 obtain ⟨_,r⟩:=k14.arr_inv Tryz.underlying37
 obtain ⟨_,r0⟩:=r 0 (by decide)
 obtain ⟨_,r1⟩:=r 1 (by decide)
 simp [c3] at r0 r1
 obtain ⟨m0,rfl,_⟩:=rd_int r0
 obtain ⟨m1,rfl,_⟩:=rd_int r1
 obtain ⟨_,v⟩:=k16.arr_inv Tryz.underlying40
 obtain ⟨_,v0⟩:=v 0 (by decide)
 obtain ⟨_,v1⟩:=v 1 (by decide)
 simp [c39] at v0 v1
 obtain ⟨_,u⟩:=v0.struct_inv Tryz.underlying39
 obtain ⟨_,u0⟩:=u 0 _ rfl
 obtain ⟨_,u1⟩:=u 1 _ rfl
 obtain ⟨_,z⟩:=v1.struct_inv Tryz.underlying39
 obtain ⟨_,z0⟩:=z 0 _ rfl
 obtain ⟨_,z1⟩:=z 1 _ rfl
 simp [c3] at u0 u1 z0 z1
 obtain ⟨x0,rfl,_⟩:=rd_int u0
 obtain ⟨y0,rfl,_⟩:=rd_int u1
 obtain ⟨x1,rfl,_⟩:=rd_int z0
 obtain ⟨y1,rfl,_⟩:=rd_int z1
 exact ⟨⟨⟨n0,n1,n2,n3,n4,n5,n6,n7,n8,n9,n10,n11,n12,n13,m0,m1,n15,(x0,y0),(x1,y1),n17,n18⟩,pt,sd,kn⟩,rfl,i0,i1⟩
theorem rd_dqs {h:H} {xs:List V} {d:DataW Hd} (a:Rd Tryz.prog h 22 xs d):∃ (v:V) (L:List Dq),xs=[v]∧DosAt h v L∧∀ d ∈ L,I64 d.b.x∧I64 d.b.y:=by
 obtain ⟨v,n,rfl,s,_⟩:=a.slice_inv Tryz.underlying22
 rw [c44] at s
 have hch:∀ j,j < n→∃ x:Dq,∃ b o,(iaS 26 v (.int .i64 j)=some (.ptr b o)∧h.rdN b o 26=some x.cs)∧I64 x.b.x∧I64 x.b.y:=by
  intro j hj
  obtain ⟨b,o,p,h1,h2,⟨d',h3⟩,_⟩:=s.at hj
  obtain ⟨x,rfl,i0,i1⟩:=rd_dq h3
  exact ⟨x,b,o,⟨h1,h2⟩,i0,i1⟩
 obtain ⟨f,hf⟩:=Go.Deep.choose_lt hch
 refine ⟨v,(List.range n).map f,rfl,⟨by simpa using s.len,fun i x hi=>?_⟩,fun x hx=>?_⟩
 ·have hin:i < n:=by
   rcases Nat.lt_or_ge i n with h | h
   ·exact h
   ·rw [List.getElem?_eq_none (by simpa using h)] at hi;cases hi
  obtain ⟨b,o,h1,_⟩:=hf i hin
  have:x=f i:=by simp [hin] at hi;exact hi.symm
  exact ⟨b,o,h1.1,by rw [this];exact h1.2⟩
 ·simp at hx
  obtain ⟨m,hm,rfl⟩:=hx
  obtain ⟨_,_,_,i⟩:=hf m hm
  exact i
end
theorem argBool {Hd:Type} {i:Inj} {h:H} {w:World} (a:ArgH i h w) {enc:TypeId × Value→Hd} {r:Reach} {b0:Nat} {v:Value} {d:DataW Hd} {ps:List MemPlace} (hok:Value.okWide Tryz.prog w r b0 4 v) (hd:DataW.Trod enc Tryz.prog w 0 (fun _=>true) true 4 v d ps) :
  ∃ b,v=.bool b:=by
 unfold Value.okWide at hok
 rw [Tryz.underlying4] at hok
 cases v with
 | bool b=>exact ⟨b,rfl⟩
 | _=>exact hok.elim
theorem core3 {Hd:Type} {enc:TypeId × Value→Hd} {W:World} {base:Nat} {v0 v1 v2:Value} {d0 d1 d2:DataW Hd} {p0 p1 p2:List MemPlace}
  (hok:Value.okWide Tryz.prog W .any base 22 v0) (hd:DataW.Trod enc Tryz.prog W 0 (fun _=>true) true 22 v0 d0 p0)
  (hok1:Value.okWide Tryz.prog W .any base 4 v1) (hd1:DataW.Trod enc Tryz.prog W 0 (fun _=>true) true 4 v1 d1 p1)
  (hok2:Value.okWide Tryz.prog W .any base 4 v2) (hd2:DataW.Trod enc Tryz.prog W 0 (fun _=>true) true 4 v2 d2 p2)
  (hk:(DataW.weightsEach Tryz.prog [22,4,4] [d0,d1,d2]).all (·≤reachBytes)=true) :
  Calls Tryz.prog 3 #[v0,v1,v2] W fun e W'=>e=.returned (.bool true)∧Go.RowKit.Below W.heap.size W W':=by
 obtain ⟨i,h,y,a,le,X,_,hy,hrd⟩:=argAny 7 good22 (ArgH.empty W) hd
 obtain ⟨v,L,rfl,A,hI⟩:=rd_dqs hrd
 obtain ⟨u,hu,hv⟩:=hy.get (k:=0) rfl
 have hv0:u=v0:=by
  obtain ⟨s0,s1,s2,s3,_⟩:=okWide_slice Tryz.underlying22 hok
  simp [Value.cells] at hu
  exact hu.symm
 rw [hv0] at hv
 obtain ⟨key,rfl⟩:=argBool a hok1 hd1
 obtain ⟨ll,rfl⟩:=argBool a hok2 hd2
 obtain ⟨w,g,hrun,rfl,_⟩:=(back3_ok (key:=key) (ll:=ll) A hI).elim
 exact law_calls (us:=[v0,.bool key,.bool ll]) (callZ_ok mixed kp hrun) a.rel (.cons hv (.cons (.bool key) (.cons (.bool ll) .nil))) a.dom a.no
end Go.Proofs.YtbkmdnmncaakdaaGreat
