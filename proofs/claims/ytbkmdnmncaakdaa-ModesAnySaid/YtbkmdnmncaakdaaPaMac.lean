import Derived.Test.YtbkmdnmncaakdaaPaMab
set_option linter.unusedVariables false
set_option linter.unusedSimpArgs false
set_option maxRecDepth 20000
namespace Go.Proofs.Ytbkmdnmncaakdaa
open Go Go.Zf
open Go.Zf (wi64)
open Go.ChangeShapes Go.WideShapes
theorem any3_ok {h:H} {bv cv:V} {l:List Nat} {N:Nat} {key ll:Bool} (sb:SlB h bv l) (hl:l.length < 140737488355329) (hb:∀ x ∈ l,x < 256) (cl:CellsAt h cv N) :
  RT (fun w h'=>w=.bool true∧Ext h h') (KW 3 [bv,cv,.agg [.bool key,.bool ll]] h):=by
 obtain ⟨h1,hh1⟩:∃ z,z=h.new (.cells [.bool key,.bool ll] 24 false):=⟨_,rfl⟩
 have x1:Ext h h1:=by rw [hh1];exact (Ext.refl h).new _
 have n1:h1.n=h.n+1:=by rw [hh1,H.n_new]
 have g1:h1.get h.n=some (.cells [.bool key,.bool ll] 24 false):=by rw [hh1,get_new_same]
 obtain ⟨_,h2,a2,rfl,x2⟩:=(awake4_ok h1).elim
 obtain ⟨_,h3,a3,v3,rfl,W3,x3⟩:=(default27_ok h2).elim
 have x03:=(x1.trans x2).trans x3
 obtain ⟨_,h4,a4,r,rfl,C4,x4⟩:=(reader25_ok (sb.keep x03.get) hl hb W3.setR defS_ok true).elim
 obtain ⟨_,h5,a5,v5,rfl,W5,x5⟩:=(default27_ok h4).elim
 obtain ⟨_,h6,a6,w,rfl,C6,x6⟩:=(writer12_ok W5.setR defS_ok true).elim
 obtain ⟨_,h7,a7,g,rfl,G7,x7⟩:=(new8_ok h6).elim
 have C4:=C4.cut
 have C6:=C6.cut
 have m2:=x2.n
 have m3:=x3.n
 have m4:=x4.n
 have m5:=x5.n
 have m6:=x6.n
 have m7:=x7.n
 have x17:=(((((x2.trans x3).trans x4).trans x5).trans x6).trans x7)
 have x47:=(x5.trans x6).trans x7
 have C4':=C4.keep x47.n fun b _ hb=>x47.get b hb
 have C6':=C6.keep x7.n fun b _ hb=>x7.get b hb
 rw [w3,f3,s3]
 simp [bx,← hh1,a2,a3,a4,a5,a6,a7]
 refine loop_in (C:=fun o=>RT _ (fin Try.prog _ _ (sq (blk 0 o) _))) _ _ (loop3 (h0:=h1) (r:=r) (w:=w) (g:=g) (p5:=h.n) (key:=key) (ll:=ll) (cl.ext x1) g1) (min N 64)
  ⟨Nat.le_refl _,⟨newR l defS true,newW defS true,s0,gr0,⟨x17,⟨_,_,_,by rw [Nat.sub_self];exact C4',by rw [Nat.sub_self];exact C6',G7,fun b hb=>by omega,fun b hb=>by omega,fun b hb=>by omega,fun b hb hd=>by omega,fun b hb=>⟨fun hd=>by omega,fun hd=>by omega⟩⟩,rfl,rfl,s0_fine,rfl⟩,by simp [gr0]⟩,by simp,by simp,by simp,by simp,by simp,by simp⟩ ?_
 rintro ⟨sx,se,sh⟩ (⟨s1,⟨st,sw,s,G,⟨xx,⟨Dr,Dw,Dg,c1,c2,c3,_⟩,_,_,_,nn⟩,_⟩,e1,e5,e7,e9,e11,e13⟩ | ⟨s1,e6,xx⟩)
 ·simp only at s1 xx c1 c2 e7 e9
  subst s1
  have k1:=count32_ok c1
  have k2:=count32_ok c2
  rw [nn] at k1
  simp [e9,e7,k1,k2]
  exact ⟨rfl,x1.trans xx⟩
 ·simp only at s1 e6 xx
  subst s1
  simp [e6]
  exact ⟨rfl,x1.trans xx⟩
theorem good23:good Try.prog 4 23=true:=by kernel_rfl
theorem good24:good Try.prog 4 24=true:=by kernel_rfl
theorem underlying24:Try.prog.underlying 24=some (.array 2 4):=by kernel_rfl
theorem core3 {Hd:Type} {enc:TypeId × Value→Hd} {W:World} {base:Nat} {v0 v1 v2:Value} {d0 d1 d2:DataW Hd} {p0 p1 p2:List MemPlace}
  (hok:Value.okWide Try.prog W .any base 22 v0) (hd:DataW.Trod enc Try.prog W 0 (fun _=>true) true 22 v0 d0 p0)
  (hok1:Value.okWide Try.prog W .any base 23 v1) (hd1:DataW.Trod enc Try.prog W 0 (fun _=>true) true 23 v1 d1 p1)
  (hok2:Value.okWide Try.prog W .any base 24 v2) (hd2:DataW.Trod enc Try.prog W 0 (fun _=>true) true 24 v2 d2 p2)
  (hk:(DataW.weightsEach Try.prog [22,23,24] [d0,d1,d2]).all (·≤reachBytes)=true) :
  Calls Try.prog 3 #[v0,v1,v2] W fun e W'=>e=.returned (.bool true)∧Go.RowKit.Below W.heap.size W W':=by
 obtain ⟨i,h,x,l,a,_,hx,hB,n1,k1,hl,hb,hr,_⟩:=argBytes (ArgH.empty W) hok hd
 obtain ⟨i',h',y,a',le,X,_,hy,hrd⟩:=argAny 4 good23 a hd1
 obtain ⟨i'',h'',z,a'',le',X',_,hz,hrd2⟩:=argAny 4 good24 a' hd2
 obtain ⟨v,n,rfl,A,_⟩:=hrd.slice_inv Try.underlying23
 have hcell:Try.prog.cellsOf 3=1:=by kernel_rfl
 rw [hcell] at A
 obtain ⟨u,hu,hv⟩:=hy.get (k:=0) rfl
 have hv0:u=v1:=by
  obtain ⟨s0,s1,s2,s3,_⟩:=okWide_slice Try.underlying23 hok1
  simp [Value.cells] at hu
  exact hu.symm
 rw [hv0] at hv
 have hl':=reach hk (j:=0) rfl rfl hr
 have cl:CellsAt h'' v n:=by
  refine ⟨A.len,fun j hj=>?_⟩
  obtain ⟨b,o,p,h1,h2,⟨d',h3⟩,h4,h5⟩:=A.at hj
  obtain ⟨m,rfl,_⟩:=h3.int_inv Try.underlying3
  exact ⟨b,o,m,h1,by rw [← h5 0 _ rfl];unfold H.rd1;rw [X'.get b h4,Nat.add_zero],by have:=X'.n;omega⟩
 obtain ⟨zl,hz2⟩:=hrd2.arr_inv underlying24
 have hc4:Try.prog.cellsOf 4=1:=by kernel_rfl
 rw [hc4] at zl hz2
 obtain ⟨_,q0⟩:=hz2 0 (by decide)
 obtain ⟨_,q1⟩:=hz2 1 (by decide)
 obtain ⟨key,hk0⟩:=q0.bool_inv Try.underlying4
 obtain ⟨ll,hk1⟩:=q1.bool_inv Try.underlying4
 have ez:z=[.bool key,.bool ll]:=by
  match z,zl,hk0,hk1 with
  | [a,b],_,h0,h1 =>
   simp at h0 h1
   rw [h0,h1]
 subst ez
 obtain ⟨cs,rfl,_⟩:∃ cs:Array Value,v2=.agg cs∧cs.size=Try.prog.cellsOf 24:=by
  have h:=hok2
  simp only [Value.okWide,underlying24] at h
  obtain ⟨cs,h1,h2,_⟩:=h
  exact ⟨cs,h1,h2⟩
 have hz3:VRel i'' (.agg [.bool key,.bool ll]) (.agg cs):=by
  have:=VRel.agg hz rfl
  simpa [Value.cells] using this
 obtain ⟨w,g,hrun,rfl,_⟩:=(any3_ok (key:=key) (ll:=ll) ((hB.keep X.get).keep X'.get) (by omega) hb cl).elim
 exact law_calls (us:=[v0,v1,.agg cs]) (callZ_ok mixed kp hrun) a''.rel (.cons ((hx.mono le).mono le') (.cons (hv.mono le') (.cons hz3 .nil))) a''.dom a''.no
end Go.Proofs.Ytbkmdnmncaakdaa
