import Derived.Test.YtbkmdnmncaakdaaPaMx
set_option linter.unusedVariables false
set_option linter.unusedSimpArgs false
set_option maxRecDepth 20000
namespace Go.Proofs.Ytbkmdnmncaakdaa
open Go Go.Zf
open Go.Zf (wi64)
theorem span22_ok (h:H):KW 22 [.int .i64 0,.int .i64 64] h=some (.ret (.bool true),h):=by
 rw [w22,f22,s22]
 simp [show IntKind.i64.wrap 64=64 by decide,show (0:Int).tmod 64=0 by decide,show (64:Int).tmod 8=0 by decide]
@[simp] theorem bl_tile:bl [.int .i64 0,.int .i64 0,.int .i64 0,.int .i64 0] [(some (2,1),.int .i64 64),(some (3,1),.int .i64 64)]=some (.agg [.int .i64 0,.int .i64 0,.int .i64 64,.int .i64 64]):=id rfl
theorem bl_grid (m:Nat):bl [.bool false,.int .i64 0,.int .i64 0,.int .i64 0,.int .i64 0,.nils,.nilm] [(some (0,1),.bool true),(some (1,4),.agg [.int .i64 0,.int .i64 0,.int .i64 64,.int .i64 64]),(some (6,1),.map m)] =
  some (.agg [.bool true,.int .i64 0,.int .i64 0,.int .i64 64,.int .i64 64,.nils,.map m]):=id rfl
def gr0:Gr:=⟨[],[]⟩
theorem new8_ok (h:H):RT (fun w h'=>∃ g,w=.tup [.ptr g 0,.int .i64 0]∧GridAt (fun b=>h.n≤b∧b < h'.n) h' g gr0∧Ext h h') (KW 8 [.agg [.int .i64 0,.int .i64 0,.int .i64 64,.int .i64 64]] h):=by
 obtain ⟨h1,hh1⟩:∃ z,z=h.new (.cells [.int .i64 0,.int .i64 0,.int .i64 64,.int .i64 64] 39 false):=⟨_,rfl⟩
 have n1:h1.n=h.n+1:=by rw [hh1,H.n_new]
 have x1:Ext h h1:=by rw [hh1];exact (Ext.refl h).new _
 have g1:h1.get h.n=some (.cells [.int .i64 0,.int .i64 0,.int .i64 64,.int .i64 64] 39 false):=by rw [hh1,get_new_same]
 have r0:=rd1_of (o:=0) g1
 have r1:=rd1_of (o:=1) g1
 have r2:=rd1_of (o:=2) g1
 have r3:=rd1_of (o:=3) g1
 have rn:h1.rdN h.n 0 4=some [.int .i64 0,.int .i64 0,.int .i64 64,.int .i64 64]:=by rw [rdN_of g1 (by simp)];rfl
 obtain ⟨h2,hh2⟩:∃ z,z=h1.new (.map []):=⟨_,rfl⟩
 have n2:h2.n=h1.n+1:=by rw [hh2,H.n_new]
 obtain ⟨h3,hh3⟩:∃ z,z=h2.new (.cells [.bool true,.int .i64 0,.int .i64 0,.int .i64 64,.int .i64 64,.nils,.map h1.n] 78 false):=⟨_,rfl⟩
 have n3:h3.n=h2.n+1:=by rw [hh3,H.n_new]
 have x3:Ext h h3:=by rw [hh3,hh2];exact (x1.new _).new _
 rw [w8,f8,s8]
 simp [bx,← hh1,r0,r1,r2,r3,span22_ok,rn,mkM,← hh2,bl_grid,← hh3]
 exact ⟨h2.n,rfl,⟨⟨.nils,h1.n,by rw [hh3,get_new_same],by rw [hh3,get_new_lt (by omega),hh2,get_new_same];rfl,GrowV.nil _ _ _ _,⟨by omega,by omega⟩,⟨by omega,by omega⟩,by omega,fun c o n k e=>by cases e⟩,⟨by simp [gr0],by simp [gr0],by simp [gr0]⟩,fun b hb=>hb.2⟩,x3⟩
def usA:Bk:={ bkZ with w:=8,h:=8,ym:=1,yd := -1,um:=13,cu:=3,tx:=8 }
def usB:Bk:={ bkZ with x:=8,w:=16,h:=8,skip:=true,inter:=true,r0:=2,mm:=3,m0:=(5,0),tx:=8 }
theorem bl_usA:bl bkZ.cs [(some (2,1),.int .i64 8),(some (3,1),.int .i64 8),(some (6,1),.int .i64 1),(some (7,1),.int .i64 (-1)),(some (8,1),.int .i64 13),(some (10,1),.int .i64 3),(some (12,1),.int .i64 8)]=some (.agg usA.cs):=id rfl
theorem bl_usB:bl bkZ.cs [(some (0,1),.int .i64 8),(some (2,1),.int .i64 16),(some (3,1),.int .i64 8),(some (4,1),.bool true),(some (5,1),.bool true),(some (14,2),.agg [.int .i64 2,.int .i64 0]),(some (16,1),.int .i64 3),(some (17,4),.agg [.int .i64 5,.int .i64 0,.int .i64 0,.int .i64 0]),(some (12,1),.int .i64 8)]=some (.agg usB.cs):=id rfl
theorem bl_v5:bl [.int .i64 0,.int .i64 0] [(some (0,1),.int .i64 5)]=some (.agg [.int .i64 5,.int .i64 0]):=id rfl
theorem bl_v4:bl [.int .i64 0,.int .i64 0,.int .i64 0,.int .i64 0] [(some (0,2),.agg [.int .i64 5,.int .i64 0])]=some (.agg [.int .i64 5,.int .i64 0,.int .i64 0,.int .i64 0]):=id rfl
theorem usual13_ok (h:H):RT (fun w h'=>w=.tup [usA.v,usB.v]∧Ext h h') (KW 13 [] h):=by
 obtain ⟨h1,hh1⟩:∃ z,z=h.new (.cells bkZ.cs 45 false):=⟨_,rfl⟩
 have n1:h1.n=h.n+1:=by rw [hh1,H.n_new]
 obtain ⟨h2,hh2⟩:∃ z,z=h1.new (.cells bkZ.cs 45 false):=⟨_,rfl⟩
 have n2:h2.n=h1.n+1:=by rw [hh2,H.n_new]
 have x2:Ext h h2:=by rw [hh2,hh1];exact ((Ext.refl h).new _).new _
 have g0:h2.get h.n=some (.cells bkZ.cs 45 false):=by rw [hh2,get_new_lt (by omega),hh1,get_new_same]
 have w0:h2.wrN h.n 0 usA.cs=some (h2.put h.n (.cells usA.cs 45 false)):=by rw [wrN_of g0 (by simp)];rfl
 obtain ⟨h3,hh3⟩:∃ z,z=h2.put h.n (.cells usA.cs 45 false):=⟨_,rfl⟩
 have x3:Ext h h3:=by rw [hh3];exact x2.put (Nat.le_refl _) _
 have g1:h3.get h1.n=some (.cells bkZ.cs 45 false):=by rw [hh3,get_put_ne (by omega),hh2,get_new_same]
 have w1:h3.wrN h1.n 0 usB.cs=some (h3.put h1.n (.cells usB.cs 45 false)):=by rw [wrN_of g1 (by simp)];rfl
 obtain ⟨h4,hh4⟩:∃ z,z=h3.put h1.n (.cells usB.cs 45 false):=⟨_,rfl⟩
 have x4:Ext h h4:=by rw [hh4];exact x3.put (by omega) _
 have r0:h4.rdN h.n 0 23=some usA.cs:=by rw [rdN_of (by rw [hh4,get_put_ne (by omega),hh3,get_put_same (H.get_lt g0)]) (by simp)];rfl
 have r1:h4.rdN h1.n 0 23=some usB.cs:=by rw [rdN_of (by rw [hh4,get_put_same (H.get_lt g1)]) (by simp)];rfl
 rw [w13,f13,s13]
 simp [nw,← hh1,← hh2,bl_usA,bl_v5,bl_v4,bl_usB,w0,← hh3,w1,← hh4,r0,r1]
 exact ⟨rfl,x4⟩
def usOps (b:Bk):List Op:=(blockP true false false 0 0 (vsOf gr0 b) b).ech.2
theorem cost_A:costL (usOps usA)=8:=by kernel_rfl
theorem cost_B:costL (usOps usB)=11:=by kernel_rfl
theorem may_A:MayB false false usA:=by decide +kernel
theorem may_B:MayB false false usB:=by decide +kernel
theorem cnt_0 (is:Bk→Bool) (x y:Int):cntP is gr0 x y=0:=by
 have h:∀ x y,gr0.at x y=none:=fun x y=>by unfold Gr.at;split <;> rfl
 unfold cntP;rw [h,h];rfl
theorem us_ech {b:Bk} (mb:MayB false false b) (ag:AgreeB (vsOf gr0 b) b):(blockP true false false 0 0 (vsOf gr0 b) b).ech=(some b,usOps b)∧Pr.Rd (blockP false false false 0 0 (vsOf gr0 b) (shapeB b)) (some b) (usOps b):=by
 obtain ⟨l,h1,h2⟩:=block_w (sc:=0) (ic:=0) (by decide) (by decide) (vsOf_ok (G:=gr0) ⟨by simp [gr0],by simp [gr0],by simp [gr0]⟩ b) mb ag
 have:l=usOps b:=by unfold usOps;rw [h1]
 rw [← this]
 exact ⟨h1,h2⟩
end Go.Proofs.Ytbkmdnmncaakdaa
