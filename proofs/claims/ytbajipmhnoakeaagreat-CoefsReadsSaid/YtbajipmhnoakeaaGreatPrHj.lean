import Derived.Test.YtbajipmhnoakeaaGreatPrHi
set_option linter.unusedVariables false
set_option linter.unusedSimpArgs false
set_option maxRecDepth 20000
namespace Go.Proofs.YtbajipmhnoakeaaGreat
open Go Go.Zf Go.RowKit Go.WideShapes
open Go.Zf (wi64)
instance : Inhabited Dg := ⟨⟨0,0,0,[]⟩⟩
theorem cells36 : Tryz.prog.cellsOf 36 = 4 := by kernel_rfl
theorem cells3 : Tryz.prog.cellsOf 3 = 1 := by kernel_rfl
theorem cells34 : Tryz.prog.cellsOf 34 = 1 := by kernel_rfl
theorem good22 : good Tryz.prog 5 22 = true := by kernel_rfl
theorem four {cs : List V} (h : cs.length = 4) : ∃ a b c d,cs = [a,b,c,d] := by
 match cs,h with
 | [a,b,c,d],_ => exact ⟨a,b,c,d,rfl⟩
section
variable {Hd : Type}
theorem rd_ints {h : H} {xs : List V} {d : DataW Hd} (a : Rd Tryz.prog h 34 xs d) : ∃ v l,xs = [v] ∧ IntsX (fun _ => False) h v l ∧ l.length ≤ maxLen := by
 obtain ⟨v,n,rfl,s,_⟩ := a.slice_inv Tryz.underlying34
 rw [cells3] at s
 have hch : ∀ j,j < n → ∃ x : Int,∃ b o,iaS 1 v (.int .i64 j) = some (.ptr b o) ∧ h.rd1 b o = some (.int .i64 x) ∧ b < h.n := by
  intro j hj
  obtain ⟨b,o,p,h1,h2,⟨d',h3⟩,h4,h5⟩ := s.at hj
  obtain ⟨x,rfl,_⟩ := h3.int_inv Tryz.underlying3
  exact ⟨x,b,o,h1,h5 0 _ rfl,h4⟩
 obtain ⟨f,hf⟩ := Go.Deep.choose_lt hch
 refine ⟨v,(List.range n).map f,rfl,⟨by simpa using s.len,fun i x hi => ?_,s.cell,s.same,s.cells⟩,by simpa using s.1⟩
 have hin : i < n := by have := lt_of_get hi; simpa using this
 obtain ⟨b,o,h1,h2,h3⟩ := hf i hin
 have : x = f i := by simp [hin] at hi; exact hi.symm
 exact ⟨b,o,h1,by rw [this]; exact h2,fun h => h,h3⟩
theorem rd_do {h : H} {xs : List V} {d : DataW Hd} (a : Rd Tryz.prog h 36 xs d) : ∃ x,DoG h xs x := by
 obtain ⟨hl,hf⟩ := a.struct_inv Tryz.underlying36
 rw [cells36] at hl
 obtain ⟨x0,x1,x2,x3,rfl⟩ := four hl
 obtain ⟨_,g0⟩ := hf 0 _ rfl
 obtain ⟨_,g1⟩ := hf 1 _ rfl
 obtain ⟨_,g2⟩ := hf 2 _ rfl
 obtain ⟨_,g3⟩ := hf 3 _ rfl
 simp [cells3,cells34] at g0 g1 g2 g3
 obtain ⟨n0,e0,_⟩ := g0.int_inv Tryz.underlying3
 obtain ⟨n1,e1,_⟩ := g1.int_inv Tryz.underlying3
 obtain ⟨n2,e2,_⟩ := g2.int_inv Tryz.underlying3
 obtain ⟨v,l,e3,hI,_⟩ := rd_ints g3
 simp at e0 e1 e2 e3
 subst e0 e1 e2 e3
 exact ⟨⟨n0,n1,n2,l⟩,_,rfl,hI⟩
theorem rd_dos {h : H} {xs : List V} {d : DataW Hd} (a : Rd Tryz.prog h 22 xs d) : ∃ (v : V) (l : List Dg),xs = [v] ∧ SlA h 4 v l.length (fun j p => ∀ x,l[j]? = some x → DoG h p x) ∧ (d = .nil ∧ l.length = 0 ∨ ∃ es sp,d = .slice es sp ∧ es.length = l.length) := by
 obtain ⟨v,n,rfl,s,hd⟩ := a.slice_inv Tryz.underlying22
 rw [cells36] at s
 -- the pieces
 have hch : ∀ j,j < n → ∃ x : Dg,∀ b o,iaS 4 v (.int .i64 j) = some (.ptr b o) → ∃ p,h.rdN b o 4 = some p ∧ DoG h p x := by
  intro j hj
  obtain ⟨b,o,p,h1,h2,⟨d',h3⟩,h4,h5⟩ := s.at hj
  obtain ⟨x,hx⟩ := rd_do h3
  exact ⟨x,fun b' o' h6 => by rw [h1] at h6; cases h6; exact ⟨p,h2,hx⟩⟩
 obtain ⟨f,hf⟩ := Go.Deep.choose_lt hch
 refine ⟨v,(List.range n).map f,rfl,?_,?_⟩
 ·rw [List.length_map,List.length_range]
  refine ⟨s.1,?_⟩
  rcases s.2 with h1 | ⟨b,cap,h1,h2,h3,h4⟩
  ·exact .inl h1
  ·refine .inr ⟨b,cap,h1,h2,h3,?_⟩
   rcases h4 with h4 | ⟨c,ty,h5,h6,h7⟩
   ·exact .inl h4
   ·refine .inr ⟨c,ty,h5,h6,fun j hj x hx => ?_⟩
    have hl : j * 4 + 4 ≤ c.length := by omega
    obtain ⟨p,q1,q2⟩ := hf j hj b (j * 4) (by rw [h1]; simp [hj])
    rw [rdN_of h5 hl] at q1
    have e1 : x = f j := by simp [hj] at hx; exact hx.symm
    rw [Option.some.inj q1,e1]; exact q2
 ·simpa using hd
end
theorem cells5 : Tryz.prog.cellsOf 5 = 1 := by kernel_rfl
theorem wf_u8 {n : Int} (h : (Lit.int .u8 n).wf = true) : ∃ m : Nat,m < 256 ∧ n = m := by
 simp [Lit.wf,IntKind.min,IntKind.max,IntKind.signed,IntKind.bits] at h
 exact ⟨n.toNat,by omega,by omega⟩
theorem argBytes {i : Inj} {h : H} {w : World} (a : ArgH i h w) {Hd : Type} {enc : TypeId × Value → Hd} {r : Reach} {b0 : Nat} {v : Value} {d : DataW Hd} {ps : List MemPlace}
  (hok : Value.okWide Tryz.prog w r b0 48 v) (hd : DataW.Trod enc Tryz.prog w 0 (fun _ => true) true 48 v d ps) :
  ∃ i' h' x l,ArgH i' h' w ∧ i.le i' ∧ VRel i' x v ∧ SlB h' x l ∧ h.n ≤ h'.n ∧ (∀ c,c < h.n → h'.get c = h.get c) ∧ l.length < 9223372036854775808 ∧ (∀ y ∈ l,y < 256) ∧ (l = [] ∨ ∃ elems spare,d = .slice elems spare ∧ elems.length = l.length) ∧
   ∀ m,m ≤ l.length → ∃ y,slS 1 x none (some (.int .i64 (m : Nat))) none = some y ∧ SlB h' y (l.take m) := by
 rcases open_cells (z := 1) (Q := qByte) Tryz.underlying48 cells5 (by decide) hok hd (fun n cs y hy => by
  obtain ⟨n0,rfl,_,w0⟩ := DataW.trod_int Tryz.underlying5 hy
  obtain ⟨m0,l0,rfl⟩ := wf_u8 w0
  refine ⟨fun _ => .int .u8 m0,fun j hj => ?_,m0,l0,rfl⟩
  match j,hj with
  | 0,_ => exact ⟨rfl,_,rfl,fun _ => .int _ _⟩)
  (fun g g' hg ⟨n,q1,q2⟩ => ⟨n,q1,by rw [← hg 0 (by decide),q2]⟩) with rfl | ⟨B,off,len,cap,G,C,e',fr,rfl,s,els,sp,hd1,hd2⟩
 ·exact ⟨i,h,.nils,[],a,fun _ _ h => h,.nils,.inl ⟨rfl,rfl⟩,Nat.le_refl _,fun _ _ => rfl,by decide,by simp,.inl rfl,fun m hm => ⟨.nils,by
   have : m = 0 := by simpa using hm
   subst this; rfl,.inl ⟨rfl,by simp⟩⟩⟩
 ·obtain ⟨i',h1,h2,h3⟩ := a.slice s
  have hch : ∀ m,m < cap → ∃ q : Nat,q < 256 ∧ G m = .int .u8 q := fun m hm => by
   obtain ⟨n,q1,q2⟩ := s.el m hm
   exact ⟨n,q1,by simpa using q2⟩
  obtain ⟨q,hq⟩ := Go.Deep.choose_lt hch
  have hle := s.le
  have hmx := s.max
  refine ⟨i',_,_,(List.range len).map q,h1,h2,h3,.inr ⟨h.n,0,.ex cap,_,_,_,by simp,get_new_same,by simpa using hle,?_⟩,by rw [H.n_new]; omega,fun c hc => get_new_lt hc,by simp only [maxLen] at hmx; simp; omega,?_,.inr ⟨els,sp,hd1,by simp [hd2]⟩,fun m hm => ?_⟩
  ·apply List.ext_getElem?
   intro m
   by_cases hm : m < len
   ·have := (hq m (by omega)).2
    simp [bytesV,hm,show m < cap by omega,this,List.getElem?_take]
   ·simp [bytesV,hm,List.getElem?_take]
  ·intro y hy
   simp at hy
   obtain ⟨m,hm,rfl⟩ := hy
   exact (hq m (by omega)).1
  ·have hm' : m ≤ len := by simpa using hm
   refine ⟨.sl h.n 0 m (.ex cap),by simp [slS,sbV,optB,show (m : Int) ≤ cap by omega,show m ≤ cap by omega],.inr ⟨h.n,0,.ex cap,_,_,_,by simp [Nat.min_eq_left hm'],get_new_same,by simp; omega,?_⟩⟩
   apply List.ext_getElem?
   intro j
   by_cases hj : j < m
   ·have := (hq j (by omega)).2
    simp [bytesV,hj,show j < cap by omega,show j < len by omega,show j < min m len by omega,this,List.getElem?_take]
   ·simp [bytesV,hj,show ¬ j < min m len by omega,List.getElem?_take]
theorem reach {Hd : Type} {ts : List TypeId} {ds : List (DataW Hd)} (hk : (DataW.weightsEach Tryz.prog ts ds).all (· ≤ reachBytes) = true) {j : Nat} {d : DataW Hd} {l : List Nat} (ht : ts[j]? = some 48) (hd : ds[j]? = some d)
  (hl : l = [] ∨ ∃ elems spare,d = .slice elems spare ∧ elems.length = l.length) : l.length ≤ 140737488351232 := by
 rcases hl with rfl | ⟨elems,spare,rfl,h2⟩
 ·simp
 ·have h := sized_slice hk ht hd Tryz.underlying48
  rw [show Tryz.prog.bytesOf 5 = 1 by kernel_rfl] at h
  simp only [reachBytes] at h
  omega
theorem core4 {Hd : Type} {enc : TypeId × Value → Hd} {W : World} {base : Nat} {v0 v1 : Value} {d0 d1 : DataW Hd} {p0 p1 : List MemPlace}
  (hok : Value.okWide Tryz.prog W .any base 48 v0) (hd : DataW.Trod enc Tryz.prog W 0 (fun _ => true) true 48 v0 d0 p0)
  (hok1 : Value.okWide Tryz.prog W .any base 22 v1) (hd1 : DataW.Trod enc Tryz.prog W 0 (fun _ => true) true 22 v1 d1 p1)
  (hk : (DataW.weightsEach Tryz.prog [48,22] [d0,d1]).all (· ≤ reachBytes) = true) :
  Calls Tryz.prog 4 #[v0,v1] W fun e W' => e = .returned (.bool true) ∧ Go.RowKit.Below W.heap.size W W' := by
 obtain ⟨i,h,x,l,a,_,hx,hB,n1,k1,hl,hb,hr,_⟩ := argBytes (ArgH.empty W) hok hd
 obtain ⟨i',h',y,a',le,X,_,hy,hrd⟩ := argAny 5 good22 a hd1
 obtain ⟨v,ls,rfl,A,_⟩ := rd_dos hrd
 obtain ⟨u,hu,hv⟩ := hy.get (k := 0) rfl
 have hv0 : u = v1 := by
  obtain ⟨s0,s1,s2,s3,_⟩ := okWide_slice Tryz.underlying22 hok1
  simp [Value.cells] at hu
  exact hu.symm
 rw [hv0] at hv
 have hl' := reach hk (j := 0) rfl rfl hr
 obtain ⟨w,h'',hrun,rfl,_⟩ := (reads4_ok (hB.keep X.get) (by omega) hb A).elim
 exact law_calls (us := [v0,v1]) (callW_ok mixed kp ovC_ok hrun) a'.rel (.cons (hx.mono le) (.cons hv .nil)) a'.dom a'.no
end Go.Proofs.YtbajipmhnoakeaaGreat
