import Derived.Test.YtbajipmhnoakeaaGreatPwHn
import Derived.Test.YtbajipmhnoakeaaGreatPwHj
set_option linter.unusedVariables false
set_option linter.unusedSimpArgs false
set_option maxRecDepth 20000
namespace Go.Proofs.YtbajipmhnoakeaaGreat
open Go Go.Zf Go.RowKit Go.WideShapes
open Go.Zf (wi64)
theorem wAll_mem {Hd : Type} {P : Program} {e : TypeId} : ∀ {l : List (DataW Hd)} {j : Nat} {d : DataW Hd},l[j]? = some d → ∀ n ∈ d.weights P e,n ∈ DataW.weightsAll P e l
 | [],j,d,hd,n,hn => by simp at hd
 | d' :: r,0,d,hd,n,hn => by
  simp at hd; subst hd
  simp only [DataW.weightsAll,List.mem_append]; exact .inl hn
 | d' :: r,j + 1,d,hd,n,hn => by
  simp at hd
  simp only [DataW.weightsAll,List.mem_append]; exact .inr (wAll_mem hd n hn)
section
variable {Hd : Type}
theorem struct_w {P : Program} {h : H} {t : TypeId} {fs : Array Field} {xs : List V} {d : DataW Hd} (a : Rd P h t xs d) (ht : P.underlying t = some (.struct fs)) :
  xs.length = P.cellsOf t ∧ ∀ (j : Nat) (f : Field),fs[j]? = some f → ∃ d' : DataW Hd,Rd P h f.type ((xs.drop f.offset).take (P.cellsOf f.type)) d' ∧ ∀ n ∈ d'.weights P f.type,n ∈ d.weights P t := by
 cases a with
 | @struct _ _ _ ds h1 hl hd hf =>
  rw [ht] at h1; cases h1
  refine ⟨hl,fun j f hj => ?_⟩
  have hjl : j < fs.size := (Array.getElem?_eq_some_iff.mp hj).1
  have hd' : ds[j]? = some (ds[j]'(by omega)) := List.getElem?_eq_getElem (by omega)
  refine ⟨_,hf j f _ hj hd',fun n hn => ?_⟩
  simp only [DataW.weights,ht]
  exact DataW.weights_mem_each (j := j) (t := f.type) (by rw [List.getElem?_map,Array.getElem?_toList,hj]; rfl) hd' n hn
 | int h1 | bool h1 | str h1 | nils h1 | sle h1 | sl h1 | arr h1 => rw [ht] at h1; cases h1
theorem slice_w {P : Program} {h : H} {t e : TypeId} {xs : List V} {d : DataW Hd} (a : Rd P h t xs d) (ht : P.underlying t = some (.slice e)) :
  ∃ v n,xs = [v] ∧ SlA h (P.cellsOf e) v n (fun _ p => ∃ d' : DataW Hd,Rd P h e p d' ∧ ∀ n ∈ d'.weights P e,n ∈ d.weights P t) := by
 cases a with
 | nils h1 => exact ⟨_,0,rfl,Nat.zero_le _,.inl ⟨rfl,rfl⟩⟩
 | sle h1 => exact ⟨.sl 0 0 0 (.ex 0),0,rfl,Nat.zero_le _,.inr ⟨0,0,rfl,Nat.zero_le _,Nat.zero_le _,.inl rfl⟩⟩
 | @sl _ _ b n cap c ty es sp h1 hb hn hc h2 h3 he =>
  rw [ht] at h1; cases h1
  refine ⟨_,_,rfl,Nat.le_trans h2 h3,.inr ⟨_,_,rfl,h2,h3,.inr ⟨_,_,hb,by omega,fun j hj => ?_⟩⟩⟩
  have hd' : es[j]? = some (es[j]'(by omega)) := List.getElem?_eq_getElem (by omega)
  refine ⟨_,he j _ hd',fun n hn => ?_⟩
  simp only [DataW.weights,ht,List.mem_cons,List.mem_append]
  exact .inr (.inl (wAll_mem hd' n hn))
 | int h1 | bool h1 | str h1 | struct h1 | arr h1 => rw [ht] at h1; cases h1
theorem bytes3 : Tryz.prog.bytesOf 3 = 8 := by kernel_rfl
theorem rd_intsW {h : H} {xs : List V} {d : DataW Hd} (a : Rd Tryz.prog h 34 xs d) (hc : AllCells h) (h0 : 0 < h.n) :
  ∃ v l,xs = [v] ∧ IntsX (fun _ => False) h v l ∧ firstV h 1 l.length v = some (intsV l) ∧ lenOf v = some l.length ∧ (l.length = 0 ∨ ∃ m ∈ d.weights Tryz.prog 34,l.length * 8 ≤ m) := by
 obtain ⟨v,l,rfl,hI,hl⟩ := rd_ints a
 have hln := hI.len
 refine ⟨v,l,rfl,hI,?_⟩
 cases a with
 | nils h1 =>
  have : l = [] := by simp at hln; exact List.length_eq_zero_iff.mp (by omega)
  subst this
  exact ⟨rfl,rfl,.inl rfl⟩
 | sle h1 =>
  have : l = [] := by simp at hln; exact List.length_eq_zero_iff.mp (by omega)
  subst this
  obtain ⟨c,e,h2⟩ := hc 0 h0
  exact ⟨by simp [firstV,rdN_of h2,intsV],rfl,.inl rfl⟩
 | @sl _ e b n cap c ty es sp h1 hb hn hcl h2 h3 he =>
  have : n = l.length := by simp at hln; omega
  subst this
  rw [Tryz.underlying34] at h1; cases h1
  rw [cells3] at hcl
  refine ⟨?_,rfl,.inr ⟨(es.length + sp.length) * 8,?_,?_⟩⟩
  ·have hce : c = intsV l := by
    apply List.ext_getElem?
    intro j
    by_cases hj : j < l.length
    ·obtain ⟨b',o',q1,q2,_⟩ := hI.at_ j _ (List.getElem?_eq_getElem hj)
     simp [hj] at q1
     obtain ⟨rfl,rfl⟩ := q1
     rw [rd1_of hb] at q2
     rw [q2,intsV_get _ _ hj]; simp [hj]
    ·rw [List.getElem?_eq_none (by omega),List.getElem?_eq_none (by rw [intsV_length]; omega)]
   simp only [firstV]
   rw [rdN_of hb (by omega),hce,List.drop_zero,List.take_of_length_le (by rw [intsV_length]; omega)]
  ·simp only [DataW.weights,Tryz.underlying34,bytes3,List.mem_cons,true_or]
  ·exact Nat.mul_le_mul_right 8 (by omega)
 | int h1 | bool h1 | str h1 | struct h1 | arr h1 => rw [Tryz.underlying34] at h1; cases h1
theorem rd_doW {h : H} {xs : List V} {d : DataW Hd} (a : Rd Tryz.prog h 36 xs d) (hc : AllCells h) (h0 : 0 < h.n) (hw : ∀ n ∈ d.weights Tryz.prog 36,n ≤ reachBytes) : ∃ x,DoW h xs x := by
 obtain ⟨hl,hf⟩ := struct_w a Tryz.underlying36
 rw [cells36] at hl
 obtain ⟨x0,x1,x2,x3,rfl⟩ := four hl
 obtain ⟨_,g0,_⟩ := hf 0 _ rfl
 obtain ⟨_,g1,_⟩ := hf 1 _ rfl
 obtain ⟨_,g2,_⟩ := hf 2 _ rfl
 obtain ⟨d3,g3,w3⟩ := hf 3 _ rfl
 simp [cells3,cells34] at g0 g1 g2 g3
 obtain ⟨n0,e0,_⟩ := g0.int_inv Tryz.underlying3
 obtain ⟨n1,e1,_⟩ := g1.int_inv Tryz.underlying3
 obtain ⟨n2,e2,_⟩ := g2.int_inv Tryz.underlying3
 obtain ⟨v,l,e3,hI,hfv,hlo,hwt⟩ := rd_intsW g3 hc h0
 simp at e0 e1 e2 e3
 subst e0 e1 e2 e3
 refine ⟨⟨n0,n1,n2,l⟩,_,rfl,hI,hfv,hlo,?_⟩
 rcases hwt with h1 | ⟨m,h1,h2⟩
 ·simp only; omega
 ·have := hw m (w3 m h1)
  simp only [reachBytes] at this
  simp only; omega
theorem rd_dosW {h : H} {xs : List V} {d : DataW Hd} (a : Rd Tryz.prog h 22 xs d) (hc : AllCells h) (hw : ∀ n ∈ d.weights Tryz.prog 22,n ≤ reachBytes) : ∃ (v : V) (l : List Dg),xs = [v] ∧ SlA h 4 v l.length (fun j p => ∀ x,l[j]? = some x → DoW h p x) := by
 obtain ⟨v,n,rfl,s⟩ := slice_w a Tryz.underlying22
 rw [cells36] at s
 have hch : ∀ j,j < n → ∃ x : Dg,∀ b o,iaS 4 v (.int .i64 j) = some (.ptr b o) → ∃ p,h.rdN b o 4 = some p ∧ DoW h p x := by
  intro j hj
  obtain ⟨b,o,p,h1,h2,⟨d',h3,h3w⟩,h4,h5⟩ := s.at hj
  obtain ⟨x,hx⟩ := rd_doW h3 hc (by omega) fun n hn => hw n (h3w n hn)
  exact ⟨x,fun b' o' h6 => by rw [h1] at h6; cases h6; exact ⟨p,h2,hx⟩⟩
 obtain ⟨f,hf⟩ := Go.Deep.choose_lt hch
 refine ⟨v,(List.range n).map f,rfl,?_⟩
 rw [List.length_map,List.length_range]
 refine ⟨s.1,?_⟩
 rcases s.2 with h1 | ⟨b,cap,h1,h2,h3,h4⟩
 ·exact .inl h1
 ·refine .inr ⟨b,cap,h1,h2,h3,?_⟩
  rcases h4 with h4 | ⟨c,ty,h5,h6,h7⟩
  ·exact .inl h4
  ·refine .inr ⟨c,ty,h5,h6,fun j hj x hx => ?_⟩
   have hl : j * 4 + 4 ≤ c.length := by omega
   obtain ⟨p,q1,q2⟩ := hf j hj b (j * 4) (by rw [h1]; simp [hj])
   rw [rdN_of h5 hl] at q1
   have e1 : x = f j := by simp [hj] at hx; exact hx.symm
   rw [Option.some.inj q1,e1]; exact q2
end
theorem core3 {Hd : Type} {enc : TypeId × Value → Hd} {W : World} {base : Nat} {v0 v1 : Value} {d0 d1 : DataW Hd} {p0 p1 : List MemPlace}
  (hok : Value.okWide Tryz.prog W .any base 22 v0) (hd : DataW.Trod enc Tryz.prog W 0 (fun _ => true) true 22 v0 d0 p0)
  (hok1 : Value.okWide Tryz.prog W .any base 4 v1) (hd1 : DataW.Trod enc Tryz.prog W 0 (fun _ => true) true 4 v1 d1 p1)
  (hk : (DataW.weightsEach Tryz.prog [22,4] [d0,d1]).all (· ≤ reachBytes) = true) :
  Calls Tryz.prog 3 #[v0,v1] W fun e W' => e = .returned (.bool true) ∧ Go.RowKit.Below W.heap.size W W' := by
 obtain ⟨i,h,x,a,hc,le,_,_,hx,hr⟩ := argAnyC 5 good22 (ArgH.empty W) (fun b hb => absurd hb (Nat.not_lt_zero _)) hd
 obtain ⟨b,rfl,_⟩ := Go.RowKit.open_bool Tryz.underlying4 hok1 hd1
 obtain ⟨v,l,rfl,A⟩ := rd_dosW hr hc fun n hn => by
  have := List.all_eq_true.1 hk n (DataW.weights_mem_each (j := 0) rfl rfl n hn)
  simpa using this
 obtain ⟨u,hu,hv⟩ := hx.get (k := 0) rfl
 obtain ⟨w,h'',hrun,rfl,_⟩ := (writes3_ok (ad := b) A).elim
 have hv0 : u = v0 := by
  obtain ⟨s0,s1,s2,s3,_⟩ := okWide_slice Tryz.underlying22 hok
  simp [Value.cells] at hu
  exact hu.symm
 rw [hv0] at hv
 exact law_calls (us := [v0,.bool b]) (callW_ok mixed kp ovC_ok hrun) a.rel (.cons hv (.cons (.bool _) .nil)) a.dom a.no
end Go.Proofs.YtbajipmhnoakeaaGreat
