import Derived.Test.YtbajipmhnoakeaaGreatPnHo
import Derived.KernelRfl
set_option linter.unusedVariables false
set_option linter.unusedSimpArgs false
set_option maxRecDepth 20000
namespace Go.Proofs.YtbajipmhnoakeaaGreat
open Go Go.Zf Go.RowKit Go.WideShapes
open Go.Zf (wi64)
theorem none_nil (h:H):KW 56 [.nilp] h=some (.ret (.bool true),h):=by
 rw [w56,f56,s56]
 simp [gl_t]
theorem none_zero {h:H} {p:Nat} (hp:h.get p=some (.cells [.nilp,.nilp,.nils,.bool false,.int .i64 0] 63 false)):KW 56 [.ptr p 0] h=some (.ret (.bool true),h):=by
 rw [w56,f56,s56]
 simp [gl_t,rd1_of hp]
theorem bits_none {h:H} {p:V} (hp:KW 56 [p] h=some (.ret (.bool true),h)):KW 38 [p,.int .i64 0,.int .i64 0] h=some (.ret (.tup [.int .i64 0,.int .i64 1]),h):=by
 rw [w38,f38,s38]
 simp [hp]
theorem code_none {h:H} {p a b c v:V} (hp:KW 56 [p] h=some (.ret (.bool true),h)):KW 11 [p,a,b,c,v] h=some (.ret (.tup [.nils,.int .i64 1]),h):=by
 rw [w11,f11,s11]
 simp [bits_none hp]
def lenOps (n:Nat):List Op:=[.sym 22 0 0,.sym 23 0 0,.sym 27 0 2] ++ (List.replicate 4 (.sym 29 0 3) ++ (List.replicate n (.num 1 0) ++ [.num 1 1,.num n 5,.sym 30 0 1]))
def stOut:St→List Nat × Nat
 | ⟨.w o l _,_,_,_⟩=>(o,l)
 | _=>([],0)
def lenBytes (n:Nat):List Nat:=bytes (stOut ((newW defS true).run (lenOps n))).1 (stOut ((newW defS true).run (lenOps n))).2
def z16:List Int:=List.replicate 16 0
def rdR (n:Nat):Option (List Int) × St:=(codeP (bdOf 4 0 0 z16 false)).exec (newR (lenBytes n) defS true)
theorem rdR19:(rdR 19).1=some ((-524307) :: List.replicate 15 0):=by kernel_rfl
theorem rdR20:(rdR 20).1=some ((-1048595) :: List.replicate 15 0):=by kernel_rfl
theorem rdR21:(rdR 21).1=none:=by kernel_rfl
theorem rdR21n:(rdR 21).2.n=28:=by kernel_rfl
theorem rdR22:(rdR 22).1=none:=by kernel_rfl
theorem rdR22n:(rdR 22).2.n=28:=by kernel_rfl
theorem lenB (n:Nat) (hn:19≤n∧n≤22):(lenBytes n).length < 1000∧∀ x ∈ lenBytes n,x < 256:=by
 have h19:(lenBytes 19).length < 1000∧(lenBytes 19).all (· < 256)=true:=⟨of_decide_eq_true (by kernel_rfl),by kernel_rfl⟩
 have h20:(lenBytes 20).length < 1000∧(lenBytes 20).all (· < 256)=true:=⟨of_decide_eq_true (by kernel_rfl),by kernel_rfl⟩
 have h21:(lenBytes 21).length < 1000∧(lenBytes 21).all (· < 256)=true:=⟨of_decide_eq_true (by kernel_rfl),by kernel_rfl⟩
 have h22:(lenBytes 22).length < 1000∧(lenBytes 22).all (· < 256)=true:=⟨of_decide_eq_true (by kernel_rfl),by kernel_rfl⟩
 have:n=19∨n=20∨n=21∨n=22:=by omega
 rcases this with rfl | rfl | rfl | rfl
 ·exact ⟨h19.1,fun x hx=>by simpa using List.all_eq_true.1 h19.2 x hx⟩
 ·exact ⟨h20.1,fun x hx=>by simpa using List.all_eq_true.1 h20.2 x hx⟩
 ·exact ⟨h21.1,fun x hx=>by simpa using List.all_eq_true.1 h21.2 x hx⟩
 ·exact ⟨h22.1,fun x hx=>by simpa using List.all_eq_true.1 h22.2 x hx⟩
def Wc (h0:H) (c m:Nat) (st:St) (h:H):Prop:=∃ D,CoderAt D h c m st∧(∀ b,D b→h0.n≤b)∧Ext h0 h
section
variable {h0 h:H} {c m:Nat} {st:St}
theorem Wc.step {h':H} {m':Nat} {st':St} {D:Nat→Prop} (hD:∀ b,D b→h0.n≤b) (x:Ext h0 h) (C:CoderAt (grow D h h') h' c m' st') (M:Mod D h h'):Wc h0 c m' st' h' :=
 ⟨_,C,fun b hb=>by
  have:=x.n
  rcases hb with e | e
  ·exact hD b e
  ·have:=e.1;omega,M.ext x fun b hb hd=>by have:=hD b hd;omega⟩
theorem Wc.sym (a:Wc h0 c m st h) (hm:m+1 < 100000000) {k x v:Nat} (hk:k < 32) (hc:x < cx k) (hv:v < vl k) :
  RT (fun w h'=>(∃ y:Int,w=.tup [.int .i64 y,.int .i64 0])∧Wc h0 c (m+1) (st.run [.sym k x v]) h') (KW 61 [.ptr c 0,.int .i64 k,.int .i64 x,.int .i64 v] h):=by
 obtain ⟨D,C,hD,x0⟩:=a
 exact (symbol30_ok (v:=v) C hm hk hc (fun _=>⟨by omega,by omega⟩)).mono fun w h' ⟨h1,h2,h3⟩=>⟨⟨_,h1⟩,Wc.step hD x0 h2 h3⟩
theorem Wc.num (a:Wc h0 c m st h) {n v:Nat} (hn:n≤30) (hm:m+n < 100000000) (hv:(v:Int) < pw n) :
  RT (fun w h'=>(∃ y:Int,w=.tup [.int .i64 y,.int .i64 0])∧Wc h0 c (m+n) (st.run [.num n v]) h') (KW 38 [.ptr c 0,.int .i64 n,.int .i64 v] h):=by
 obtain ⟨D,C,hD,x0⟩:=a
 exact (bits29_ok (v:=v) C hn hm (fun _=>⟨by omega,hv⟩)).mono fun w h' ⟨h1,h2,h3⟩=>⟨⟨_,h1⟩,Wc.step hD x0 h2 h3⟩
end
end Go.Proofs.YtbajipmhnoakeaaGreat
