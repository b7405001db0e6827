import Derived.Test.YtbajipmhnoakeaaGreatPnGb
set_option linter.unusedVariables false
set_option linter.unusedSimpArgs false
set_option maxRecDepth 20000
namespace Go.Proofs.YtbajipmhnoakeaaGreat
open Go Go.Zf
open Go.Zf (wi64)
def u32 (n:Int):V:=.int .u32 n
def u64 (n:Int):V:=.int .u64 n
def i64 (n:Int):V:=.int .i64 n
theorem wrap32 {n:Int} (h0:0≤n) (h1:n < 4294967296):IntKind.u32.wrap n=n:=by
  unfold IntKind.wrap;simp [IntKind.bits,IntKind.signed];omega
theorem wrap64 {n:Int} (h0:0≤n) (h1:n < 18446744073709551616):IntKind.u64.wrap n=n:=by
  unfold IntKind.wrap;simp [IntKind.bits,IntKind.signed];omega
theorem narrow_ok (rng lo hi:Int) (hr0:0≤rng) (hr:rng < 4294967296) (hl:0≤lo) (hlh:lo < hi) (hh:hi≤32768) (h:H) :
   KW 113 [u32 rng,u32 lo,u32 hi] h=some (.ret (.tup [u32 (rng / 32768*lo),u32 (if hi=32768 then rng - rng / 32768*lo else rng / 32768*(hi - lo))]),h):=by
  have e1:(rng.fdiv (2 ^ (min 15 IntKind.u32.bits)))=rng / 32768:=by
   rw [Int.fdiv_eq_ediv_of_nonneg _ (by decide)];rfl
  have hq:rng / 32768 < 131072:=by omega
  have hq0:0≤rng / 32768:=by omega
  generalize hR:rng / 32768=r at *
  have m1:r*lo≤r*32768:=Int.mul_le_mul_of_nonneg_left (by omega) hq0
  have m0:0≤r*lo:=Int.mul_nonneg hq0 hl
  have m2:r*(hi - lo)≤r*32768:=Int.mul_le_mul_of_nonneg_left (by omega) hq0
  have m3:0≤r*(hi - lo):=Int.mul_nonneg hq0 (by omega)
  rw [w113,f113,s113]
  simp only [u32]
  by_cases hc:hi=32768
  ·subst hc
   simp [e1,wrap32 m0 (by omega),wrap32 (n:=rng - r*lo) (by omega) (by omega)]
  ·simp [e1,hc,wrap32 m0 (by omega),wrap32 (n:=hi - lo) (by omega) (by omega),wrap32 m3 (by omega)]
attribute [simp] Go.Zf.bytesV_length
def Upd (h:H) (b:Nat) (x:Blk) (h':H):Prop:=h'.n=h.n∧∀ c,h'.get c=if c=b then some x else h.get c
theorem upd_put {h:H} {b:Nat} (hb:b < h.n) (x:Blk):Upd h b x (h.put b x) :=
  ⟨rfl,fun c=>by simp [H.get_put,hb]⟩
theorem Upd.trans {h h1 h2:H} {b:Nat} {x y:Blk} (a:Upd h b x h1) (c:Upd h1 b y h2):Upd h b y h2 :=
  ⟨c.1.trans a.1,fun d=>by rw [c.2,a.2];split <;> rfl⟩
theorem Upd.refl {h:H} {b:Nat} {x:Blk} (a:h.get b=some x):Upd h b x h:=⟨rfl,fun d=>by split <;> simp_all⟩
def incR:List Nat→List Nat
  | []=>[]
  | b :: r=>if b=255 then 0 :: incR r else (b+1) :: r
def inc (l:List Nat):List Nat:=(incR l.reverse).reverse
theorem inc_nil:inc []=[]:=rfl
theorem inc_snoc (l:List Nat) (b:Nat):inc (l ++ [b])=if b=255 then inc l ++ [0] else l ++ [b+1]:=by
  simp only [inc,List.reverse_append,List.reverse_cons,List.reverse_nil,List.nil_append,List.singleton_append,incR]
  split <;> simp
theorem inc_length (l:List Nat):(inc l).length=l.length:=by
  unfold inc
  rw [List.length_reverse]
  have e:l.length=l.reverse.length:=by simp
  rw [e]
  generalize l.reverse=r
  induction r with
  | nil=>rfl
  | cons b r ih=>simp only [incR];split <;> simp [ih]
theorem incR_byte:∀ {l:List Nat},(∀ x ∈ l,x < 256)→∀ x ∈ incR l,x < 256
  | [],_,x,hx=>by simp [incR] at hx
  | b :: r,h,x,hx=>by
   have hb:=h b (by simp)
   have hr:∀ x ∈ r,x < 256:=fun x hx=>h x (by simp [hx])
   simp only [incR] at hx
   split at hx
   ·rcases List.mem_cons.mp hx with rfl | hx
    · omega
    · exact incR_byte hr x hx
   ·rcases List.mem_cons.mp hx with rfl | hx
    · omega
    · exact hr x hx
theorem inc_byte {l:List Nat} (h:∀ x ∈ l,x < 256):∀ x ∈ inc l,x < 256:=by
  intro x hx
  exact incR_byte (l:=l.reverse) (fun x hx=>h x (by simpa using hx)) x (by simpa [inc] using hx)
theorem wrap8 {n:Int}:IntKind.u8.wrap n=n % 256:=by
  unfold IntKind.wrap;simp [IntKind.bits,IntKind.signed]
theorem loop36 (p b:Nat) (t tb:TypeId) (c1 c2:V) (len:Nat):∀ (k:Nat) (pre suf:List Nat) (h:H) (e:E),pre.length=k→(∀ x ∈ pre,x < 256)→(pre ++ suf).length=len→len < 1099511627776 →
   h.get p=some (.cells [.sl b 0 len (.op 1),c1,c2] t false)→h.get b=some (.cells (bytesV (pre ++ suf)) tb false)→p ≠ b →
   e.s [0,2,28] 0=.ptr p 0→e.s [0,2,28] 2=.int .i64 ((k:Int) - 1) →
   ∃ e' h',loopZ (l106_0 KW loopZ) e h=some ⟨.ex 0,e',h'⟩∧e'.s [0,2,28] 0=.ptr p 0∧Upd h b (.cells (bytesV (inc pre ++ suf)) tb false) h'
  | 0,pre,suf,h,e,hk,hp,hl,hs,hgp,hgb,hn,he0,he2=>by
   have:pre=[]:=List.length_eq_zero_iff.mp hk
   subst this
   rw [loopZ_eq]
   simp [l106_0,he0,he2]
   exact ⟨_,_,⟨rfl,rfl⟩,by simp,Upd.refl hgb⟩
  | k+1,pre,suf,h,e,hk,hp,hl,hs,hgp,hgb,hn,he0,he2=>by
   obtain ⟨pr,x,rfl⟩:∃ pr x,pre=pr ++ [x]:=by
    rcases List.eq_nil_or_concat pre with h0 | ⟨a,b,h0⟩
    · subst h0;simp at hk
    · exact ⟨a,b,by simpa using h0⟩
   have hk':pr.length=k:=by simpa using hk
   have hx:x < 256:=hp x (by simp)
   have hlk:k < len:=by simp at hl;omega
   have hix:(bytesV (pr ++ [x] ++ suf))[k]?=some (.int .u8 x):=by
    simp [bytesV,← hk']
   have hset:∀ y:Nat,(bytesV (pr ++ [x] ++ suf)).set k (.int .u8 y)=bytesV (pr ++ [y] ++ suf):=by
    intro y;simp [bytesV,← hk']
   have hbl:=H.get_lt hgb
   have hpl:=H.get_lt hgp
   have hgb0:=hgb
   obtain ⟨c,hc⟩:∃ c,c=bytesV (pr ++ [x] ++ suf):=⟨_,rfl⟩
   have hcl:c.length=len:=by rw [hc];simpa using hl
   rw [← hc] at hgb hix hset
   have hw:=fun v=>wr1_of hgb (o:=k) (by omega) v
   have hpb:∀ v,(h.put b v).get p=h.get p:=fun v=>get_put_ne hn
   by_cases hx5:x=255
   ·subst hx5
    have hz:c.set k (.int .u8 0)=bytesV (pr ++ [0] ++ suf):=hset 0
    have hg2:(h.put b (.cells (bytesV (pr ++ [0] ++ suf)) tb false)).get b=some (.cells (bytesV (pr ++ [0] ++ suf)) tb false):=get_put_same hbl
    have hz2:(bytesV (pr ++ [0] ++ suf))[k]?=some (.int .u8 0):=by simp [bytesV,← hk']
    obtain ⟨c',hc'⟩:∃ c',c'=bytesV (pr ++ [0] ++ suf):=⟨_,rfl⟩
    obtain ⟨h1,hh1⟩:∃ h1,h1=h.put b (.cells c' tb false):=⟨_,rfl⟩
    have hgp1:h1.get p=some (.cells [.sl b 0 len (.op 1),c1,c2] t false):=by rw [hh1,hpb,hgp]
    rw [← hc'] at hz hg2 hz2
    rw [← hh1] at hg2
    rw [loopZ_eq]
    simp [l106_0,he0,he2,rd1_of hgp,rd1_of hgb,hix,hlk,hw,hz,wrap8,← hh1,rd1_of hgp1,rd1_of hg2,hz2]
    rw [wi64 (by omega) (by omega)]
    obtain ⟨e',h',i1,i2,i3⟩:=loop36 p b t tb c1 c2 len k pr (0 :: suf) h1 ⟨[V.ptr p 0,V.int IntKind.i64 ((k:Int) - 1),V.int IntKind.u8 0],2,V.int IntKind.i64 ((k:Int) - 1)⟩ hk' (fun x hx=>hp x (by simp [hx]))
      (by simpa using hl) hs hgp1 (by rw [hg2,hc'];simp) hn (by simp) (by simp)
    refine ⟨e',h',i1,i2,?_⟩
    have hu:Upd h b (.cells c' tb false) h1:=by rw [hh1];exact upd_put hbl _
    rw [inc_snoc]
    simpa using hu.trans i3
   ·rw [loopZ_eq]
    have hz:c.set k (.int .u8 ((x:Int)+1))=bytesV (pr ++ [x+1] ++ suf):=hset (x+1)
    have hg2:(h.put b (.cells (bytesV (pr ++ [x+1] ++ suf)) tb false)).get b=some (.cells (bytesV (pr ++ [x+1] ++ suf)) tb false):=get_put_same hbl
    have hz2:(bytesV (pr ++ [x+1] ++ suf))[k]?=some (.int .u8 ((x:Int)+1)):=by simp [bytesV,← hk']
    obtain ⟨c',hc'⟩:∃ c',c'=bytesV (pr ++ [x+1] ++ suf):=⟨_,rfl⟩
    obtain ⟨h1,hh1⟩:∃ h1,h1=h.put b (.cells c' tb false):=⟨_,rfl⟩
    have hgp1:h1.get p=some (.cells [.sl b 0 len (.op 1),c1,c2] t false):=by rw [hh1,hpb,hgp]
    rw [← hc'] at hz hg2 hz2
    rw [← hh1] at hg2
    have hm:((x:Int)+1) % 256=(x:Int)+1:=by omega
    have hne:¬ ((x:Int)+1=0):=by omega
    simp [l106_0,he0,he2,rd1_of hgp,rd1_of hgb,hix,hlk,hw,wrap8,hm,hz,← hh1,rd1_of hgp1,rd1_of hg2,hz2,hne]
    have hu:Upd h b (.cells c' tb false) h1:=by rw [hh1];exact upd_put hbl _
    refine ⟨_,_,⟨rfl,rfl⟩,by simp,?_⟩
    rw [inc_snoc,if_neg hx5,← hc']
    exact hu
def Grow (h:H) (v:V) (l:List Nat):Prop :=
  (v=.nils∧l=[])∨∃ b,v=.sl b 0 l.length (.op 1)∧l ≠ []∧h.get b=some (.cells (bytesV l) 5 false)
structure EncAt (h:H) (p:Nat) (t:TypeId) (v:V) (out:List Nat) (low:Nat) (rng:V):Prop where
  cell:h.get p=some (.cells [v,.int .u64 low,rng] t false)
  grow:Grow h v out
  byte:∀ x ∈ out,x < 256
  low64:low < 18446744073709551616
def fp (p:Nat) (v:V) (c:Nat):Prop:=c=p∨∃ o n k,v=.sl c o n k
def Fram (h h':H) (S:Nat→Prop):Prop:=h.n≤h'.n∧∀ c,c < h.n→¬ S c→h'.get c=h.get c
theorem and32 {n:Nat} (hn:n < 18446744073709551616):IntKind.u64.wrap ((n % 2 ^ IntKind.u64.bits &&& 4294967295 % 2 ^ IntKind.u64.bits:Nat):Int)=(n:Int) % 4294967296:=by
  rw [show IntKind.u64.bits=64 from rfl,Nat.mod_eq_of_lt (show n < 2 ^ 64 by omega),Nat.mod_eq_of_lt (show 4294967295 < 2 ^ 64 by omega)]
  rw [show (4294967295:Nat)=2 ^ 32 - 1 from rfl,Nat.and_two_pow_sub_one_eq_mod]
  rw [wrap64 (by omega) (by omega)]
  omega
theorem sl_ne {h:H} {p b:Nat} {t tb:TypeId} {v x y:V} {l:List Nat} (hp:h.get p=some (.cells [v,x,y] t false)) (hb:h.get b=some (.cells (bytesV l) tb false)) (hv:∀ k n,v ≠ .int k n):p ≠ b:=by
  intro e;subst e;rw [hp] at hb;simp only [Option.some.injEq,Blk.cells.injEq] at hb
  obtain ⟨h1,_⟩:=hb
  cases l with
  | nil=>simp [bytesV] at h1
  | cons a l=>simp [bytesV] at h1;exact hv _ _ h1.1
theorem carry_ok {h:H} {p:Nat} {t:TypeId} {v rng:V} {out:List Nat} {low:Nat} (a:EncAt h p t v out low rng) (hlen:out.length < 1099511627776) :
   ∃ h',KW 106 [.ptr p 0] h=some (.ret (.tup []),h')∧EncAt h' p t v (inc out) (low % 4294967296) rng∧Fram h h' (fp p v)∧h'.n=h.n:=by
  have hpl:=H.get_lt a.cell
  have hl64:=a.low64
  rcases a.grow with ⟨rfl,rfl⟩ | ⟨b,rfl,hne,hb⟩
  ·have hw:=fun v=>wr1_of a.cell (o:=1) (by simp) v
   have hlp:loopZ (l106_0 KW loopZ) ⟨[.ptr p 0,.int .i64 (-1),V.tup []],2,.int .i64 (-1)⟩ h=some ⟨.ex 0,⟨[.ptr p 0,.int .i64 (-1),V.tup []],10,.bool false⟩,h⟩:=by
    rw [loopZ_eq]
    simp [l106_0]
   rw [w106,f106,s106]
   simp [rd1_of a.cell]
   rw [wi64 (by omega) (by omega)]
   simp [hlp,hw,rd1_of a.cell,and32 a.low64]
   refine ⟨⟨get_put_same hpl,.inl ⟨rfl,rfl⟩,by simp [inc_nil],by omega⟩,⟨Nat.le_refl _,fun c hc hs=>get_put_ne fun e=>hs (.inl e)⟩,rfl⟩
  ·have hn:=sl_ne a.cell hb (by simp)
   have hll:out.length ≠ 0:=by simpa using hne
   rw [w106,f106,s106]
   simp [rd1_of a.cell]
   obtain ⟨e',h',i1,i2,i3⟩:=loop36 p b t 5 (.int .u64 low) rng out.length out.length out [] h ⟨[.ptr p 0,.int .i64 ((out.length:Int) - 1),V.und],2,.int .i64 ((out.length:Int) - 1)⟩ rfl a.byte (by simp) hlen a.cell (by simpa using hb) hn (by simp) (by simp)
   have hc':h'.get p=some (.cells [.sl b 0 out.length (.op 1),.int .u64 low,rng] t false):=by rw [i3.2,if_neg hn,a.cell]
   have hw:=fun v=>wr1_of hc' (o:=1) (by simp) v
   rw [wi64 (by omega) (by omega)]
   simp at i1
   simp [i1,i2,rd1_of hc',hw,and32 a.low64]
   have hpl':p < h'.n:=by rw [i3.1];exact hpl
   refine ⟨⟨get_put_same hpl',.inr ⟨b,by rw [inc_length],?_,?_⟩,?_,by omega⟩,⟨by rw [H.n_put,i3.1];exact Nat.le_refl _,fun c hc hs=>?_⟩,i3.1⟩
   ·intro e;have:=inc_length out;rw [e] at this;simp at this;exact hll this.symm
   ·rw [get_put_ne (Ne.symm hn),i3.2,if_pos rfl];simp
   ·exact inc_byte a.byte
   ·rw [get_put_ne fun e=>hs (.inl e),i3.2,if_neg fun e=>hs (.inr ⟨_,_,_,by rw [e]⟩)]
theorem append_ok {h:H} {v:V} {out l:List Nat} (g:Grow h v out) {q o n:Nat} {cp:Cap} (hr:h.rdN q o n=some (bytesV l)) (hl:l.length=n) (hn:n ≠ 0) (hlen:out.length+n < 1099511627777) :
   ∃ h2,apZ 5 1 1 h v (.sl q o n cp)=some (.sl h.n 0 (out.length+n) (.op 1),h2)∧h2.n=h.n+1∧h2.get h.n=some (.cells (bytesV (out ++ l)) 5 false) ∧
    ∀ c,c < h.n→(∀ o n k,v ≠ .sl c o n k)→h2.get c=h.get c:=by
  rcases g with ⟨rfl,rfl⟩ | ⟨b,rfl,hne,hb⟩
  ·refine ⟨h.new (.cells (bytesV l) 5 false),?_,rfl,?_,?_⟩
   ·simp [apZ,lenOf,firstV,hr,apN,hn]
    simp at hlen;omega
   ·simp [get_new_same]
   ·intro c hc hv;exact get_new_lt hc
  ·have hbl:=H.get_lt hb
   refine ⟨((h.put b .dead).new (.cells (bytesV out ++ bytesV l) 5 false)),?_,rfl,?_,?_⟩
   ·have:List.take out.length (bytesV out)=bytesV out:=List.take_of_length_le (by simp)
    simp [apZ,lenOf,firstV,hr,apN,hn,hb,this,H.n_put]
    omega
   ·rw [show h.n=(h.put b .dead).n from rfl,get_new_same,bytesV_append]
   ·intro c hc hv
    rw [get_new_lt (by simpa [H.n_put] using hc),get_put_ne (fun e=>hv _ _ _ (by rw [e]))]
def emit (out:List Nat) (low:Nat):List Nat × Nat :=
  let q:=if 4294967296≤low then (inc out,low % 4294967296) else (out,low)
  (q.1 ++ [q.2 / 16777216],q.2 % 16777216*256)
theorem emit_length (out:List Nat) (low:Nat):(emit out low).1.length=out.length+1:=by
  unfold emit;split <;> simp [inc_length]
theorem emit_lt (out:List Nat) (low:Nat):(emit out low).2 < 4294967296:=by
  unfold emit;split <;> simp <;> omega
theorem shift_ok {h:H} {p:Nat} {t:TypeId} {v rng:V} {out:List Nat} {low:Nat} (a:EncAt h p t v out low rng) (hlen:out.length < 1099511627775) (hlow:low < 8589934592) :
   ∃ h' v',KW 85 [.ptr p 0] h=some (.ret (.tup []),h')∧EncAt h' p t v' (emit out low).1 (emit out low).2 rng∧Fram h h' (fp p v)∧∀ c o n k,v'=.sl c o n k→h.n≤c:=by
  have hpl:=H.get_lt a.cell
  -- behind the carry
  obtain ⟨h1,o1,l1,hif,a1,hl1,hol,hq,f1,hn1⟩:∃ h1 o1 l1,(4294967295 < low→KW 106 [.ptr p 0] h=some (.ret (.tup []),h1))∧EncAt h1 p t v o1 l1 rng∧l1 < 4294967296∧o1.length=out.length ∧
    emit out low=(o1 ++ [l1 / 16777216],l1 % 16777216*256)∧Fram h h1 (fp p v)∧h1.n=h.n∧(¬ 4294967295 < low→h1=h):=by
   by_cases hc:4294967295 < low
   ·obtain ⟨h1,k1,k2,k3,k4⟩:=carry_ok a (by omega)
    exact ⟨h1,inc out,low % 4294967296,fun _=>k1,k2,by omega,inc_length out,by simp [emit,show 4294967296≤low by omega],k3,k4,fun h=>absurd hc h⟩
   ·exact ⟨h,out,low,fun h=>absurd h hc,a,by omega,rfl,by simp [emit,show ¬ 4294967296≤low by omega],⟨Nat.le_refl _,fun _ _ _=>rfl⟩,rfl,fun _=>rfl⟩
  have hpl1:p < h1.n:=by omega
  obtain ⟨x,hx⟩:∃ x,x=l1 / 16777216:=⟨_,rfl⟩
  obtain ⟨hn,hhn⟩:∃ hn,hn=h1.new (.cells [.int .u8 (x:Int)] 5 false):=⟨_,rfl⟩
  have hnn:hn.n=h1.n+1:=by rw [hhn,H.n_new]
  have hnew:hn.rdN h1.n 0 1=some (bytesV [x]):=by
   rw [hhn];simp [H.rdN,get_new_same,bytesV]
  have hg1:Grow hn v o1:=by
   rcases a1.grow with ⟨e1,e2⟩ | ⟨b,e1,e2,e3⟩
   ·exact .inl ⟨e1,e2⟩
   ·exact .inr ⟨b,e1,e2,by rw [hhn,get_new_lt (H.get_lt e3),e3]⟩
  obtain ⟨h2,ha,hn2,hs2,hf2⟩:=append_ok hg1 (cp:=.ex 1) hnew rfl (by decide) (by omega)
  have hp2:h2.get p=some (.cells [v,.int .u64 l1,rng] t false):=by
   rw [hf2 p (by omega),hhn,get_new_lt hpl1,a1.cell]
   intro o n k e
   rcases a1.grow with ⟨e1,e2⟩ | ⟨b,e1,e2,e3⟩
   ·rw [e1] at e;cases e
   ·rw [e1] at e;cases e;exact sl_ne a1.cell e3 (by simp [e1]) rfl
  have e1:(l1:Int).fdiv (2 ^ (min 24 IntKind.u64.bits))=(x:Int):=by
   rw [Int.fdiv_eq_ediv_of_nonneg _ (by decide),hx];rfl
  have e2:IntKind.u8.wrap (x:Int)=(x:Int):=by rw [wrap8];omega
  have hck:∀ {β:Type} (y:Option β),ck (some v) v y=y:=by
   intro β y
   rcases a1.grow with ⟨e1,e2⟩ | ⟨b,e1,e2,e3⟩ <;> rw [e1] <;> simp
  have w1:=fun x=>wr1_of hp2 (o:=0) (by simp) x
  obtain ⟨h3,hh3⟩:∃ h3,h3=h2.put p (.cells [.sl hn.n 0 (o1.length+1) (.op 1),.int .u64 l1,rng] t false):=⟨_,rfl⟩
  have hp3:h3.get p=some (.cells [.sl hn.n 0 (o1.length+1) (.op 1),.int .u64 l1,rng] t false):=by rw [hh3];exact get_put_same (by omega)
  have w3:=fun x=>wr1_of hp3 (o:=1) (by simp) x
  have fin:Fram h (h3.put p (.cells [.sl hn.n 0 (o1.length+1) (.op 1),.int .u64 ((l1 % 16777216*256:Nat):Int),rng] t false)) (fp p v):=by
   refine ⟨by rw [H.n_put,hh3,H.n_put];omega,fun c hc hs=>?_⟩
   have hcp:c ≠ p:=fun e=>hs (.inl e)
   rw [get_put_ne hcp,hh3,get_put_ne hcp,hf2 c (by omega) (fun o n k e=>hs (.inr ⟨o,n,k,e⟩)),hhn,get_new_lt (by omega),f1.2 c hc hs]
  have enc:EncAt (h3.put p (.cells [.sl hn.n 0 (o1.length+1) (.op 1),.int .u64 ((l1 % 16777216*256:Nat):Int),rng] t false)) p t (.sl hn.n 0 (o1.length+1) (.op 1)) (emit out low).1 (emit out low).2 rng:=by
   rw [hq]
   refine ⟨get_put_same (by rw [hh3,H.n_put];omega),.inr ⟨hn.n,by simp,by simp,?_⟩,?_,by show _ < _;omega⟩
   ·rw [get_put_ne (by omega),hh3,get_put_ne (by omega),hs2,hx]
   ·intro y hy
    rcases List.mem_append.mp hy with hy | hy
    · exact a1.byte y hy
    · simp at hy;omega
  have m1:IntKind.u64.wrap (IntKind.u64.wrap ((l1 % 2 ^ IntKind.u64.bits &&& 16777215 % 2 ^ IntKind.u64.bits:Nat):Int)*2 ^ (min 8 IntKind.u64.bits))=(l1:Int) % 16777216*256:=by
   rw [show IntKind.u64.bits=64 from rfl,Nat.mod_eq_of_lt (show l1 < 2 ^ 64 by omega),Nat.mod_eq_of_lt (show 16777215 < 2 ^ 64 by omega)]
   rw [show (16777215:Nat)=2 ^ 24 - 1 from rfl,Nat.and_two_pow_sub_one_eq_mod]
   rw [wrap64 (n:=((l1 % 2 ^ 24:Nat):Int)) (by omega) (by omega),wrap64 (by simp;omega) (by simp;omega)]
   simp
  refine ⟨_,_,?_,enc,fin,fun c o n k e=>by cases e;omega⟩
  rw [w85,f85,s85]
  by_cases hc:4294967295 < low
  ·simp [rd1_of a.cell,show (4294967295:Int) < low by omega,hif hc,rd1_of a1.cell,bs,fillW,e1,e2,V.cells,splice,← hhn,ha,w1,hck,← hh3,rd1_of hp3,w3,m1]
  ·have h1e:=hn1.2 hc
   subst h1e
   have hll:low=l1:=by have e:=a.cell.symm.trans a1.cell;simp at e;omega
   rw [hll] at a hc
   simp [rd1_of a.cell,show ¬ (4294967295:Int) < l1 by omega,rd1_of a1.cell,bs,fillW,e1,e2,V.cells,splice,← hhn,ha,w1,hck,← hh3,rd1_of hp3,w3,m1]
theorem loop31 (p b:Nat) (t tb:TypeId) (c1 c2:V) (len:Nat):∀ (k:Nat) (pre suf:List Nat) (h:H) (e:E),pre.length=k→(∀ x ∈ pre,x < 256)→(pre ++ suf).length=len→len < 1099511627776 →
   h.get p=some (.cells [.sl b 0 len (.op 1),c1,c2] t false)→h.get b=some (.cells (bytesV (pre ++ suf)) tb false)→p ≠ b →
   e.s [0,2] 0=.ptr p 0→e.s [0,2] 2=.int .i64 ((k:Int) - 1) →
   ∃ e' h' cur,loopZ (l86_0 KW loopZ) e h=some ⟨.ex 0,e',h'⟩∧e'.s [0,2] 0=.ptr p 0∧Upd h b (.cells cur tb false) h'∧cur.length=len ∧
    (
     (e'.s [0,2] 2=.int .i64 (-1)∧cur=bytesV (inc pre ++ suf)) ∨
     ∃ m x:Nat,e'.s [0,2] 2=.int .i64 m∧m < len∧cur[m]?=some (.int .u8 x)∧x < 255∧cur.set m (.int .u8 ((x+1:Nat):Int))=bytesV (inc pre ++ suf))
  | 0,pre,suf,h,e,hk,hp,hl,hs,hgp,hgb,hn,he0,he2=>by
   have:pre=[]:=List.length_eq_zero_iff.mp hk
   subst this
   rw [loopZ_eq]
   simp [l86_0,he0,he2]
   exact ⟨_,_,⟨rfl,rfl⟩,by simp,_,Upd.refl hgb,by simpa using hl,.inl ⟨by simp,rfl⟩⟩
  | k+1,pre,suf,h,e,hk,hp,hl,hs,hgp,hgb,hn,he0,he2=>by
   obtain ⟨pr,x,rfl⟩:∃ pr x,pre=pr ++ [x]:=by
    rcases List.eq_nil_or_concat pre with h0 | ⟨a,b,h0⟩
    · subst h0;simp at hk
    · exact ⟨a,b,by simpa using h0⟩
   have hk':pr.length=k:=by simpa using hk
   have hx:x < 256:=hp x (by simp)
   have hlk:k < len:=by simp at hl;omega
   have hix:(bytesV (pr ++ [x] ++ suf))[k]?=some (.int .u8 x):=by
    simp [bytesV,← hk']
   have hset:∀ y:Nat,(bytesV (pr ++ [x] ++ suf)).set k (.int .u8 y)=bytesV (pr ++ [y] ++ suf):=by
    intro y;simp [bytesV,← hk']
   have hbl:=H.get_lt hgb
   have hpl:=H.get_lt hgp
   have hgb0:=hgb
   obtain ⟨c,hc⟩:∃ c,c=bytesV (pr ++ [x] ++ suf):=⟨_,rfl⟩
   have hcl:c.length=len:=by rw [hc];simpa using hl
   rw [← hc] at hgb hix hset
   have hw:=fun v=>wr1_of hgb (o:=k) (by omega) v
   have hpb:∀ v,(h.put b v).get p=h.get p:=fun v=>get_put_ne hn
   by_cases hx5:x=255
   ·subst hx5
    have hz:c.set k (.int .u8 0)=bytesV (pr ++ [0] ++ suf):=hset 0
    have hg2:(h.put b (.cells (bytesV (pr ++ [0] ++ suf)) tb false)).get b=some (.cells (bytesV (pr ++ [0] ++ suf)) tb false):=get_put_same hbl
    obtain ⟨c',hc'⟩:∃ c',c'=bytesV (pr ++ [0] ++ suf):=⟨_,rfl⟩
    obtain ⟨h1,hh1⟩:∃ h1,h1=h.put b (.cells c' tb false):=⟨_,rfl⟩
    have hgp1:h1.get p=some (.cells [.sl b 0 len (.op 1),c1,c2] t false):=by rw [hh1,hpb,hgp]
    rw [← hc'] at hz hg2
    rw [← hh1] at hg2
    rw [loopZ_eq]
    simp [l86_0,he0,he2,rd1_of hgp,rd1_of hgb,hix,hlk,hw,hz,wrap8,← hh1]
    rw [wi64 (by omega) (by omega)]
    obtain ⟨e',h',cur,i1,i2,i3,i4,i5⟩:=loop31 p b t tb c1 c2 len k pr (0 :: suf) h1 ⟨[V.ptr p 0,V.int IntKind.i64 ((k:Int) - 1)],2,V.int IntKind.i64 ((k:Int) - 1)⟩ hk' (fun x hx=>hp x (by simp [hx]))
      (by simpa using hl) hs hgp1 (by rw [hg2,hc'];simp) hn (by simp) (by simp)
    have hu:Upd h b (.cells c' tb false) h1:=by rw [hh1];exact upd_put hbl _
    refine ⟨e',h',i1,i2,cur,hu.trans i3,i4,?_⟩
    rw [inc_snoc]
    simpa using i5
   ·rw [loopZ_eq]
    have hne:¬ ((x:Int)=255):=by omega
    simp [l86_0,he0,he2,rd1_of hgp,rd1_of hgb,hix,hlk,hw,hne]
    refine ⟨_,_,⟨rfl,rfl⟩,by simp,c,Upd.refl hgb,hcl,.inr ⟨k,by simp,hlk,x,hix,by omega,?_⟩⟩
    rw [inc_snoc,if_neg hx5]
    simpa using hset (x+1)
noncomputable def t31 (K:Oracle) (L:Looper) (e:E) (h:H):Out :=
 sq (bd (nilC (e.s k86 0)) fun t55 =>
 bd (fa 0 t55) fun t56 =>
 bd (ld h t56) fun t57 =>
 bd (nilC (e.s k86 0)) fun t59 =>
 bd (fa 1 t59) fun t60 =>
 bd (ld h t60) fun t61 =>
 bd (binK 0 .quo t61 (.int .u64 16777216)) fun t62 =>
 bd (cv .u8 t62) fun t63 =>
 bf (bs h 5 1 [(.int .u8 0)] [(some (0,1),t63)]) fun t64 h1 =>
 bf (apZ 5 1 1 h1 t57 t64) fun t65 h2 =>
 bd (nilC (e.s k86 0)) fun t66 =>
 bd (fa 0 t66) fun t67 =>
 bf (stZ 1 h2 t67 t65) fun _ h3 =>
 ck (ld h t56) t57 (ck (ld h t60) t61 (some ⟨.nm,⟨[(e.s k86 0),(e.s k86 2)],0,(e.s k86 0)⟩,h3⟩))) fun e h =>
 bd (nilC (e.s k86 0)) fun t70 =>
 bd (fa 1 t70) fun t71 =>
 bd (ld h t71) fun t72 =>
 bd (binK 0 .rem t72 (.int .u64 16777216)) fun t73 =>
 bd (binK 0 .mul t73 (.int .u64 256)) fun t74 =>
 bd (nilC (e.s k86 0)) fun t75 =>
 bd (fa 1 t75) fun t76 =>
 bf (stZ 1 h t76 t74) fun _ h1 =>
 some ⟨.nm,⟨[(e.s k86 0),(e.s k86 2)],0,(e.s k86 0)⟩,h1⟩
theorem tail31 {h1:H} {p:Nat} {t:TypeId} {v rng:V} {o1:List Nat} {l1:Nat} {e:E} (he:e.s [0,2] 0=.ptr p 0) (a1:EncAt h1 p t v o1 l1 rng) (hlen:o1.length < 1099511627775) (hl1:l1 < 4294967296) :
   ∃ h' v',fin Tryz.prog k86 [] (t31 KW loopZ e h1)=some (.ret (.tup []),h')∧EncAt h' p t v' (o1 ++ [l1 / 16777216]) (l1 % 16777216*256) rng∧Fram h1 h' (fp p v)∧∀ c o n k,v'=.sl c o n k→h1.n≤c:=by
  have hpl1:=H.get_lt a1.cell
  obtain ⟨x,hx⟩:∃ x,x=l1 / 16777216:=⟨_,rfl⟩
  obtain ⟨hn,hhn⟩:∃ hn,hn=h1.new (.cells [.int .u8 (x:Int)] 5 false):=⟨_,rfl⟩
  have hnn:hn.n=h1.n+1:=by rw [hhn,H.n_new]
  have hnew:hn.rdN h1.n 0 1=some (bytesV [x]):=by
   rw [hhn];simp [H.rdN,get_new_same,bytesV]
  have hg1:Grow hn v o1:=by
   rcases a1.grow with ⟨e1,e2⟩ | ⟨b,e1,e2,e3⟩
   ·exact .inl ⟨e1,e2⟩
   ·exact .inr ⟨b,e1,e2,by rw [hhn,get_new_lt (H.get_lt e3),e3]⟩
  obtain ⟨h2,ha,hn2,hs2,hf2⟩:=append_ok hg1 (cp:=.ex 1) hnew rfl (by decide) (by omega)
  have hp2:h2.get p=some (.cells [v,.int .u64 l1,rng] t false):=by
   rw [hf2 p (by omega),hhn,get_new_lt hpl1,a1.cell]
   intro o n k e
   rcases a1.grow with ⟨e1,e2⟩ | ⟨b,e1,e2,e3⟩
   ·rw [e1] at e;cases e
   ·rw [e1] at e;cases e;exact sl_ne a1.cell e3 (by simp [e1]) rfl
  have e1:(l1:Int).tdiv 16777216=(x:Int):=by
   rw [Int.tdiv_eq_ediv_of_nonneg (by omega),hx];rfl
  have e2:IntKind.u8.wrap (x:Int)=(x:Int):=by rw [wrap8];omega
  have hck:∀ {β:Type} (y:Option β),ck (some v) v y=y:=by
   intro β y
   rcases a1.grow with ⟨e1,e2⟩ | ⟨b,e1,e2,e3⟩ <;> rw [e1] <;> simp
  have w1:=fun x=>wr1_of hp2 (o:=0) (by simp) x
  obtain ⟨h3,hh3⟩:∃ h3,h3=h2.put p (.cells [.sl hn.n 0 (o1.length+1) (.op 1),.int .u64 l1,rng] t false):=⟨_,rfl⟩
  have hp3:h3.get p=some (.cells [.sl hn.n 0 (o1.length+1) (.op 1),.int .u64 l1,rng] t false):=by rw [hh3];exact get_put_same (by omega)
  have w3:=fun x=>wr1_of hp3 (o:=1) (by simp) x
  have fin:Fram h1 (h3.put p (.cells [.sl hn.n 0 (o1.length+1) (.op 1),.int .u64 ((l1 % 16777216*256:Nat):Int),rng] t false)) (fp p v):=by
   refine ⟨by rw [H.n_put,hh3,H.n_put];omega,fun c hc hs=>?_⟩
   have hcp:c ≠ p:=fun e=>hs (.inl e)
   rw [get_put_ne hcp,hh3,get_put_ne hcp,hf2 c (by omega) (fun o n k e=>hs (.inr ⟨o,n,k,e⟩)),hhn,get_new_lt (by omega)]
  have enc:EncAt (h3.put p (.cells [.sl hn.n 0 (o1.length+1) (.op 1),.int .u64 ((l1 % 16777216*256:Nat):Int),rng] t false)) p t (.sl hn.n 0 (o1.length+1) (.op 1)) (o1 ++ [l1 / 16777216]) (l1 % 16777216*256) rng:=by
   refine ⟨get_put_same (by rw [hh3,H.n_put];omega),.inr ⟨hn.n,by simp,by simp,?_⟩,?_,by show _ < _;omega⟩
   ·rw [get_put_ne (by omega),hh3,get_put_ne (by omega),hs2,hx]
   ·intro y hy
    rcases List.mem_append.mp hy with hy | hy
    · exact a1.byte y hy
    · simp at hy;omega
  have m1:(l1:Int).tmod 16777216=(l1:Int) % 16777216:=Int.tmod_eq_emod_of_nonneg (by omega)
  have m2:IntKind.u64.wrap ((l1:Int) % 16777216*256)=(l1:Int) % 16777216*256:=wrap64 (by omega) (by omega)
  have m3:IntKind.u64.wrap (x:Int)=x:=wrap64 (by omega) (by omega)
  refine ⟨_,_,?_,enc,fin,fun c o n k e=>by cases e;omega⟩
  rw [t31]
  simp [he,rd1_of a1.cell,bs,fillW,e1,e2,m3,V.cells,splice,← hhn,ha,w1,hck,← hh3,rd1_of hp3,w3,m1,m2]
noncomputable def h31 (K:Oracle) (L:Looper) (e:E) (h:H):Out :=
 (sq (bd (nilC (e.s k86 0)) fun t4 =>
 bd (fa 1 t4) fun t5 =>
 bd (ld h t5) fun t6 =>
 bd (binK 0 .geq t6 (.int .u64 4294967296)) fun t7 =>
 some ⟨.nm,⟨[(e.s k86 0),(e.s k86 2)],7,t7⟩,h⟩) fun e h =>
 br (e.s k86 7) (sq (bd (nilC (e.s k86 0)) fun t9 =>
 bd (fa 0 t9) fun t10 =>
 bd (ld h t10) fun t11 =>
 bd (lnS t11) fun t12 =>
 bd (binK 0 .sub t12 (.int .i64 1)) fun t13 =>
 some ⟨.nm,⟨[(e.s k86 0),t13],2,t13⟩,h⟩) fun e h =>
 sq (blk 0 (L (l86_0 K L) e h)) fun e h =>
 sq (sq (bd (binK 0 .geq (e.s k86 2) (.int .i64 0)) fun t35 =>
 some ⟨.nm,⟨[(e.s k86 0),(e.s k86 2)],35,t35⟩,h⟩) fun e h =>
 br (e.s k86 35) (bd (nilC (e.s k86 0)) fun t37 =>
 bd (fa 0 t37) fun t38 =>
 bd (ld h t38) fun t39 =>
 bd (iaS 1 t39 (e.s k86 2)) fun t41 =>
 bd (ld h t41) fun t42 =>
 bd (binK 0 .add t42 (.int .u8 1)) fun t43 =>
 bd (iaS 1 t39 (e.s k86 2)) fun t44 =>
 bf (stZ 1 h t44 t43) fun _ h1 =>
 some ⟨.nm,⟨[(e.s k86 0),(e.s k86 2)],0,(e.s k86 0)⟩,h1⟩)
 (some ⟨.nm,e,h⟩)) fun e h =>
 bd (nilC (e.s k86 0)) fun t47 =>
 bd (fa 1 t47) fun t48 =>
 bd (ld h t48) fun t49 =>
 bd (binK 0 .sub t49 (.int .u64 4294967296)) fun t50 =>
 bd (nilC (e.s k86 0)) fun t51 =>
 bd (fa 1 t51) fun t52 =>
 bf (stZ 1 h t52 t50) fun _ h1 =>
 some ⟨.nm,⟨[(e.s k86 0),(e.s k86 2)],0,(e.s k86 0)⟩,h1⟩)
 (some ⟨.nm,e,h⟩))
theorem s31_eq (K:Oracle) (L:Looper) (e:E) (h:H):s86 K L e h=sq (h31 K L e h) (t31 K L):=rfl
theorem head31 {h:H} {p:Nat} {t:TypeId} {v rng:V} {out:List Nat} {low:Nat} (a:EncAt h p t v out low rng) (hlen:out.length < 1099511627775) (hlow:low < 8589934592) :
   ∃ e' h1 o1 l1,h31 KW loopZ ⟨[.ptr p 0,V.und],0,.ptr p 0⟩ h=some ⟨.nm,e',h1⟩∧e'.s [0,2] 0=.ptr p 0∧EncAt h1 p t v o1 l1 rng∧l1 < 4294967296∧o1.length=out.length ∧
    emit out low=(o1 ++ [l1 / 16777216],l1 % 16777216*256)∧Fram h h1 (fp p v)∧h1.n=h.n:=by
  have hpl:=H.get_lt a.cell
  by_cases hc:4294967296≤low
  ·have hem:emit out low=(inc out ++ [low % 4294967296 / 16777216],low % 4294967296 % 16777216*256):=by simp [emit,hc]
   have ml:IntKind.u64.wrap ((low:Int) - 4294967296)=(low:Int) % 4294967296:=by rw [wrap64 (by omega) (by omega)];omega
   rcases a.grow with ⟨rfl,rfl⟩ | ⟨b,rfl,hne,hb⟩
   ·have hw:=fun v=>wr1_of a.cell (o:=1) (by simp) v
    have hlp:loopZ (l86_0 KW loopZ) ⟨[.ptr p 0,.int .i64 (-1)],2,.int .i64 (-1)⟩ h=some ⟨.ex 0,⟨[.ptr p 0,.int .i64 (-1)],25,.bool false⟩,h⟩:=by
      rw [loopZ_eq]
      simp [l86_0]
    simp [h31,rd1_of a.cell,show (4294967296:Int)≤low by omega]
    rw [wi64 (by omega) (by omega)]
    simp [hlp,rd1_of a.cell,hw,ml]
    refine ⟨_,_,⟨rfl,rfl⟩,by simp,[],low % 4294967296,⟨get_put_same hpl,.inl ⟨rfl,rfl⟩,by simp,by omega⟩,by omega,rfl,by rw [hem];rfl,⟨Nat.le_refl _,fun c hc hs=>get_put_ne fun e=>hs (.inl e)⟩,rfl⟩
   ·have hn:=sl_ne a.cell hb (by simp)
    have hll:out.length ≠ 0:=by simpa using hne
    obtain ⟨e',h',cur,i1,i2,i3,i4,i5⟩:=loop31 p b t 5 (.int .u64 low) rng out.length out.length out [] h ⟨[.ptr p 0,.int .i64 ((out.length:Int) - 1)],2,.int .i64 ((out.length:Int) - 1)⟩ rfl a.byte (by simp) (by omega) a.cell (by simpa using hb) hn (by simp) (by simp)
    have hc':h'.get p=some (.cells [.sl b 0 out.length (.op 1),.int .u64 low,rng] t false):=by rw [i3.2,if_neg hn,a.cell]
    have hb':h'.get b=some (.cells cur 5 false):=by rw [i3.2,if_pos rfl]
    have hnn:h'.n=h.n:=i3.1
    simp only [List.append_nil] at i5
    have hine:inc out ≠ []:=by intro e;have:=inc_length out;rw [e] at this;simp at this;exact hll this.symm
    simp [h31,rd1_of a.cell,show (4294967296:Int)≤low by omega]
    rw [wi64 (by omega) (by omega)]
    rcases i5 with ⟨j1,j2⟩ | ⟨m,x,j1,j2,j3,j4,j5⟩
    · have hw:=fun v=>wr1_of hc' (o:=1) (by simp) v
      simp [i1,i2,j1,rd1_of hc',hw,ml]
      refine ⟨_,_,⟨rfl,rfl⟩,by simp,inc out,low % 4294967296,⟨get_put_same (by omega),.inr ⟨b,by rw [inc_length],hine,?_⟩,inc_byte a.byte,by omega⟩,by omega,inc_length out,hem,⟨by rw [H.n_put];omega,fun c hc hs=>?_⟩,hnn⟩
      ·rw [get_put_ne (Ne.symm hn),hb',j2]
      ·rw [get_put_ne fun e=>hs (.inl e),i3.2,if_neg fun e=>hs (.inr ⟨_,_,_,by rw [e]⟩)]
    · have hw1:=fun v=>wr1_of hb' (o:=m) (by omega) v
      have hx8:IntKind.u8.wrap ((x:Int)+1)=((x+1:Nat):Int):=by rw [wrap8];omega
      obtain ⟨h2,hh2⟩:∃ h2,h2=h'.put b (.cells (bytesV (inc out)) 5 false):=⟨_,rfl⟩
      have hc2:h2.get p=some (.cells [.sl b 0 out.length (.op 1),.int .u64 low,rng] t false):=by rw [hh2,get_put_ne hn,hc']
      have hb2:h2.get b=some (.cells (bytesV (inc out)) 5 false):=by rw [hh2,get_put_same (H.get_lt hb')]
      have hnn2:h2.n=h.n:=by rw [hh2,H.n_put,hnn]
      have hw2:=fun v=>wr1_of hc2 (o:=1) (by simp) v
      simp only [Int.natCast_add,Int.cast_ofNat_Int] at j5 hx8
      simp [i1,i2,j1,rd1_of hc',rd1_of hb',j2,j3,hx8,hw1,j5,← hh2,rd1_of hc2,hw2,ml]
      refine ⟨_,_,⟨rfl,rfl⟩,by simp,inc out,low % 4294967296,⟨get_put_same (by omega),.inr ⟨b,by rw [inc_length],hine,?_⟩,inc_byte a.byte,by omega⟩,by omega,inc_length out,hem,⟨by rw [H.n_put];omega,fun c hc hs=>?_⟩,hnn2⟩
      ·rw [get_put_ne (Ne.symm hn),hb2]
      ·rw [get_put_ne fun e=>hs (.inl e),hh2,get_put_ne (fun e=>hs (.inr ⟨_,_,_,by rw [e]⟩)),i3.2,if_neg fun e=>hs (.inr ⟨_,_,_,by rw [e]⟩)]
  ·have hem:emit out low=(out ++ [low / 16777216],low % 16777216*256):=by simp [emit,hc]
   simp [h31,rd1_of a.cell,show ¬ (4294967296:Int)≤low by omega]
   exact ⟨_,_,⟨rfl,rfl⟩,by simp,out,low,a,by omega,rfl,hem,⟨Nat.le_refl _,fun _ _ _=>rfl⟩,rfl⟩
theorem goes_ok {h:H} {p:Nat} {t:TypeId} {v rng:V} {out:List Nat} {low:Nat} (a:EncAt h p t v out low rng) (hlen:out.length < 1099511627775) (hlow:low < 8589934592) :
   ∃ h' v',KW 86 [.ptr p 0] h=some (.ret (.tup []),h')∧EncAt h' p t v' (emit out low).1 (emit out low).2 rng∧Fram h h' (fp p v)∧∀ c o n k,v'=.sl c o n k→h.n≤c:=by
  obtain ⟨e',h1,o1,l1,k1,k2,k3,k4,k5,k6,k7,k8⟩:=head31 a hlen hlow
  obtain ⟨h',v',m1,m2,m3,m4⟩:=tail31 k2 k3 (by omega) k4
  refine ⟨h',v',?_,by rw [k6];exact m2,⟨by have:=m3.1;omega,fun c hc hs=>?_⟩,fun c o n k e=>by have:=m4 c o n k e;omega⟩
  ·rw [w86,f86,s31_eq,k1];exact m1
  ·rw [m3.2 c (by omega) hs,k7.2 c hc hs]
structure Own (h h':H) (p:Nat) (v v':V):Prop where
  fr:Fram h h' (fp p v)
  nw:v'=v∨∀ c o n k,v'=.sl c o n k→h.n≤c
theorem Own.refl (h:H) (p:Nat) (v:V):Own h h p v v:=⟨⟨Nat.le_refl _,fun _ _ _=>rfl⟩,.inl rfl⟩
theorem Own.trans {h h1 h2:H} {p:Nat} {v v1 v2:V} (a:Own h h1 p v v1) (b:Own h1 h2 p v1 v2):Own h h2 p v v2:=by
  refine ⟨⟨Nat.le_trans a.fr.1 b.fr.1,fun c hc hs=>?_⟩,?_⟩
  ·have h1n:=a.fr.1
   rw [b.fr.2 c (by omega) ?_,a.fr.2 c hc hs]
   rintro (e | ⟨o,n,k,e⟩)
   ·exact hs (.inl e)
   ·rcases a.nw with e1 | e1
    · exact hs (.inr ⟨o,n,k,by rw [← e1,e]⟩)
    · have:=e1 c o n k e;omega
  ·have h1n:=a.fr.1
   rcases b.nw with e | e
   ·rw [e];exact a.nw
   ·exact .inr fun c o n k e1=>by have:=e c o n k e1;omega
def renorm:Nat→List Nat→Nat→Nat→List Nat × Nat × Nat
  | 0,out,low,wide=>(out,low,wide)
  | n+1,out,low,wide=>if wide < 16777216 then renorm n (emit out low).1 (emit out low).2 (wide*256) else (out,low,wide)
theorem loop12 (p:Nat) (t:TypeId) (rng:V):∀ (n:Nat) (h:H) (v:V) (out:List Nat) (low wide:Nat) (e:E),EncAt h p t v out low rng→low < 8589934592→16777216≤wide*256 ^ n→wide < 4294967296→out.length+n < 1099511627775 →
   e.s [0,1,2,6,7,8] 0=.ptr p 0→e.s [0,1,2,6,7,8] 8=.int .u32 wide →
   ∃ e' h' v',loopZ (l94_0 KW loopZ) e h=some ⟨.ex 1,e',h'⟩∧e'.s [0,1,2,6,7,8] 0=.ptr p 0∧e'.s [0,1,2,6,7,8] 8=.int .u32 (renorm n out low wide).2.2 ∧
    EncAt h' p t v' (renorm n out low wide).1 (renorm n out low wide).2.1 rng∧Own h h' p v v'
  | n,h,v,out,low,wide,e,a,hlow,hw,hw32,hlen,he0,he8=>by
   by_cases hc:wide < 16777216
   ·cases n with
    | zero=>simp at hw;omega
    | succ n =>
      obtain ⟨h1,v1,k1,k2,k3,k4⟩:=shift_ok a (by omega) hlow
      have hm:IntKind.u32.wrap ((wide:Int)*2 ^ (min 8 IntKind.u32.bits))=((wide*256:Nat):Int):=by
       rw [show IntKind.u32.bits=32 from rfl,wrap32 (by simp;omega) (by simp;omega)];simp
      rw [loopZ_eq]
      simp [l94_0,he0,he8,show (wide:Int)≤16777215 by omega,k1]
      rw [hm]
      obtain ⟨e',h',v',i1,i2,i3,i4,i5⟩:=loop12 p t rng n h1 v1 _ _ (wide*256) ⟨[.ptr p 0,e.s [0,1,2,6,7,8] 1,e.s [0,1,2,6,7,8] 2,e.s [0,1,2,6,7,8] 6,e.s [0,1,2,6,7,8] 7,.int .u32 ((wide*256:Nat):Int)],8,.int .u32 ((wide*256:Nat):Int)⟩ k2
       (by have:=emit_lt out low;omega) (by rw [Nat.mul_assoc,← Nat.pow_succ'];exact hw) (by omega) (by rw [emit_length];omega) (by simp) (by simp)
      simp only [renorm,if_pos hc]
      exact ⟨e',h',i1,i2,i3,v',i4,(Own.trans ⟨k3,.inr k4⟩ i5)⟩
   ·rw [loopZ_eq]
    simp [l94_0,he0,he8,show ¬ (wide:Int)≤16777215 by omega]
    have hr:renorm n out low wide=(out,low,wide):=by cases n <;> simp [renorm,hc]
    rw [hr]
    exact ⟨_,_,⟨rfl,rfl⟩,by simp,by simp,v,a,Own.refl _ _ _⟩
theorem loop13 (p:Nat) (t:TypeId):∀ (n:Nat) (h:H) (v:V) (out:List Nat) (low wide:Nat) (e:E),EncAt h p t v out low (.int .u64 wide)→low < 8589934592→16777216≤wide*256 ^ n→wide < 4294967296→out.length+n < 1099511627775 →
   e.s [0,1,2,6,7,8] 0=.ptr p 0 →
   ∃ e' h' v',loopZ (l75_0 KW loopZ) e h=some ⟨.ex 0,e',h'⟩∧e'.s [0,1,2,6,7,8] 0=.ptr p 0 ∧
    EncAt h' p t v' (renorm n out low wide).1 (renorm n out low wide).2.1 (.int .u64 (renorm n out low wide).2.2)∧Own h h' p v v'
  | n,h,v,out,low,wide,e,a,hlow,hw,hw32,hlen,he0=>by
   by_cases hc:wide < 16777216
   ·cases n with
    | zero=>simp at hw;omega
    | succ n =>
      obtain ⟨h1,v1,k1,k2,k3,k4⟩:=goes_ok a (by omega) hlow
      have hm:IntKind.u64.wrap ((wide:Int)*256)=((wide*256:Nat):Int):=by
       rw [wrap64 (by omega) (by omega)];simp
      have hw1:=fun v=>wr1_of k2.cell (o:=2) (by simp) v
      have hp1:=H.get_lt k2.cell
      obtain ⟨h2,hh2⟩:∃ h2,h2=h1.put p (.cells [v1,.int .u64 ((emit out low).2:Int),.int .u64 ((wide*256:Nat):Int)] t false):=⟨_,rfl⟩
      have k5:EncAt h2 p t v1 (emit out low).1 (emit out low).2 (.int .u64 ((wide*256:Nat):Int)):=by
       refine ⟨by rw [hh2,get_put_same hp1],?_,k2.byte,k2.low64⟩
       rcases k2.grow with g | ⟨b,g1,g2,g3⟩
       ·exact .inl g
       ·exact .inr ⟨b,g1,g2,by rw [hh2,get_put_ne (fun e=>sl_ne k2.cell g3 (by simp [g1]) e.symm),g3]⟩
      have k6:Own h h2 p v v1:=by
       refine ⟨⟨by rw [hh2,H.n_put];exact k3.1,fun c hc hs=>?_⟩,.inr k4⟩
       rw [hh2,get_put_ne (fun e=>hs (.inl e)),k3.2 c hc hs]
      rw [loopZ_eq]
      simp [l75_0,he0,rd1_of a.cell,show (wide:Int) < 16777216 by omega,k1,rd1_of k2.cell,hw1]
      rw [hm,← hh2]
      obtain ⟨e',h',v',i1,i2,i4,i5⟩:=loop13 p t n h2 v1 _ _ (wide*256) ⟨[.ptr p 0,e.s [0,1,2,6,7,8] 1,e.s [0,1,2,6,7,8] 2,e.s [0,1,2,6,7,8] 6,e.s [0,1,2,6,7,8] 7,e.s [0,1,2,6,7,8] 8],0,.ptr p 0⟩ k5
       (by have:=emit_lt out low;omega) (by rw [Nat.mul_assoc,← Nat.pow_succ'];exact hw) (by omega) (by rw [emit_length];omega) (by simp)
      simp only [renorm,if_pos hc]
      exact ⟨e',h',i1,i2,v',i4,k6.trans i5⟩
   ·rw [loopZ_eq]
    simp [l75_0,he0,rd1_of a.cell,show ¬ (wide:Int) < 16777216 by omega]
    have hr:renorm n out low wide=(out,low,wide):=by cases n <;> simp [renorm,hc]
    rw [hr]
    exact ⟨_,_,⟨rfl,rfl⟩,by simp,v,a,Own.refl _ _ _⟩
def part (rng lo hi:Nat):Nat × Nat:=(rng / 32768*lo,if hi=32768 then rng - rng / 32768*lo else rng / 32768*(hi - lo))
theorem part_bounds {rng lo hi:Nat} (h0:16777216≤rng) (h1:rng < 4294967296) (h2:lo < hi) (h3:hi≤32768) :
   (part rng lo hi).1+(part rng lo hi).2≤rng∧512≤(part rng lo hi).2:=by
  unfold part
  have hq:512≤rng / 32768:=by omega
  have hq2:rng / 32768*32768≤rng:=by omega
  generalize rng / 32768=q at *
  have m1:q*lo+q*(hi - lo)≤q*32768:=by rw [← Nat.mul_add];exact Nat.mul_le_mul_left _ (by omega)
  have m2:q*1≤q*(hi - lo):=Nat.mul_le_mul_left _ (by omega)
  split
  ·subst_vars;constructor <;> simp only <;> omega
  ·constructor <;> simp only <;> omega
def EInv (low rng:Nat):Prop:=16777216≤rng∧rng < 4294967296∧low+rng < 8589934592
theorem renorm_inv:∀ {n:Nat} {out:List Nat} {low wide:Nat},16777216≤wide*256 ^ n→wide < 4294967296→low+wide < 8589934592 →
   EInv (renorm n out low wide).2.1 (renorm n out low wide).2.2∧(renorm n out low wide).1.length≤out.length+n
  | 0,out,low,wide,h1,h2,h3=>⟨⟨by simpa [renorm] using h1,h2,h3⟩,Nat.le_refl _⟩
  | n+1,out,low,wide,h1,h2,h3=>by
   unfold renorm
   split
   ·have hl:(emit out low).2≤4294967040:=by unfold emit;split <;> simp <;> omega
    have:=renorm_inv (n:=n) (out:=(emit out low).1) (low:=(emit out low).2) (wide:=wide*256) (by rw [Nat.mul_assoc,← Nat.pow_succ'];exact h1) (by omega) (by omega)
    refine ⟨this.1,?_⟩
    have:=this.2;rw [emit_length] at this;omega
   ·rename_i hc
    exact ⟨⟨by show _≤wide;omega,h2,h3⟩,by simp⟩
def put (out:List Nat) (low rng lo hi:Nat):List Nat × Nat × Nat:=renorm 3 out (low+(part rng lo hi).1) (part rng lo hi).2
theorem put_inv {out:List Nat} {low rng lo hi:Nat} (hi0:EInv low rng) (h2:lo < hi) (h3:hi≤32768) :
   EInv (put out low rng lo hi).2.1 (put out low rng lo hi).2.2∧(put out low rng lo hi).1.length≤out.length+3:=by
  obtain ⟨a,b,c⟩:=hi0
  obtain ⟨m1,m2⟩:=part_bounds a b h2 h3
  exact renorm_inv (by omega) (by omega) (by omega)
theorem put12_ok {h:H} {p:Nat} {t:TypeId} {v:V} {out:List Nat} {low rng lo hi:Nat} (a:EncAt h p t v out low (.int .u32 rng)) (inv:EInv low rng) (hlen:out.length < 1099511627000) (h2:lo < hi) (h3:hi≤32768) :
   ∃ h' v',KW 94 [.ptr p 0,.int .u32 lo,.int .u32 hi] h=some (.ret (.int .i64 0),h') ∧
    EncAt h' p t v' (put out low rng lo hi).1 (put out low rng lo hi).2.1 (.int .u32 (put out low rng lo hi).2.2)∧Own h h' p v v':=by
  obtain ⟨i1,i2,i3⟩:=inv
  obtain ⟨m1,m2⟩:=part_bounds i1 i2 h2 h3
  have hpl:=H.get_lt a.cell
  have hna:=narrow_ok rng lo hi (by omega) (by omega) (by omega) (by omega) (by omega) h
  obtain ⟨at_,hat⟩:∃ x,x=(part rng lo hi).1:=⟨_,rfl⟩
  obtain ⟨wd,hwd⟩:∃ x,x=(part rng lo hi).2:=⟨_,rfl⟩
  have e1:(rng:Int) / 32768*lo=(at_:Int):=by rw [hat,part];simp
  have e2:(if (hi:Int)=32768 then (rng:Int) - rng / 32768*lo else rng / 32768*(hi - lo))=(wd:Int):=by
   rw [hwd,part]
   have:=m1;rw [part] at this
   by_cases hc:hi=32768
   ·have hc':(hi:Int)=32768:=by omega
    simp only [if_pos hc,if_pos hc'] at *
    rw [Int.natCast_sub (by omega)];simp
   ·have hc':¬ (hi:Int)=32768:=by omega
    simp only [if_neg hc,if_neg hc']
    rw [Int.natCast_mul,Int.natCast_sub (by omega)];simp
  rw [← hat,← hwd] at m1
  rw [← hwd] at m2
  rw [e2,e1] at hna
  have hw1:=fun v=>wr1_of a.cell (o:=1) (by simp) v
  obtain ⟨h1,hh1⟩:∃ h1,h1=h.put p (.cells [v,.int .u64 ((low:Int)+at_),.int .u32 rng] t false):=⟨_,rfl⟩
  have a1:EncAt h1 p t v out (low+at_) (.int .u32 rng):=by
   refine ⟨by rw [hh1,get_put_same hpl];simp,?_,a.byte,by omega⟩
   rcases a.grow with g | ⟨b,g1,g2,g3⟩
   ·exact .inl g
   ·exact .inr ⟨b,g1,g2,by rw [hh1,get_put_ne (fun e=>sl_ne a.cell g3 (by simp [g1]) e.symm),g3]⟩
  have o1:Own h h1 p v v:=⟨⟨by rw [hh1,H.n_put];exact Nat.le_refl _,fun c hc hs=>by rw [hh1,get_put_ne fun e=>hs (.inl e)]⟩,.inl rfl⟩
  have ml:IntKind.u64.wrap ((low:Int)+at_)=(low:Int)+at_:=wrap64 (by omega) (by omega)
  have ma:IntKind.u64.wrap (at_:Int)=at_:=wrap64 (by omega) (by omega)
  obtain ⟨e',h',v',k1,k2,k3,k4,k5⟩:=loop12 p t (.int .u32 rng) 3 h1 v out (low+at_) wd ⟨[.ptr p 0,.int .u32 lo,.int .u32 hi,.int .i64 0,.int .u32 at_,.int .u32 wd],0,.ptr p 0⟩ a1 (by omega) (by omega) (by omega) (by omega) (by simp) (by simp)
  have hput:put out low rng lo hi=renorm 3 out (low+at_) wd:=by rw [put,← hat,← hwd]
  rw [hput]
  have hpl':=H.get_lt k4.cell
  obtain ⟨r,hr⟩:∃ r,r=renorm 3 out (low+at_) wd:=⟨_,rfl⟩
  rw [← hr] at k3 k4 ⊢
  have hw3:=fun v=>wr1_of k4.cell (o:=2) (by simp) v
  refine ⟨h'.put p (.cells [v',.int .u64 r.2.1,.int .u32 r.2.2] t false),v',?_,⟨get_put_same hpl',?_,k4.byte,k4.low64⟩,o1.trans (k5.trans ⟨⟨by rw [H.n_put];exact Nat.le_refl _,fun c hc hs=>by rw [get_put_ne fun e=>hs (.inl e)]⟩,.inl rfl⟩)⟩
  ·rw [w94,f94,s94]
   simp only [u32] at hna
   have hz:¬ (rng=0):=by omega
   have hz':¬ (hi≤lo):=by omega
   have hz'':¬ (32768 < hi):=by omega
   have hz1:¬ ((hi:Int)≤lo):=by omega
   have hz2:¬ ((32768:Int) < hi):=by omega
   simp [rd1_of a.cell,hz,hz1,hz2,hz',hz'',hna,hw1,ma,ml,← hh1,k1,k2,k3,hw3]
  ·rcases k4.grow with g | ⟨b,g1,g2,g3⟩
   ·exact .inl g
   ·exact .inr ⟨b,g1,g2,by rw [get_put_ne (fun e=>sl_ne k4.cell g3 (by simp [g1]) e.symm),g3]⟩
theorem part30_ok {rng lo hi:Nat} (h0:16777216≤rng) (h1:rng < 4294967296) (h2:lo < hi) (h3:hi≤32768) (h:H) :
   KW 104 [.int .u64 rng,.int .u32 lo,.int .u32 hi] h=some (.ret (.tup [.int .u64 (part rng lo hi).1,.int .u64 (part rng lo hi).2]),h):=by
  obtain ⟨m1,m2⟩:=part_bounds h0 h1 h2 h3
  unfold part at *
  have hq:rng / 32768 < 131072:=by omega
  have e0:(rng:Int).tdiv 32768=((rng / 32768:Nat):Int):=by rw [Int.tdiv_eq_ediv_of_nonneg (by omega)];rfl
  obtain ⟨q,hqq⟩:∃ q,q=rng / 32768:=⟨_,rfl⟩
  rw [← hqq] at m1 m2 e0 hq ⊢
  have n1:q*lo≤q*32768:=Nat.mul_le_mul_left _ (by omega)
  have n2:q*(hi - lo)≤q*32768:=Nat.mul_le_mul_left _ (by omega)
  have w0:IntKind.u64.wrap (q:Int)=q:=wrap64 (by omega) (by omega)
  have c1:(q:Int)*lo=((q*lo:Nat):Int):=(Int.natCast_mul q lo).symm
  have w1:IntKind.u64.wrap ((q:Int)*lo)=(q:Int)*lo:=by rw [c1];exact wrap64 (by omega) (by omega)
  have w2:IntKind.u64.wrap (lo:Int)=lo:=wrap64 (by omega) (by omega)
  rw [w104,f104,s104]
  by_cases hc:hi=32768
  ·subst hc
   simp only [if_true] at m1 m2 ⊢
   have w3:IntKind.u64.wrap ((rng:Int) - (q:Int)*lo)=(rng:Int) - (q:Int)*lo:=by rw [c1];exact wrap64 (by omega) (by omega)
   have w4:((rng - q*lo:Nat):Int)=(rng:Int) - (q:Int)*lo:=by rw [c1];omega
   simp [e0,w0,w1,w2,w3,w4]
  ·have hc':¬ (hi:Int)=32768:=by omega
   have w3:IntKind.u32.wrap ((hi:Int) - lo)=((hi - lo:Nat):Int):=by rw [wrap32 (by omega) (by omega)];omega
   have w5:IntKind.u64.wrap ((hi - lo:Nat):Int)=((hi - lo:Nat):Int):=wrap64 (by omega) (by omega)
   have w4:IntKind.u64.wrap ((q:Int)*((hi - lo:Nat):Int))=(q:Int)*((hi - lo:Nat):Int):=by
    rw [← Int.natCast_mul];exact wrap64 (by omega) (by omega)
   obtain ⟨d,hd⟩:∃ d,d=hi - lo:=⟨_,rfl⟩
   rw [← hd] at w3 w4 w5 ⊢
   simp [e0,w0,w1,w2,w3,w4,w5,hc,hc']
theorem put13_ok {h:H} {p:Nat} {t:TypeId} {v:V} {out:List Nat} {low rng lo hi:Nat} (a:EncAt h p t v out low (.int .u64 rng)) (inv:EInv low rng) (hlen:out.length < 1099511627000) (h2:lo < hi) (h3:hi≤32768) :
   ∃ h' v',KW 75 [.ptr p 0,.int .u32 lo,.int .u32 hi] h=some (.ret (.int .i64 0),h') ∧
    EncAt h' p t v' (put out low rng lo hi).1 (put out low rng lo hi).2.1 (.int .u64 (put out low rng lo hi).2.2)∧Own h h' p v v':=by
  obtain ⟨i1,i2,i3⟩:=inv
  obtain ⟨m1,m2⟩:=part_bounds i1 i2 h2 h3
  have hpl:=H.get_lt a.cell
  have hna:=part30_ok i1 i2 h2 h3 h
  obtain ⟨at_,hat⟩:∃ x,x=(part rng lo hi).1:=⟨_,rfl⟩
  obtain ⟨wd,hwd⟩:∃ x,x=(part rng lo hi).2:=⟨_,rfl⟩
  rw [← hat,← hwd] at m1 hna
  rw [← hwd] at m2
  have hw1:=fun v=>wr1_of a.cell (o:=1) (by simp) v
  obtain ⟨h0,hh0⟩:∃ h0,h0=h.put p (.cells [v,.int .u64 ((low:Int)+at_),.int .u64 rng] t false):=⟨_,rfl⟩
  have hc0:h0.get p=some (.cells [v,.int .u64 ((low:Int)+at_),.int .u64 rng] t false):=by rw [hh0,get_put_same hpl]
  have hw2:=fun v=>wr1_of hc0 (o:=2) (by simp) v
  obtain ⟨h1,hh1⟩:∃ h1,h1=h0.put p (.cells [v,.int .u64 ((low:Int)+at_),.int .u64 wd] t false):=⟨_,rfl⟩
  have a1:EncAt h1 p t v out (low+at_) (.int .u64 wd):=by
   refine ⟨by rw [hh1,get_put_same (H.get_lt hc0)];simp,?_,a.byte,by omega⟩
   rcases a.grow with g | ⟨b,g1,g2,g3⟩
   ·exact .inl g
   ·have:=fun e=>sl_ne a.cell g3 (by simp [g1]) (Eq.symm e)
    exact .inr ⟨b,g1,g2,by rw [hh1,get_put_ne this,hh0,get_put_ne this,g3]⟩
  have o1:Own h h1 p v v:=⟨⟨by rw [hh1,H.n_put,hh0,H.n_put];exact Nat.le_refl _,fun c hc hs=>by rw [hh1,get_put_ne fun e=>hs (.inl e),hh0,get_put_ne fun e=>hs (.inl e)]⟩,.inl rfl⟩
  have ml:IntKind.u64.wrap ((low:Int)+at_)=(low:Int)+at_:=wrap64 (by omega) (by omega)
  obtain ⟨e',h',v',k1,k2,k4,k5⟩:=loop13 p t 3 h1 v out (low+at_) wd ⟨[.ptr p 0,.int .u32 lo,.int .u32 hi,.int .i64 0,.int .u64 at_,.int .u64 wd],0,.ptr p 0⟩ a1 (by omega) (by omega) (by omega) (by omega) (by simp)
  have hput:put out low rng lo hi=renorm 3 out (low+at_) wd:=by rw [put,← hat,← hwd]
  rw [hput]
  refine ⟨h',v',?_,k4,o1.trans k5⟩
  rw [w75,f75,s75]
  have hz1:¬ ((hi:Int)≤lo):=by omega
  have hz2:¬ ((32768:Int) < hi):=by omega
  have hz':¬ (hi≤lo):=by omega
  have hz'':¬ (32768 < hi):=by omega
  simp [rd1_of a.cell,hz1,hz2,hz',hz'',hna,hw1,ml,← hh0,hw2,← hh1,k1,k2]
theorem new10_ok (h:H):∃ h',KW 27 [] h=some (.ret (.ptr h.n 0),h')∧EncAt h' h.n 104 .nils [] 0 (.int .u32 (4294967295:Nat))∧h'.n=h.n+1∧∀ c,c < h.n→h'.get c=h.get c:=by
  refine ⟨h.new (.cells [.nils,.int .u64 0,.int .u32 4294967295] 104 false),?_,⟨get_new_same,.inl ⟨rfl,rfl⟩,by simp,by omega⟩,rfl,fun c hc=>get_new_lt hc⟩
  rw [w27,f27,s27]
  simp [bl,fillW,bx,V.cells,splice]
theorem new11_ok (h:H):∃ h',KW 33 [] h=some (.ret (.ptr h.n 0),h')∧EncAt h' h.n 108 .nils [] 0 (.int .u64 (4294967295:Nat))∧h'.n=h.n+1∧∀ c,c < h.n→h'.get c=h.get c:=by
  refine ⟨h.new (.cells [.nils,.int .u64 0,.int .u64 4294967295] 108 false),?_,⟨get_new_same,.inl ⟨rfl,rfl⟩,by simp,by omega⟩,rfl,fun c hc=>get_new_lt hc⟩
  rw [w33,f33,s33]
  simp [bl,fillW,bx,V.cells,splice]
theorem clone_ok {h:H} {v:V} {out:List Nat} (g:Grow h v out) (hlen:out.length < 1099511627776) :
   ∃ h' v',KW 84 [v] h=some (.ret v',h')∧Grow h' v' out∧h.n≤h'.n∧(∀ c,c < h.n→h'.get c=h.get c)∧∀ c o n k,v'=.sl c o n k→h.n≤c:=by
  rcases g with ⟨rfl,rfl⟩ | ⟨b,rfl,hne,hb⟩
  ·refine ⟨h,.nils,?_,.inl ⟨rfl,rfl⟩,Nat.le_refl _,fun _ _=>rfl,fun c o n k e=>by cases e⟩
   rw [w84,f84,s84]
   simp
  ·have hbl:=H.get_lt hb
   have hll:out.length ≠ 0:=by simpa using hne
   obtain ⟨h1,hh1⟩:∃ h1,h1=h.new (.cells [] 5 false):=⟨_,rfl⟩
   have hb1:h1.get b=some (.cells (bytesV out) 5 false):=by rw [hh1,get_new_lt hbl,hb]
   have hk:List.take out.length (bytesV out)=bytesV out:=List.take_of_length_le (by simp)
   refine ⟨h1.new (.cells (bytesV out) 5 false),.sl h1.n 0 out.length (.op 1),?_,.inr ⟨h1.n,rfl,hne,get_new_same⟩,by rw [H.n_new,hh1,H.n_new];omega,fun c hc=>?_,fun c o n k e=>?_⟩
   ·have hr0:h1.get h.n=some (.cells [] 5 false):=by rw [hh1];exact get_new_same
    rw [w84,f84,s84]
    simp [bs,fillW,← hh1,apZ,lenOf,firstV,H.rdN,hb1,apN,hr0,hk,hll,show out.length≤140737488355328 by omega]
   ·rw [get_new_lt (by rw [hh1,H.n_new];omega),hh1,get_new_lt hc]
   ·cases e;rw [hh1,H.n_new];omega
def emits:Nat→List Nat→Nat→List Nat × Nat
  | 0,out,low=>(out,low)
  | n+1,out,low=>emits n (emit out low).1 (emit out low).2
theorem loop14 (p:Nat) (t:TypeId) (rng:V):∀ (n:Nat) (h:H) (v:V) (out:List Nat) (low:Nat) (e:E),EncAt h p t v out low rng→low < 8589934592→n≤4→out.length+n < 1099511627775 →
   e.s [0,2,3,4,24] 3=.ptr p 0→e.s [0,2,3,4,24] 24=.int .i64 (4 - (n:Int)) →
   ∃ e' h' v',loopZ (l57_0 KW loopZ) e h=some ⟨.ex 0,e',h'⟩∧e'.s [0,2,3,4,24] 3=.ptr p 0 ∧
    EncAt h' p t v' (emits n out low).1 (emits n out low).2 rng∧Own h h' p v v'
  | 0,h,v,out,low,e,a,hlow,hn,hlen,he0,he1=>by
   rw [loopZ_eq]
   simp [l57_0,he0,he1]
   exact ⟨_,_,⟨rfl,rfl⟩,by simp,v,a,Own.refl _ _ _⟩
  | n+1,h,v,out,low,e,a,hlow,hn,hlen,he0,he1=>by
   obtain ⟨h1,v1,k1,k2,k3,k4⟩:=shift_ok a (by omega) hlow
   rw [loopZ_eq]
   simp [l57_0,he0,he1,show (4:Int) - (n+1) < 4 by omega,k1]
   have hw:IntKind.i64.wrap ((4:Int) - (n+1)+1)=4 - (n:Int):=by rw [wi64 (by omega) (by omega)];omega
   rw [hw]
   obtain ⟨e',h',v',i1,i2,i4,i5⟩:=loop14 p t rng n h1 v1 _ _ ⟨[e.s [0,2,3,4,24] 0,e.s [0,2,3,4,24] 2,.ptr p 0,e.s [0,2,3,4,24] 4,.int .i64 (4 - (n:Int))],24,.int .i64 (4 - (n:Int))⟩ k2
    (by have:=emit_lt out low;omega) (by omega) (by rw [emit_length];omega) (by simp) (by simp)
   exact ⟨e',h',i1,i2,v',i4,Own.trans ⟨k3,.inr k4⟩ i5⟩
theorem loop16 (p:Nat) (t:TypeId) (rng:V):∀ (n:Nat) (h:H) (v:V) (out:List Nat) (low:Nat) (e:E),EncAt h p t v out low rng→low < 8589934592→n≤4→out.length+n < 1099511627775 →
   e.s [0,2,3,4,5] 3=.ptr p 0→e.s [0,2,3,4,5] 4=.int .i64 (4 - (n:Int)) →
   ∃ e' h' v',loopZ (l58_0 KW loopZ) e h=some ⟨.ex 0,e',h'⟩∧e'.s [0,2,3,4,5] 3=.ptr p 0 ∧
    EncAt h' p t v' (emits n out low).1 (emits n out low).2 rng∧Own h h' p v v'
  | 0,h,v,out,low,e,a,hlow,hn,hlen,he0,he1=>by
   rw [loopZ_eq]
   simp [l58_0,he0,he1]
   exact ⟨_,_,⟨rfl,rfl⟩,by simp,v,a,Own.refl _ _ _⟩
  | n+1,h,v,out,low,e,a,hlow,hn,hlen,he0,he1=>by
   obtain ⟨h1,v1,k1,k2,k3,k4⟩:=goes_ok a (by omega) hlow
   rw [loopZ_eq]
   simp [l58_0,he0,he1,show (4:Int) - (n+1) < 4 by omega,k1]
   have hw:IntKind.i64.wrap ((4:Int) - (n+1)+1)=4 - (n:Int):=by rw [wi64 (by omega) (by omega)];omega
   rw [hw]
   obtain ⟨e',h',v',i1,i2,i4,i5⟩:=loop16 p t rng n h1 v1 _ _ ⟨[e.s [0,2,3,4,5] 0,e.s [0,2,3,4,5] 2,.ptr p 0,.int .i64 (4 - (n:Int)),e.s [0,2,3,4,5] 5],4,.int .i64 (4 - (n:Int))⟩ k2
    (by have:=emit_lt out low;omega) (by omega) (by rw [emit_length];omega) (by simp) (by simp)
   exact ⟨e',h',i1,i2,v',i4,Own.trans ⟨k3,.inr k4⟩ i5⟩
def trimN (out:List Nat):Nat→Nat
  | 0=>0
  | k+1=>if out[k]?=some 0 then trimN out k else k+1
theorem trimN_le (out:List Nat):∀ k,trimN out k≤k
  | 0=>Nat.le_refl _
  | k+1=>by unfold trimN;split;exact Nat.le_succ_of_le (trimN_le out k);exact Nat.le_refl _
theorem trim14 (p b:Nat) (t:TypeId) (c1 c2:V) (out:List Nat) (h:H) (hc:h.get p=some (.cells [.sl b 0 out.length (.op 1),c1,c2] t false)) (hb:h.get b=some (.cells (bytesV out) 5 false)) (hlen:out.length < 1099511627776):∀ (k:Nat) (e:E),k≤out.length →
   e.s [0,2,3,4,24] 3=.ptr p 0→e.s [0,2,3,4,24] 4=.int .i64 k →
   ∃ e',loopZ (l57_1 KW loopZ) e h=some ⟨.ex 2,e',h⟩∧e'.s [0,2,3,4,24] 3=.ptr p 0∧e'.s [0,2,3,4,24] 4=.int .i64 (trimN out k)
  | 0,e,hk,he0,he1=>by
   rw [loopZ_eq]
   simp [l57_1,he0,he1,trimN]
  | k+1,e,hk,he0,he1=>by
   obtain ⟨x,hx⟩:∃ x,out[k]?=some x:=⟨out[k],by simp⟩
   have hbx:(bytesV out)[k]?=some (.int .u8 x):=by simp [bytesV,hx]
   have hw:IntKind.i64.wrap (((k+1:Nat):Int) - 1)=k:=by rw [wi64 (by omega) (by omega)];omega
   have hw':IntKind.i64.wrap ((k:Int))=k:=wi64 (by omega) (by omega)
   have hkl:k < out.length:=by omega
   obtain ⟨c,hcc⟩:∃ c,c=bytesV out:=⟨_,rfl⟩
   have hb0:=hb
   rw [← hcc] at hb hbx
   rw [loopZ_eq]
   by_cases h0:x=0
   ·subst h0
    simp [l57_1,he0,he1,rd1_of hc,rd1_of hb,hbx,hw,hw',show (0:Int) < (k:Int)+1 by omega,hkl]
    obtain ⟨e',i1,i2,i3⟩:=trim14 p b t c1 c2 out h hc hb0 hlen k ⟨[e.s [0,2,3,4,24] 0,e.s [0,2,3,4,24] 2,.ptr p 0,.int .i64 k,e.s [0,2,3,4,24] 24],4,.int .i64 k⟩ (by omega) (by simp) (by simp)
    refine ⟨e',i1,i2,?_⟩
    rw [i3,trimN,hx];simp
   ·have ht:trimN out (k+1)=k+1:=by rw [trimN,hx];simp [h0]
    simp [l57_1,he0,he1,rd1_of hc,rd1_of hb,hbx,hw,hw',show (0:Int) < (k:Int)+1 by omega,hkl,h0,ht]
theorem trim16 (p b:Nat) (t:TypeId) (c1 c2:V) (out:List Nat) (h:H) (hc:h.get p=some (.cells [.sl b 0 out.length (.op 1),c1,c2] t false)) (hb:h.get b=some (.cells (bytesV out) 5 false)) (hlen:out.length < 1099511627776):∀ (k:Nat) (e:E),k≤out.length →
   e.s [0,2,3,4,5] 3=.ptr p 0→e.s [0,2,3,4,5] 5=.int .i64 k →
   ∃ e',loopZ (l58_1 KW loopZ) e h=some ⟨.ex 2,e',h⟩∧e'.s [0,2,3,4,5] 3=.ptr p 0∧e'.s [0,2,3,4,5] 5=.int .i64 (trimN out k)
  | 0,e,hk,he0,he1=>by
   rw [loopZ_eq]
   simp [l58_1,he0,he1,trimN]
  | k+1,e,hk,he0,he1=>by
   obtain ⟨x,hx⟩:∃ x,out[k]?=some x:=⟨out[k],by simp⟩
   have hbx:(bytesV out)[k]?=some (.int .u8 x):=by simp [bytesV,hx]
   have hw:IntKind.i64.wrap (((k+1:Nat):Int) - 1)=k:=by rw [wi64 (by omega) (by omega)];omega
   have hw':IntKind.i64.wrap ((k:Int))=k:=wi64 (by omega) (by omega)
   have hkl:k < out.length:=by omega
   obtain ⟨c,hcc⟩:∃ c,c=bytesV out:=⟨_,rfl⟩
   have hb0:=hb
   rw [← hcc] at hb hbx
   rw [loopZ_eq]
   by_cases h0:x=0
   ·subst h0
    simp [l58_1,he0,he1,rd1_of hc,rd1_of hb,hbx,hw,hw',show (0:Int) < (k:Int)+1 by omega,hkl]
    obtain ⟨e',i1,i2,i3⟩:=trim16 p b t c1 c2 out h hc hb0 hlen k ⟨[e.s [0,2,3,4,5] 0,e.s [0,2,3,4,5] 2,.ptr p 0,e.s [0,2,3,4,5] 4,.int .i64 k],5,.int .i64 k⟩ (by omega) (by simp) (by simp)
    refine ⟨e',i1,i2,?_⟩
    rw [i3,trimN,hx];simp
   ·have ht:trimN out (k+1)=k+1:=by rw [trimN,hx];simp [h0]
    simp [l58_1,he0,he1,rd1_of hc,rd1_of hb,hbx,hw,hw',show (0:Int) < (k:Int)+1 by omega,hkl,h0,ht]
theorem emits_length:∀ (n:Nat) (out:List Nat) (low:Nat),(emits n out low).1.length=out.length+n
  | 0,_,_=>rfl
  | n+1,out,low=>by rw [emits,emits_length n,emit_length];omega
def bytes (out:List Nat) (low:Nat):List Nat:=(emits 4 out low).1.take (trimN (emits 4 out low).1 (out.length+4))
theorem grow_ck {h:H} {v:V} {out:List Nat} (g:Grow h v out) {β:Type} (y:Option β):ck (some v) v y=y:=by
  rcases g with ⟨e1,e2⟩ | ⟨b,e1,e2,e3⟩ <;> rw [e1] <;> simp
theorem grow_cells {h:H} {v:V} {out:List Nat} (g:Grow h v out):v.cells=some [v]:=by
  rcases g with ⟨e1,e2⟩ | ⟨b,e1,e2,e3⟩ <;> rw [e1] <;> simp [V.cells,V.isCell]
theorem cells_int (k:IntKind) (n:Int):(V.int k n).cells=some [.int k n]:=rfl
theorem bytes14_ok {h:H} {p:Nat} {t:TypeId} {v:V} {out:List Nat} {low rng:Nat} (a:EncAt h p t v out low (.int .u32 rng)) (inv:EInv low rng) (hlen:out.length < 1099511627000) :
   ∃ h' b,KW 57 [.ptr p 0] h=some (.ret (.sl b 0 (trimN (emits 4 out low).1 (out.length+4)) (.ex (trimN (emits 4 out low).1 (out.length+4)))),h') ∧
    h'.get b=some (.cells (bytesV (emits 4 out low).1) 5 false)∧(∀ x ∈ (emits 4 out low).1,x < 256)∧h.n≤b∧h.n≤h'.n∧∀ c,c < h.n→h'.get c=h.get c:=by
  obtain ⟨i1,i2,i3⟩:=inv
  have hpl:=H.get_lt a.cell
  obtain ⟨h1,v1,k1,k2,k3,k4,k5⟩:=clone_ok a.grow (by omega)
  have hp1:h1.get p=some (.cells [v,.int .u64 low,.int .u32 rng] t false):=by rw [k4 p hpl,a.cell]
  have hz:¬ (rng=0):=by omega
  have hbl:bl [.nils,.int .u64 0,.int .u32 0] [(some (0,1),v1),(some (1,1),.int .u64 low)]=some (.agg [v1,.int .u64 low,.int .u32 0]):=by
   simp [bl,fillW,grow_cells k2,cells_int,splice]
  obtain ⟨h2,hh2⟩:∃ h2,h2=h1.new (.cells [.nils,.int .u64 0,.int .u32 0] 104 false):=⟨_,rfl⟩
  have hq2:h2.get h1.n=some (.cells [.nils,.int .u64 0,.int .u32 0] 104 false):=by rw [hh2];exact get_new_same
  obtain ⟨h3,hh3⟩:∃ h3,h3=h2.put h1.n (.cells [v1,.int .u64 low,.int .u32 0] 104 false):=⟨_,rfl⟩
  have hst:stZ 3 h2 (.ptr h1.n 0) (.agg [v1,.int .u64 low,.int .u32 0])=some (.tup [],h3):=by
   rw [hh3];simp [stZ,H.wrN,hq2,splice]
  have a3:EncAt h3 h1.n 104 v1 out low (.int .u32 0):=by
   refine ⟨by rw [hh3,get_put_same (H.get_lt hq2)],?_,a.byte,a.low64⟩
   rcases k2 with g | ⟨b,g1,g2,g3⟩
   ·exact .inl g
   ·have:=H.get_lt g3
    exact .inr ⟨b,g1,g2,by rw [hh3,get_put_ne (by omega),hh2,get_new_lt this,g3]⟩
  obtain ⟨e',h4,v4,j1,j2,j3,j4⟩:=loop14 h1.n 104 (.int .u32 0) 4 h3 v1 out low ⟨[.ptr p 0,.nils,.ptr h1.n 0,.tup [],.int .i64 0],24,.int .i64 0⟩ a3 (by omega) (by omega) (by omega) (by simp) (by simp)
  have hn2:h2.n=h1.n+1:=by rw [hh2,H.n_new]
  have hn3:h3.n=h1.n+1:=by rw [hh3,H.n_put,hn2]
  have hel:=emits_length 4 out low
  rcases j3.grow with ⟨g1,g2⟩ | ⟨b,rfl,g2,g3⟩
  ·rw [g2] at hel;simp at hel
  ·obtain ⟨e2,m1,m2,m3⟩:=trim14 h1.n b 104 (.int .u64 (emits 4 out low).2) (.int .u32 0) _ h4 j3.cell g3 (by omega) _ ⟨[e'.s [0,2,3,4,24] 0,e'.s [0,2,3,4,24] 2,.ptr h1.n 0,.int .i64 (emits 4 out low).1.length,e'.s [0,2,3,4,24] 24],4,.int .i64 (emits 4 out low).1.length⟩ (Nat.le_refl _) (by simp) (by simp)
   have hle:=trimN_le (emits 4 out low).1 (emits 4 out low).1.length
   rw [← hel]
   obtain ⟨n,hn⟩:∃ n,n=trimN (emits 4 out low).1 (emits 4 out low).1.length:=⟨_,rfl⟩
   rw [← hn] at m3 hle ⊢
   have hsl:slS 1 (.sl b 0 (emits 4 out low).1.length (.op 1)) none (some (.int .i64 n)) (some (.int .i64 n))=some (.sl b 0 n (.ex n)):=by
    have hle':n≤(emits 4 out low).1.length:=hle
    simp [slS,sbV,optB,hle']
   refine ⟨h4,b,?_,g3,j3.byte,?_,by have:=j4.fr.1;omega,fun c hc=>?_⟩
   ·rw [w57,f57,s57]
    simp [rd1_of a.cell,hz,k1,rd1_of hp1,hbl,nw,← hh2,hst,grow_ck a.grow,j1,j2,rd1_of j3.cell,m1,m2,m3,hsl]
   ·rcases j4.nw with e | e
    · have:=k5 b;rw [← e] at this;have:=this _ _ _ rfl;omega
    · have:=e b _ _ _ rfl;omega
   ·rw [j4.fr.2 c (by omega) ?_,hh3,get_put_ne (by omega),hh2,get_new_lt (by omega),k4 c hc]
    rintro (e | ⟨o,n,k,e⟩)
    · omega
    · have:=k5 _ _ _ _ e;omega
theorem bytes16_ok {h:H} {p:Nat} {t:TypeId} {v:V} {out:List Nat} {low rng:Nat} (a:EncAt h p t v out low (.int .u64 rng)) (inv:EInv low rng) (hlen:out.length < 1099511627000) :
   ∃ h' b,KW 58 [.ptr p 0] h=some (.ret (.sl b 0 (trimN (emits 4 out low).1 (out.length+4)) (.op 1)),h') ∧
    h'.get b=some (.cells (bytesV (emits 4 out low).1) 5 false)∧(∀ x ∈ (emits 4 out low).1,x < 256)∧h.n≤b∧h.n≤h'.n∧∀ c,c < h.n→h'.get c=h.get c:=by
  obtain ⟨i1,i2,i3⟩:=inv
  have hpl:=H.get_lt a.cell
  have hbl:bl [.nils,.int .u64 0,.int .u64 0] [(some (1,1),.int .u64 low)]=some (.agg [.nils,.int .u64 low,.int .u64 0]):=by
   simp [bl,fillW,cells_int,splice]
  obtain ⟨h1,hh1⟩:∃ h1,h1=h.new (.cells [.nils,.int .u64 low,.int .u64 0] 108 false):=⟨_,rfl⟩
  have hbx:bx h 108 (.agg [.nils,.int .u64 low,.int .u64 0])=some (.ptr h.n 0,h1):=by rw [hh1];simp [bx,V.cells]
  have hq1:h1.get h.n=some (.cells [.nils,.int .u64 low,.int .u64 0] 108 false):=by rw [hh1];exact get_new_same
  have hp1:h1.get p=some (.cells [v,.int .u64 low,.int .u64 rng] t false):=by rw [hh1,get_new_lt hpl,a.cell]
  have hn1:h1.n=h.n+1:=by rw [hh1,H.n_new]
  -- the copy of the bytes
  obtain ⟨h2,v1,hap,g2,hn2,hf2,hv2⟩:∃ h2 v1,apZ 5 1 1 h1 .nils v=some (v1,h2)∧Grow h2 v1 out∧h1.n≤h2.n∧(∀ c,c < h1.n→h2.get c=h1.get c)∧∀ c o n k,v1=.sl c o n k→h1.n≤c:=by
   rcases a.grow with ⟨rfl,rfl⟩ | ⟨b,rfl,hne,hb⟩
   ·exact ⟨h1,.nils,by simp [apZ,lenOf,firstV,apN],.inl ⟨rfl,rfl⟩,Nat.le_refl _,fun _ _=>rfl,fun c o n k e=>by cases e⟩
   ·have hb1:h1.get b=some (.cells (bytesV out) 5 false):=by rw [hh1,get_new_lt (H.get_lt hb),hb]
    have hr:h1.rdN b 0 out.length=some (bytesV out):=by
      simp [H.rdN,hb1,List.take_of_length_le]
    obtain ⟨h2,q1,q2,q3,q4⟩:=append_ok (h:=h1) (v:=.nils) (out:=[]) (cp:=.op 1) (.inl ⟨rfl,rfl⟩) hr rfl (by simpa using hne) (by simp;omega)
    refine ⟨h2,_,q1,.inr ⟨h1.n,by simp,hne,by simpa using q3⟩,by omega,fun c hc=>q4 c hc (by simp),fun c o n k e=>by cases e;omega⟩
  have hq2:h2.get h.n=some (.cells [.nils,.int .u64 low,.int .u64 0] 108 false):=by rw [hf2 _ (by omega),hq1]
  have hw2:=fun x=>wr1_of hq2 (o:=0) (by simp) x
  obtain ⟨h3,hh3⟩:∃ h3,h3=h2.put h.n (.cells [v1,.int .u64 low,.int .u64 0] 108 false):=⟨_,rfl⟩
  have hst:stZ 1 h2 (.ptr h.n 0) v1=some (.tup [],h3):=by
   rw [hh3]
   rcases g2 with ⟨e1,e2⟩ | ⟨b,e1,e2,e3⟩ <;> rw [e1] <;> simp [hw2]
  have a3:EncAt h3 h.n 108 v1 out low (.int .u64 0):=by
   refine ⟨by rw [hh3,get_put_same (H.get_lt hq2)],?_,a.byte,a.low64⟩
   rcases g2 with g | ⟨b,g1,g2,g3⟩
   ·exact .inl g
   ·have:=hv2 _ _ _ _ g1
    exact .inr ⟨b,g1,g2,by rw [hh3,get_put_ne (by omega),g3]⟩
  obtain ⟨e',h4,v4,j1,j2,j3,j4⟩:=loop16 h.n 108 (.int .u64 0) 4 h3 v1 out low ⟨[.ptr p 0,.nils,.ptr h.n 0,.int .i64 0,.tup []],4,.int .i64 0⟩ a3 (by omega) (by omega) (by omega) (by simp) (by simp)
  have hn3:h3.n=h2.n:=by rw [hh3,H.n_put]
  have hel:=emits_length 4 out low
  rcases j3.grow with ⟨g1,g2⟩ | ⟨b,rfl,g2',g3⟩
  ·rw [g2] at hel;simp at hel
  ·obtain ⟨e2,m1,m2,m3⟩:=trim16 h.n b 108 (.int .u64 (emits 4 out low).2) (.int .u64 0) _ h4 j3.cell g3 (by omega) _ ⟨[e'.s [0,2,3,4,5] 0,e'.s [0,2,3,4,5] 2,.ptr h.n 0,e'.s [0,2,3,4,5] 4,.int .i64 (emits 4 out low).1.length],5,.int .i64 (emits 4 out low).1.length⟩ (Nat.le_refl _) (by simp) (by simp)
   have hle:=trimN_le (emits 4 out low).1 (emits 4 out low).1.length
   rw [← hel]
   obtain ⟨n,hn⟩:∃ n,n=trimN (emits 4 out low).1 (emits 4 out low).1.length:=⟨_,rfl⟩
   rw [← hn] at m3 hle ⊢
   have hsl:slS 1 (.sl b 0 (emits 4 out low).1.length (.op 1)) none (some (.int .i64 n)) none=some (.sl b 0 n (.op 1)):=by
    have hle':n≤(emits 4 out low).1.length:=hle
    simp [slS,sbV,optB,hle']
   refine ⟨h4,b,?_,g3,j3.byte,?_,by have:=j4.fr.1;omega,fun c hc=>?_⟩
   ·rw [w58,f58,s58]
    simp [rd1_of a.cell,hbl,hbx,rd1_of hq1,rd1_of hp1,hap,hst,grow_ck a.grow,j1,j2,rd1_of j3.cell,m1,m2,m3,hsl]
   ·rcases j4.nw with e | e
    · have:=hv2 b;rw [← e] at this;have:=this _ _ _ rfl;omega
    · have:=e b _ _ _ rfl;omega
   ·rw [j4.fr.2 c (by omega) ?_,hh3,get_put_ne (by omega),hf2 c (by omega),hh1,get_new_lt hc]
    rintro (e | ⟨o,n,k,e⟩)
    · omega
    · have:=hv2 _ _ _ _ e;omega
def SlAt (h:H) (v:V) (l:List Nat):Prop :=
  (v=.nils∧l=[])∨∃ b o k c e ro,v=.sl b o l.length k∧h.get b=some (.cells c e ro)∧∀ i,i < l.length→c[o+i]?=(bytesV l)[i]?
theorem loop15 {h:H} {v w:V} {l:List Nat} (hv:SlAt h v l) (hw:SlAt h w l) (hlen:l.length < 9223372036854775807):∀ (k i:Nat) (e:E),k+i=l.length →
   e.s [0,1,4,5] 0=v→e.s [0,1,4,5] 1=w→e.s [0,1,4,5] 5=.int .i64 i →
   ∃ e',loopZ (l20_0 KW loopZ) e h=some ⟨.ex 0,e',h⟩
  | 0,i,e,hk,h0,h1,h5=>by
   have hlv:lnS v=some (.int .i64 l.length):=by
    rcases hv with ⟨rfl,rfl⟩ | ⟨b,o,k,c,e,ro,rfl,_,_⟩ <;> simp
   rw [loopZ_eq]
   simp [l20_0,h0,h1,h5,hlv,show ¬ (i:Int) < l.length by omega,show ¬ i < l.length by omega]
  | k+1,i,e,hk,h0,h1,h5=>by
   have hil:i < l.length:=by omega
   obtain ⟨x,hx⟩:∃ x,l[i]?=some x:=⟨l[i],by simp [hil]⟩
   have hbx:(bytesV l)[i]?=some (.int .u8 x):=by simp [bytesV,hx]
   have one:∀ {v:V},SlAt h v l→∃ b o,iaS 1 v (.int .i64 i)=some (.ptr b o)∧h.rd1 b o=some (.int .u8 x):=by
    intro v hv
    rcases hv with ⟨rfl,rfl⟩ | ⟨b,o,k,c,e,ro,rfl,hb,hc⟩
    · simp at hil
    · exact ⟨b,o+i,by simp [hil],by rw [rd1_of hb,hc i hil,hbx]⟩
   obtain ⟨b1,o1,a1,a2⟩:=one hv
   obtain ⟨b2,o2,a3,a4⟩:=one hw
   have hlv:lnS v=some (.int .i64 l.length):=by
    rcases hv with ⟨rfl,rfl⟩ | ⟨b,o,k,c,e,ro,rfl,_,_⟩ <;> simp
   have hwr:IntKind.i64.wrap ((i:Int)+1)=((i+1:Nat):Int):=by rw [wi64 (by omega) (by omega)];simp
   rw [loopZ_eq]
   simp [l20_0,h0,h1,h5,hlv,show (i:Int) < l.length by omega,hil,a1,a2,a3,a4]
   rw [hwr]
   exact loop15 hv hw hlen k (i+1) ⟨[v,w,e.s [0,1,4,5] 4,.int .i64 ((i+1:Nat):Int)],5,.int .i64 ((i+1:Nat):Int)⟩ (by omega) (by simp) (by simp) (by simp)
theorem eq15_ok {h:H} {v w:V} {l:List Nat} (hv:SlAt h v l) (hw:SlAt h w l) (hlen:l.length < 9223372036854775807) :
   KW 20 [v,w] h=some (.ret (.bool true),h):=by
  have hl:∀ {v:V},SlAt h v l→lnS v=some (.int .i64 l.length):=by
   intro v hv
   rcases hv with ⟨rfl,rfl⟩ | ⟨b,o,k,c,e,ro,rfl,_,_⟩ <;> simp
  obtain ⟨e',he⟩:=loop15 hv hw hlen l.length 0 ⟨[v,w,.bool false,.int .i64 0],5,.int .i64 0⟩ (by omega) (by simp) (by simp) (by simp)
  rw [w20,f20,s20]
  simp [hl hv,hl hw,he]
def Only (h h':H) (p:Nat):Prop:=h'.n=h.n∧∀ c,c ≠ p→h'.get c=h.get c
theorem Only.refl (h:H) (p:Nat):Only h h p:=⟨rfl,fun _ _=>rfl⟩
theorem Only.trans {h h1 h2:H} {p:Nat} (a:Only h h1 p) (b:Only h1 h2 p):Only h h2 p :=
  ⟨b.1.trans a.1,fun c hc=>by rw [b.2 c hc,a.2 c hc]⟩
theorem Only.put (h:H) (p:Nat) (x:Blk):Only h (h.put p x) p:=⟨H.n_put _ _ _,fun c hc=>get_put_ne hc⟩
def OSl (h:H) (X:Nat→Prop) (v:V) (l:List Nat):Prop :=
  (v=.nils∧l=[])∨(∃ b o k,v=.sl b o 0 k∧l=[]) ∨
  ∃ b o c e ro,v=.sl b o l.length (.op 1)∧¬ X b∧h.get b=some (.cells c e ro)∧∀ i,i < l.length→c[o+i]?=(bytesV l)[i]?
theorem OSl.only {h h':H} {X:Nat→Prop} {p:Nat} {v:V} {l:List Nat} (a:OSl h X v l) (o:Only h h' p) (hX:X p):OSl h' X v l:=by
  rcases a with a | a | ⟨b,o',c,e,ro,h1,h2,h3,h4⟩
  ·exact .inl a
  ·exact .inr (.inl a)
  ·exact .inr (.inr ⟨b,o',c,e,ro,h1,h2,by rw [o.2 b (fun e=>h2 (e ▸ hX)),h3],h4⟩)
structure DecAt (h:H) (X:Nat→Prop) (p:Nat) (v:V) (rest:List Nat) (code rng:Nat):Prop where
  cell:h.get p=some (.cells [v,.int .u32 code,.int .u32 rng] 129 false)
  own:X p
  sl:OSl h X v rest
  byte:∀ x ∈ rest,x < 256
def DInv (code rng:Nat):Prop:=16777216≤rng∧rng < 4294967296∧code < rng
def value (code rng:Nat):Nat:=min (code / (rng / 32768)) 32767
theorem value35_ok {h:H} {X:Nat→Prop} {p:Nat} {v:V} {rest:List Nat} {code rng:Nat} (a:DecAt h X p v rest code rng) (inv:DInv code rng) :
   KW 112 [.ptr p 0] h=some (.ret (.int .u32 (value code rng)),h):=by
  obtain ⟨i1,i2,i3⟩:=inv
  have e1:(rng:Int).fdiv (2 ^ (min 15 IntKind.u32.bits))=((rng / 32768:Nat):Int):=by
   rw [Int.fdiv_eq_ediv_of_nonneg _ (by decide)];rfl
  obtain ⟨q,hq⟩:∃ q,q=rng / 32768:=⟨_,rfl⟩
  have hq0:¬ (q=0):=by omega
  have e2:(code:Int).tdiv (q:Int)=((code / q:Nat):Int):=by rw [Int.tdiv_eq_ediv_of_nonneg (by omega)];rfl
  have hle:code / q≤code:=Nat.div_le_self _ _
  rw [← hq] at e1
  rw [value,← hq]
  obtain ⟨x,hx⟩:∃ x,x=code / q:=⟨_,rfl⟩
  rw [← hx] at e2 hle ⊢
  have e3:IntKind.u32.wrap (x:Int)=x:=wrap32 (by omega) (by omega)
  have e4:minV [.int .u32 (x:Int),.int .u32 32767]=some (.int .u32 ((min x 32767:Nat):Int)):=by
   simp [minV,foldV,min2V]
   split <;> omega
  rw [w112,f112,s112]
  simp [rd1_of a.cell,e1,hq0,e2,e3,e4]
theorem shift33_ok {h:H} {X:Nat→Prop} {p:Nat} {v:V} {rest:List Nat} {code rng:Nat} (a:DecAt h X p v rest code rng) (hc:code < 16777216) :
   ∃ h' v',KW 87 [.ptr p 0] h=some (.ret (.tup []),h')∧DecAt h' X p v' rest.tail (code*256+rest.headD 0) rng∧Only h h' p:=by
  have hpl:=H.get_lt a.cell
  obtain ⟨d,hd⟩:∃ d,d=code*256:=⟨_,rfl⟩
  have m1:IntKind.u32.wrap ((code:Int)*2 ^ (min 8 IntKind.u32.bits))=(d:Int):=by
   rw [show IntKind.u32.bits=32 from rfl,wrap32 (by simp;omega) (by simp;omega),hd];simp
  have hw1:=fun x=>wr1_of a.cell (o:=1) (by simp) x
  obtain ⟨h1,hh1⟩:∃ h1,h1=h.put p (.cells [v,.int .u32 (d:Int),.int .u32 rng] 129 false):=⟨_,rfl⟩
  have hp1:h1.get p=some (.cells [v,.int .u32 (d:Int),.int .u32 rng] 129 false):=by rw [hh1];exact get_put_same hpl
  have o1:Only h h1 p:=by rw [hh1];exact Only.put _ _ _
  rw [← hd]
  rcases a.sl with ⟨rfl,rfl⟩ | ⟨b,o,k,rfl,rfl⟩ | ⟨b,o,c,e,ro,rfl,hbX,hb,hcs⟩
  ·refine ⟨h1,.nils,?_,⟨by simpa using hp1,a.own,.inl ⟨rfl,rfl⟩,by simp⟩,o1⟩
   rw [w87,f87,s87]
   simp [rd1_of a.cell,hw1,m1,← hh1,rd1_of hp1]
  ·refine ⟨h1,.sl b o 0 k,?_,⟨by simpa using hp1,a.own,.inr (.inl ⟨b,o,k,rfl,rfl⟩),by simp⟩,o1⟩
   rw [w87,f87,s87]
   simp [rd1_of a.cell,hw1,m1,← hh1,rd1_of hp1]
  ·cases rest with
   | nil =>
    simp only [List.length_nil] at hh1 hp1
    refine ⟨h1,.sl b o 0 (.op 1),?_,⟨by simpa using hp1,a.own,.inr (.inl ⟨b,o,_,rfl,rfl⟩),by simp⟩,o1⟩
    rw [w87,f87,s87]
    simp [rd1_of a.cell,hw1,m1,← hh1,rd1_of hp1]
   | cons x r =>
    have hbp:b ≠ p:=fun e=>hbX (e ▸ a.own)
    have hx:x < 256:=a.byte x (by simp)
    have hcx:c[o]?=some (.int .u8 x):=by have:=hcs 0 (by simp);simpa [bytesV] using this
    have hb1:h1.get b=some (.cells c e ro):=by rw [o1.2 b hbp,hb]
    have ho:IntKind.u32.wrap ((d % 2 ^ IntKind.u32.bits ||| x % 2 ^ IntKind.u32.bits:Nat):Int)=((d+x:Nat):Int):=by
      rw [show IntKind.u32.bits=32 from rfl,Nat.mod_eq_of_lt (show d < 2 ^ 32 by omega),Nat.mod_eq_of_lt (show x < 2 ^ 32 by omega)]
      have e1:d ||| x=d+x:=by
       rw [hd,Nat.mul_comm,show (256:Nat)=2 ^ 8 from rfl,Nat.two_pow_add_eq_or_of_lt (by omega)]
      rw [e1,wrap32 (by omega) (by omega)]
    have mx:IntKind.u32.wrap (x:Int)=x:=wrap32 (by omega) (by omega)
    have hw2:=fun x=>wr1_of hp1 (o:=1) (by simp) x
    obtain ⟨w,hw⟩:∃ w,w=d+x:=⟨_,rfl⟩
    rw [← hw] at ho
    obtain ⟨h2,hh2⟩:∃ h2,h2=h1.put p (.cells [.sl b o (x :: r).length (.op 1),.int .u32 (w:Int),.int .u32 rng] 129 false):=⟨_,rfl⟩
    have hp2:h2.get p=some (.cells [.sl b o (x :: r).length (.op 1),.int .u32 (w:Int),.int .u32 rng] 129 false):=by rw [hh2];exact get_put_same (H.get_lt hp1)
    have o2:Only h1 h2 p:=by rw [hh2];exact Only.put _ _ _
    have hw3:=fun x=>wr1_of hp2 (o:=0) (by simp) x
    have hsl:slS 1 (.sl b o (r.length+1) (.op 1)) (some (.int .i64 1)) none none=some (.sl b (o+1) r.length (.op 1)):=by
      simp [slS,sbV,optB,show (1:Int)≤(r.length:Int)+1 by omega]
    obtain ⟨h3,hh3⟩:∃ h3,h3=h2.put p (.cells [.sl b (o+1) r.length (.op 1),.int .u32 (w:Int),.int .u32 rng] 129 false):=⟨_,rfl⟩
    have o3:Only h2 h3 p:=by rw [hh3];exact Only.put _ _ _
    have hp3:h3.get p=some (.cells [.sl b (o+1) r.length (.op 1),.int .u32 (w:Int),.int .u32 rng] 129 false):=by rw [hh3];exact get_put_same (H.get_lt hp2)
    simp only [List.length_cons] at hh1 hp1 hh2 hp2
    refine ⟨h3,.sl b (o+1) r.length (.op 1),?_,⟨by simpa [← hw] using hp3,a.own,.inr (.inr ⟨b,o+1,c,e,ro,rfl,hbX,by rw [o3.2 b hbp,o2.2 b hbp,hb1],fun i hi=>?_⟩),fun y hy=>a.byte y (by simp at hy;simp [hy])⟩,o1.trans (o2.trans o3)⟩
    · rw [w87,f87,s87]
      simp [rd1_of a.cell,hw1,m1,← hh1,rd1_of hp1,rd1_of hb1,hcx,mx,ho,hw2,← hh2,rd1_of hp2,hw3,hsl,← hh3]
    · have:=hcs (i+1) (by simp at hi ⊢;omega)
      simp [bytesV] at this ⊢
      rw [show o+1+i=o+(i+1) by omega,this]
structure RefAt (h:H) (X:Nat→Prop) (p:Nat) (at_:Nat) (rest:List Nat) (code rng:Nat):Prop where
  ex:∃ v B,h.get p=some (.cells [v,.int .i64 at_,.int .u64 code,.int .u64 rng] 131 false)∧OSl h X v B∧rest=B.drop at_∧∀ x ∈ B,x < 256
  own:X p
  far:at_ < 4611686018427387904
theorem next34_ok {h:H} {X:Nat→Prop} {p at_:Nat} {v:V} {B:List Nat} {code rng:V} (hp:h.get p=some (.cells [v,.int .i64 at_,code,rng] 131 false)) (hs:OSl h X v B) (hX:X p) (hB:∀ x ∈ B,x < 256) (far:at_ < 4611686018427387904) :
   KW 88 [.ptr p 0] h=some (.ret (.int .u64 ((B.drop at_).headD 0)),h.put p (.cells [v,.int .i64 (at_+1:Nat),code,rng] 131 false)):=by
  have hpl:=H.get_lt hp
  have hw1:=fun x=>wr1_of hp (o:=1) (by simp) x
  have m1:IntKind.i64.wrap ((at_:Int)+1)=((at_+1:Nat):Int):=by rw [wi64 (by omega) (by omega)];simp
  obtain ⟨a1,ha1⟩:∃ a1,a1=at_+1:=⟨_,rfl⟩
  rw [← ha1] at m1 ⊢
  obtain ⟨h1,hh1⟩:∃ h1,h1=h.put p (.cells [v,.int .i64 (a1:Int),code,rng] 131 false):=⟨_,rfl⟩
  have hp1:h1.get p=some (.cells [v,.int .i64 (a1:Int),code,rng] 131 false):=by rw [hh1];exact get_put_same hpl
  have o1:Only h h1 p:=by rw [hh1];exact Only.put _ _ _
  have hs1:=hs.only o1 hX
  rcases hs1 with ⟨rfl,rfl⟩ | ⟨b,o,k,rfl,rfl⟩ | ⟨b,o,c,e,ro,rfl,hbp,hb,hcs⟩
  ·rw [w88,f88,s88]
   simp [rd1_of hp,hw1,m1,← hh1,rd1_of hp1]
   rw [if_neg (by omega)];simp
  ·rw [w88,f88,s88]
   simp [rd1_of hp,hw1,m1,← hh1,rd1_of hp1]
   rw [if_neg (by omega)];simp
  ·rw [w88,f88,s88]
   by_cases hi:at_ < B.length
   ·have hcx:=hcs at_ hi
    have hx:B[at_] < 256:=hB _ (by simp)
    have e1:(B.drop at_).headD 0=B[at_]:=by rw [List.drop_eq_getElem_cons hi];rfl
    obtain ⟨x,hxx⟩:∃ x,x=B[at_]:=⟨_,rfl⟩
    rw [e1]
    have e2:(bytesV B)[at_]?=some (.int .u8 x):=by simp [bytesV,hi,hxx]
    rw [← hxx] at hx ⊢
    rw [e2] at hcx
    have m2:IntKind.u64.wrap (x:Int)=x:=wrap64 (by omega) (by omega)
    simp [rd1_of hp,hw1,m1,← hh1,rd1_of hp1,hi,rd1_of hb,hcx,m2]
   ·have e1:(B.drop at_).headD 0=0:=by rw [List.drop_of_length_le (by omega)];rfl
    rw [e1]
    simp [rd1_of hp,hw1,m1,← hh1,rd1_of hp1,hi]
def drenorm:Nat→List Nat→Nat→Nat→List Nat × Nat × Nat
  | 0,rest,code,wide=>(rest,code,wide)
  | n+1,rest,code,wide=>if wide < 16777216 then drenorm n rest.tail (code*256+rest.headD 0) (wide*256) else (rest,code,wide)
theorem headD_lt {l:List Nat} (h:∀ x ∈ l,x < 256):l.headD 0 < 256:=by
  cases l with
  | nil=>simp
  | cons a l=>exact h a (by simp)
theorem loop24 (X:Nat→Prop) (p:Nat) (rng:Nat):∀ (n:Nat) (h:H) (v:V) (rest:List Nat) (code wide:Nat) (e:E),DecAt h X p v rest code rng→code < wide→16777216≤wide*256 ^ n→wide < 4294967296 →
   e.s [0,1,2,6,7,8,9] 0=.ptr p 0→e.s [0,1,2,6,7,8,9] 9=.int .u32 wide →
   ∃ e' h' v',loopZ (l95_0 KW loopZ) e h=some ⟨.ex 0,e',h'⟩∧e'.s [0,1,2,6,7,8,9] 0=.ptr p 0∧e'.s [0,1,2,6,7,8,9] 9=.int .u32 (drenorm n rest code wide).2.2 ∧
    DecAt h' X p v' (drenorm n rest code wide).1 (drenorm n rest code wide).2.1 rng∧Only h h' p
  | n,h,v,rest,code,wide,e,a,hcw,hw,hw32,he0,he9=>by
   by_cases hc:wide < 16777216
   ·cases n with
    | zero=>simp at hw;omega
    | succ n =>
      obtain ⟨h1,v1,k1,k2,k3⟩:=shift33_ok a (by omega)
      have hm:IntKind.u32.wrap ((wide:Int)*2 ^ (min 8 IntKind.u32.bits))=((wide*256:Nat):Int):=by
       rw [show IntKind.u32.bits=32 from rfl,wrap32 (by simp;omega) (by simp;omega)];simp
      have hb:=headD_lt a.byte
      rw [loopZ_eq]
      simp [l95_0,he0,he9,show (wide:Int)≤16777215 by omega,k1]
      rw [hm]
      obtain ⟨e',h',v',i1,i2,i3,i4,i5⟩:=loop24 X p rng n h1 v1 _ _ (wide*256) ⟨[.ptr p 0,e.s [0,1,2,6,7,8,9] 1,e.s [0,1,2,6,7,8,9] 2,e.s [0,1,2,6,7,8,9] 6,e.s [0,1,2,6,7,8,9] 7,e.s [0,1,2,6,7,8,9] 8,.int .u32 ((wide*256:Nat):Int)],9,.int .u32 ((wide*256:Nat):Int)⟩ k2
       (by omega) (by rw [Nat.mul_assoc,← Nat.pow_succ'];exact hw) (by omega) (by simp) (by simp)
      simp only [drenorm,if_pos hc]
      exact ⟨e',h',i1,i2,i3,⟨v',i4⟩,k3.trans i5⟩
   ·rw [loopZ_eq]
    simp [l95_0,he0,he9,show ¬ (wide:Int)≤16777215 by omega]
    have hr:drenorm n rest code wide=(rest,code,wide):=by cases n <;> simp [drenorm,hc]
    rw [hr]
    exact ⟨_,_,⟨rfl,rfl⟩,by simp,by simp,⟨v,a⟩,Only.refl _ _⟩
theorem loop25 (X:Nat→Prop) (p:Nat):∀ (n:Nat) (h:H) (at_:Nat) (rest:List Nat) (code wide:Nat) (e:E),RefAt h X p at_ rest code wide→code < wide→16777216≤wide*256 ^ n→wide < 4294967296→at_+n < 4611686018427387904 →
   e.s [0,1,2,6,7,9,10] 0=.ptr p 0 →
   ∃ e' h' at',loopZ (l78_0 KW loopZ) e h=some ⟨.ex 0,e',h'⟩∧e'.s [0,1,2,6,7,9,10] 0=.ptr p 0∧at'≤at_+n ∧
    RefAt h' X p at' (drenorm n rest code wide).1 (drenorm n rest code wide).2.1 (drenorm n rest code wide).2.2∧Only h h' p
  | n,h,at_,rest,code,wide,e,a,hcw,hw,hw32,hat,he0=>by
   obtain ⟨⟨v,B,hp,hs,hr,hB⟩,hX,far⟩:=a
   by_cases hc:wide < 16777216
   ·cases n with
    | zero=>simp at hw;omega
    | succ n =>
      have k1:=next34_ok hp hs hX hB far
      rw [← hr] at k1
      have hb:rest.headD 0 < 256:=by
       rw [hr];exact headD_lt fun x hx=>hB x (List.mem_of_mem_drop hx)
      obtain ⟨x,hx⟩:∃ x,x=rest.headD 0:=⟨_,rfl⟩
      obtain ⟨a1,ha1⟩:∃ a1:Nat,a1=at_+1:=⟨_,rfl⟩
      rw [← hx,← ha1] at k1
      rw [← hx] at hb
      obtain ⟨h1,hh1⟩:∃ h1,h1=h.put p (.cells [v,.int .i64 a1,.int .u64 code,.int .u64 wide] 131 false):=⟨_,rfl⟩
      have o1:Only h h1 p:=by rw [hh1];exact Only.put _ _ _
      have hp1:h1.get p=some (.cells [v,.int .i64 a1,.int .u64 code,.int .u64 wide] 131 false):=by rw [hh1];exact get_put_same (H.get_lt hp)
      rw [← hh1] at k1
      have m1:IntKind.u64.wrap ((code:Int)*256)=(code:Int)*256:=wrap64 (by omega) (by omega)
      have m2:IntKind.u64.wrap ((code:Int)*256+x)=((code*256+x:Nat):Int):=by rw [wrap64 (by omega) (by omega)];simp
      have m3:IntKind.u64.wrap ((wide:Int)*256)=((wide*256:Nat):Int):=by rw [wrap64 (by omega) (by omega)];simp
      obtain ⟨cd,hcd⟩:∃ cd,cd=code*256+x:=⟨_,rfl⟩
      obtain ⟨wd,hwd⟩:∃ wd,wd=wide*256:=⟨_,rfl⟩
      rw [← hcd] at m2
      rw [← hwd] at m3
      have hw2:=fun x=>wr1_of hp1 (o:=2) (by simp) x
      obtain ⟨h2,hh2⟩:∃ h2,h2=h1.put p (.cells [v,.int .i64 a1,.int .u64 cd,.int .u64 wide] 131 false):=⟨_,rfl⟩
      have o2:Only h1 h2 p:=by rw [hh2];exact Only.put _ _ _
      have hp2:h2.get p=some (.cells [v,.int .i64 a1,.int .u64 cd,.int .u64 wide] 131 false):=by rw [hh2];exact get_put_same (H.get_lt hp1)
      have hw3:=fun x=>wr1_of hp2 (o:=3) (by simp) x
      obtain ⟨h3,hh3⟩:∃ h3,h3=h2.put p (.cells [v,.int .i64 a1,.int .u64 cd,.int .u64 wd] 131 false):=⟨_,rfl⟩
      have o3:Only h2 h3 p:=by rw [hh3];exact Only.put _ _ _
      have hp3:h3.get p=some (.cells [v,.int .i64 a1,.int .u64 cd,.int .u64 wd] 131 false):=by rw [hh3];exact get_put_same (H.get_lt hp2)
      have oo:=o1.trans (o2.trans o3)
      have a3:RefAt h3 X p a1 rest.tail cd wd:=⟨⟨v,B,hp3,hs.only oo hX,by rw [hr,List.tail_drop,ha1],hB⟩,hX,by omega⟩
      rw [loopZ_eq]
      simp [l78_0,he0,rd1_of hp,show (wide:Int) < 16777216 by omega,k1,rd1_of hp1,m1,m2,hw2,← hh2,rd1_of hp2,m3,hw3,← hh3]
      obtain ⟨e',h',at',i1,i2,i3,i4,i5⟩:=loop25 X p n h3 a1 rest.tail cd wd ⟨[.ptr p 0,e.s [0,1,2,6,7,9,10] 1,e.s [0,1,2,6,7,9,10] 2,e.s [0,1,2,6,7,9,10] 6,e.s [0,1,2,6,7,9,10] 7,e.s [0,1,2,6,7,9,10] 9,e.s [0,1,2,6,7,9,10] 10],0,.ptr p 0⟩ a3
       (by omega) (by rw [hwd,Nat.mul_assoc,← Nat.pow_succ'];exact hw) (by omega) (by omega) (by simp)
      simp only [drenorm,if_pos hc]
      rw [← hx,← hcd,← hwd]
      exact ⟨e',h',i1,i2,at',by omega,i4,oo.trans i5⟩
   ·rw [loopZ_eq]
    simp [l78_0,he0,rd1_of hp,show ¬ (wide:Int) < 16777216 by omega]
    have hr':drenorm n rest code wide=(rest,code,wide):=by cases n <;> simp [drenorm,hc]
    rw [hr']
    exact ⟨_,_,⟨rfl,rfl⟩,by simp,at_,by omega,⟨⟨v,B,hp,hs,hr,hB⟩,hX,far⟩,Only.refl _ _⟩
theorem value21_ok {h:H} {X:Nat→Prop} {p:Nat} {v:V} {rest:List Nat} {code rng:Nat} (a:DecAt h X p v rest code rng) (inv:DInv code rng) :
   KW 93 [.ptr p 0] h=some (.ret (.tup [.int .u32 (value code rng),.int .i64 0]),h):=by
  have h1:=value35_ok a inv
  have hz:¬ (rng=0):=by have:=inv.1;omega
  rw [w93,f93,s93]
  simp [rd1_of a.cell,hz,h1]
theorem value22_ok {h:H} {X:Nat→Prop} {p at_:Nat} {rest:List Nat} {code rng:Nat} (a:RefAt h X p at_ rest code rng) (inv:DInv code rng) :
   KW 76 [.ptr p 0] h=some (.ret (.tup [.int .u32 (value code rng),.int .i64 0]),h):=by
  obtain ⟨⟨v,B,hp,hs,hr,hB⟩,hX,far⟩:=a
  obtain ⟨i1,i2,i3⟩:=inv
  have e1:(rng:Int).tdiv 32768=((rng / 32768:Nat):Int):=by rw [Int.tdiv_eq_ediv_of_nonneg (by omega)];rfl
  obtain ⟨q,hq⟩:∃ q,q=rng / 32768:=⟨_,rfl⟩
  have hq0:¬ (q=0):=by omega
  have e2:(code:Int).tdiv (q:Int)=((code / q:Nat):Int):=by rw [Int.tdiv_eq_ediv_of_nonneg (by omega)];rfl
  have hle:code / q≤code:=Nat.div_le_self _ _
  rw [← hq] at e1
  rw [value,← hq]
  obtain ⟨x,hx⟩:∃ x,x=code / q:=⟨_,rfl⟩
  rw [← hx] at e2 hle ⊢
  have e3:IntKind.u64.wrap (x:Int)=x:=wrap64 (by omega) (by omega)
  have e5:IntKind.u64.wrap (q:Int)=q:=wrap64 (by omega) (by omega)
  have e4:minV [.int .u64 (x:Int),.int .u64 32767]=some (.int .u64 ((min x 32767:Nat):Int)):=by
   simp [minV,foldV,min2V]
   split <;> omega
  obtain ⟨y,hy⟩:∃ y,y=min x 32767:=⟨_,rfl⟩
  have hyl:y≤32767:=by omega
  rw [← hy] at e4 ⊢
  have e6:IntKind.u32.wrap (y:Int)=y:=wrap32 (by omega) (by omega)
  rw [w76,f76,s76]
  simp [rd1_of hp,e1,hq0,e2,e3,e4,e5,e6]
def take (rest:List Nat) (code rng lo hi:Nat):List Nat × Nat × Nat:=drenorm 3 rest (code - (part rng lo hi).1) (part rng lo hi).2
theorem take_part {code rng lo hi:Nat} (inv:DInv code rng) (h1:lo≤value code rng) (h2:value code rng < hi) (h3:hi≤32768) :
   (part rng lo hi).1≤code∧code - (part rng lo hi).1 < (part rng lo hi).2:=by
  obtain ⟨i1,i2,i3⟩:=inv
  unfold value at h1 h2
  unfold part
  have hq:512≤rng / 32768:=by omega
  have hq2:rng / 32768*32768≤rng:=by omega
  generalize rng / 32768=q at *
  have d1:q*(code / q)≤code:=Nat.mul_div_le _ _
  have d2:q*lo≤q*(code / q):=Nat.mul_le_mul_left _ (by omega)
  refine ⟨by simp only;omega,?_⟩
  simp only
  split
  ·omega
  ·have h4:code / q < hi:=by omega
   have d3:code < q*hi:=by rw [Nat.mul_comm];exact (Nat.div_lt_iff_lt_mul (by omega)).mp h4
   rw [Nat.mul_sub]
   omega
theorem drenorm_inv:∀ {n:Nat} {rest:List Nat} {code wide:Nat},16777216≤wide*256 ^ n→wide < 4294967296→code < wide→(∀ x ∈ rest,x < 256) →
   DInv (drenorm n rest code wide).2.1 (drenorm n rest code wide).2.2∧∀ x ∈ (drenorm n rest code wide).1,x < 256
  | 0,rest,code,wide,h1,h2,h3,h4=>⟨⟨by simpa [drenorm] using h1,h2,h3⟩,h4⟩
  | n+1,rest,code,wide,h1,h2,h3,h4=>by
   unfold drenorm
   split
   ·have:=headD_lt h4
    exact drenorm_inv (by rw [Nat.mul_assoc,← Nat.pow_succ'];exact h1) (by omega) (by omega) fun x hx=>h4 x (List.mem_of_mem_tail hx)
   ·exact ⟨⟨by simp only;omega,h2,h3⟩,h4⟩
theorem take_inv {rest:List Nat} {code rng lo hi:Nat} (inv:DInv code rng) (h1:lo≤value code rng) (h2:value code rng < hi) (h3:hi≤32768) (hb:∀ x ∈ rest,x < 256) :
   DInv (take rest code rng lo hi).2.1 (take rest code rng lo hi).2.2∧∀ x ∈ (take rest code rng lo hi).1,x < 256:=by
  obtain ⟨m1,m2⟩:=part_bounds inv.1 inv.2.1 (by omega:lo < hi) h3
  have:=inv.2.1
  exact drenorm_inv (by omega) (by omega) (take_part inv h1 h2 h3).2 hb
theorem take24_ok {h:H} {X:Nat→Prop} {p:Nat} {v:V} {rest:List Nat} {code rng lo hi:Nat} (a:DecAt h X p v rest code rng) (inv:DInv code rng) (h1:lo≤value code rng) (h2:value code rng < hi) (h3:hi≤32768) :
   ∃ h' v',KW 95 [.ptr p 0,.int .u32 lo,.int .u32 hi] h=some (.ret (.int .i64 0),h') ∧
    DecAt h' X p v' (take rest code rng lo hi).1 (take rest code rng lo hi).2.1 (take rest code rng lo hi).2.2∧Only h h' p:=by
  have hv:=value35_ok a inv
  obtain ⟨t1,t2⟩:=take_part inv h1 h2 h3
  obtain ⟨i1,i2,i3⟩:=inv
  obtain ⟨m1,m2⟩:=part_bounds i1 i2 (by omega:lo < hi) h3
  have hna:=narrow_ok rng lo hi (by omega) (by omega) (by omega) (by omega) (by omega) h
  obtain ⟨vl,hvl⟩:∃ x,x=value code rng:=⟨_,rfl⟩
  rw [← hvl] at hv h1 h2
  obtain ⟨at_,hat⟩:∃ x,x=(part rng lo hi).1:=⟨_,rfl⟩
  obtain ⟨wd,hwd⟩:∃ x,x=(part rng lo hi).2:=⟨_,rfl⟩
  have e1:(rng:Int) / 32768*lo=(at_:Int):=by rw [hat,part];simp
  have e2:(if (hi:Int)=32768 then (rng:Int) - rng / 32768*lo else rng / 32768*(hi - lo))=(wd:Int):=by
   rw [hwd,part]
   have:=m1;rw [part] at this
   by_cases hc:hi=32768
   ·have hc':(hi:Int)=32768:=by omega
    simp only [if_pos hc,if_pos hc'] at *
    rw [Int.natCast_sub (by omega)];simp
   ·have hc':¬ (hi:Int)=32768:=by omega
    simp only [if_neg hc,if_neg hc']
    rw [Int.natCast_mul,Int.natCast_sub (by omega)];simp
  rw [← hat,← hwd] at m1 t2
  rw [← hwd] at m2
  rw [← hat] at t1
  rw [e2,e1] at hna
  have htk:take rest code rng lo hi=drenorm 3 rest (code - at_) wd:=by rw [take,← hat,← hwd]
  obtain ⟨cd,hcd⟩:∃ x,x=code - at_:=⟨_,rfl⟩
  rw [← hcd] at t2 htk
  have mc:IntKind.u32.wrap ((code:Int) - at_)=(cd:Int):=by rw [wrap32 (by omega) (by omega)];omega
  have hw1:=fun v=>wr1_of a.cell (o:=1) (by simp) v
  obtain ⟨h1',hh1⟩:∃ h1,h1=h.put p (.cells [v,.int .u32 (cd:Int),.int .u32 rng] 129 false):=⟨_,rfl⟩
  have o1:Only h h1' p:=by rw [hh1];exact Only.put _ _ _
  have a1:DecAt h1' X p v rest cd rng:=⟨by rw [hh1];exact get_put_same (H.get_lt a.cell),a.own,a.sl.only o1 a.own,a.byte⟩
  obtain ⟨e',h',v',k1,k2,k3,k4,k5⟩:=loop24 X p rng 3 h1' v rest cd wd ⟨[.ptr p 0,.int .u32 lo,.int .u32 hi,.int .i64 0,.int .u32 vl,.int .u32 at_,.int .u32 wd],0,.ptr p 0⟩ a1 (by omega) (by omega) (by omega) (by simp) (by simp)
  rw [htk]
  obtain ⟨r,hr⟩:∃ r,r=drenorm 3 rest cd wd:=⟨_,rfl⟩
  rw [← hr] at k3 k4 ⊢
  have hw3:=fun v=>wr1_of k4.cell (o:=2) (by simp) v
  have o3:=Only.put h' p (.cells [v',.int .u32 r.2.1,.int .u32 r.2.2] 129 false)
  refine ⟨h'.put p (.cells [v',.int .u32 r.2.1,.int .u32 r.2.2] 129 false),v',?_,⟨get_put_same (H.get_lt k4.cell),k4.own,k4.sl.only o3 k4.own,k4.byte⟩,o1.trans (k5.trans o3)⟩
  rw [w95,f95,s95]
  simp only [u32] at hna
  have hz:¬ (rng=0):=by omega
  have z1:¬ ((vl:Int) < lo):=by omega
  have z1':¬ (vl < lo):=by omega
  have z2:¬ ((hi:Int)≤vl):=by omega
  have z2':¬ (hi≤vl):=by omega
  have z3:¬ ((32768:Int) < hi):=by omega
  have z3':¬ (32768 < hi):=by omega
  simp [rd1_of a.cell,hz,hv,z1,z1',z2,z2',z3,z3',hna,hw1,mc,← hh1,k1,k2,k3,hw3]
theorem take25_ok {h:H} {X:Nat→Prop} {p at_:Nat} {rest:List Nat} {code rng lo hi:Nat} (a:RefAt h X p at_ rest code rng) (far:at_+3 < 4611686018427387904) (inv:DInv code rng) (h1:lo≤value code rng) (h2:value code rng < hi) (h3:hi≤32768) :
   ∃ h' at',KW 78 [.ptr p 0,.int .u32 lo,.int .u32 hi] h=some (.ret (.int .i64 0),h')∧at'≤at_+3 ∧
    RefAt h' X p at' (take rest code rng lo hi).1 (take rest code rng lo hi).2.1 (take rest code rng lo hi).2.2∧Only h h' p:=by
  have hv:=value22_ok a inv
  obtain ⟨⟨v,B,hp,hs,hr,hB⟩,hX,far0⟩:=a
  obtain ⟨t1,t2⟩:=take_part inv h1 h2 h3
  obtain ⟨i1,i2,i3⟩:=inv
  obtain ⟨m1,m2⟩:=part_bounds i1 i2 (by omega:lo < hi) h3
  have hna:=part30_ok i1 i2 (by omega:lo < hi) h3 h
  obtain ⟨vl,hvl⟩:∃ x,x=value code rng:=⟨_,rfl⟩
  rw [← hvl] at hv h1 h2
  have htk:take rest code rng lo hi=drenorm 3 rest (code - (part rng lo hi).1) (part rng lo hi).2:=rfl
  obtain ⟨ax,hat⟩:∃ x,x=(part rng lo hi).1:=⟨_,rfl⟩
  obtain ⟨wd,hwd⟩:∃ x,x=(part rng lo hi).2:=⟨_,rfl⟩
  rw [← hat,← hwd] at m1 t2 hna htk
  rw [← hwd] at m2
  rw [← hat] at t1
  obtain ⟨cd,hcd⟩:∃ x,x=code - ax:=⟨_,rfl⟩
  rw [← hcd] at t2 htk
  have mc:IntKind.u64.wrap ((code:Int) - ax)=(cd:Int):=by rw [wrap64 (by omega) (by omega)];omega
  have hw1:=fun v=>wr1_of hp (o:=2) (by simp) v
  obtain ⟨h0,hh0⟩:∃ h1,h1=h.put p (.cells [v,.int .i64 at_,.int .u64 (cd:Int),.int .u64 rng] 131 false):=⟨_,rfl⟩
  have o0:Only h h0 p:=by rw [hh0];exact Only.put _ _ _
  have hp0:h0.get p=some (.cells [v,.int .i64 at_,.int .u64 (cd:Int),.int .u64 rng] 131 false):=by rw [hh0];exact get_put_same (H.get_lt hp)
  have hw2:=fun v=>wr1_of hp0 (o:=3) (by simp) v
  obtain ⟨h1',hh1⟩:∃ h1,h1=h0.put p (.cells [v,.int .i64 at_,.int .u64 (cd:Int),.int .u64 wd] 131 false):=⟨_,rfl⟩
  have o1:Only h0 h1' p:=by rw [hh1];exact Only.put _ _ _
  have hp1:h1'.get p=some (.cells [v,.int .i64 at_,.int .u64 (cd:Int),.int .u64 wd] 131 false):=by rw [hh1];exact get_put_same (H.get_lt hp0)
  have a1:RefAt h1' X p at_ rest cd wd:=⟨⟨v,B,hp1,hs.only (o0.trans o1) hX,hr,hB⟩,hX,far0⟩
  obtain ⟨e',h',at',k1,k2,k3,k4,k5⟩:=loop25 X p 3 h1' at_ rest cd wd ⟨[.ptr p 0,.int .u32 lo,.int .u32 hi,.int .i64 0,.int .u32 vl,.int .u64 ax,.int .u64 wd],0,.ptr p 0⟩ a1 (by omega) (by omega) (by omega) far (by simp)
  rw [htk]
  refine ⟨h',at',?_,k3,k4,o0.trans (o1.trans k5)⟩
  rw [w78,f78,s78]
  have z1:¬ ((vl:Int) < lo):=by omega
  have z1':¬ (vl < lo):=by omega
  have z2:¬ ((hi:Int)≤vl):=by omega
  have z2':¬ (hi≤vl):=by omega
  have z3:¬ ((32768:Int) < hi):=by omega
  have z3':¬ (32768 < hi):=by omega
  simp [rd1_of hp,hv,z1,z1',z2,z2',z3,z3',hna,hw1,mc,← hh0,hw2,← hh1,k1,k2]
def SlB (h:H) (v:V) (l:List Nat):Prop :=
  (v=.nils∧l=[])∨∃ b o k c e ro,v=.sl b o l.length k∧h.get b=some (.cells c e ro)∧o+l.length≤c.length∧(c.drop o).take l.length=bytesV l
def Frs (h:H) (n:Nat) (v:V) (l:List Nat):Prop :=
  (v=.nils∧l=[])∨(∃ b k,v=.sl b 0 0 k∧l=[]∧n≤b∧∃ c e ro,h.get b=some (.cells c e ro))∨∃ b,v=.sl b 0 l.length (.op 1)∧n≤b∧l ≠ []∧h.get b=some (.cells (bytesV l) 5 false)
theorem OSl.mono {h:H} {X Y:Nat→Prop} {v:V} {l:List Nat} (a:OSl h X v l) (hXY:∀ b,b < h.n→¬ X b→¬ Y b):OSl h Y v l:=by
  rcases a with a | a | ⟨b,o,c,e,ro,a1,a2,a3,a4⟩
  ·exact .inl a
  ·exact .inr (.inl a)
  ·exact .inr (.inr ⟨b,o,c,e,ro,a1,hXY b (H.get_lt a3) a2,a3,a4⟩)
theorem OSl.keep {h h':H} {X:Nat→Prop} {v:V} {l:List Nat} (a:OSl h X v l) (hk:∀ b,b < h.n→¬ X b→h'.get b=h.get b):OSl h' X v l:=by
  rcases a with a | a | ⟨b,o,c,e,ro,a1,a2,a3,a4⟩
  ·exact .inl a
  ·exact .inr (.inl a)
  ·exact .inr (.inr ⟨b,o,c,e,ro,a1,a2,by rw [hk b (H.get_lt a3) a2,a3],a4⟩)
theorem Frs.osl {h:H} {n:Nat} {X:Nat→Prop} {v:V} {l:List Nat} (a:Frs h n v l) (hp:∀ c,n≤c→c < h.n→¬ X c):OSl h X v l:=by
  rcases a with a | ⟨b,k,a1,a2,a3,a4⟩ | ⟨b,a1,a2,a3,a4⟩
  ·exact .inl a
  ·exact .inr (.inl ⟨b,0,k,a1,a2⟩)
  ·exact .inr (.inr ⟨b,0,_,_,_,a1,hp b a2 (H.get_lt a4),a4,fun i hi=>by simp⟩)
theorem Frs.slb {h:H} {n:Nat} {v:V} {l:List Nat} (a:Frs h n v l):SlB h v l:=by
  rcases a with a | ⟨b,k,a1,a2,a3,c,e,ro,a4⟩ | ⟨b,a1,a2,a3,a4⟩
  ·exact .inl a
  ·exact .inr ⟨b,0,k,c,e,ro,by rw [a2];exact a1,a4,by rw [a2];simp,by rw [a2];simp [bytesV]⟩
  ·exact .inr ⟨b,0,_,_,_,_,a1,a4,by simp,by simp [List.take_of_length_le]⟩
theorem SlB.at {h:H} {v:V} {l:List Nat} (a:SlB h v l):SlAt h v l:=by
  rcases a with a | ⟨b,o,k,c,e,ro,a1,a2,a3,a4⟩
  ·exact .inl a
  ·refine .inr ⟨b,o,k,c,e,ro,a1,a2,fun i hi=>?_⟩
   rw [← a4,List.getElem?_take,if_pos hi,List.getElem?_drop]
theorem SlB.len {h:H} {v:V} {l:List Nat} (a:SlB h v l):lenOf v=some l.length:=by
  rcases a with ⟨rfl,rfl⟩ | ⟨b,o,k,c,e,ro,rfl,a2,a3,a4⟩ <;> simp [lenOf]
theorem SlB.first {h:H} {v:V} {l:List Nat} (a:SlB h v l):firstV h 1 l.length v=some (bytesV l):=by
  rcases a with ⟨rfl,rfl⟩ | ⟨b,o,k,c,e,ro,rfl,a2,a3,a4⟩
  ·simp [firstV,bytesV]
  ·simp [firstV,H.rdN,a2,a3,a4]
theorem SlB.keep {h h':H} {v:V} {l:List Nat} (a:SlB h v l) (hk:∀ c,c < h.n→h'.get c=h.get c):SlB h' v l:=by
  rcases a with a | ⟨b,o,k,c,e,ro,a1,a2,a3,a4⟩
  ·exact .inl a
  ·exact .inr ⟨b,o,k,c,e,ro,a1,by rw [hk b (H.get_lt a2),a2],a3,a4⟩
theorem clone_slb {h:H} {v:V} {l:List Nat} (g:SlB h v l) (hlen:l.length < 140737488355329) :
   ∃ h' v',KW 84 [v] h=some (.ret v',h')∧Frs h' h.n v' l∧h.n≤h'.n∧∀ c,c < h.n→h'.get c=h.get c:=by
  rcases g with ⟨rfl,rfl⟩ | ⟨b,o,k,c,e,ro,rfl,hb,hol,hcs⟩
  ·refine ⟨h,.nils,?_,.inl ⟨rfl,rfl⟩,Nat.le_refl _,fun _ _=>rfl⟩
   rw [w84,f84,s84]
   simp
  ·have hbl:=H.get_lt hb
   obtain ⟨h1,hh1⟩:∃ h1,h1=h.new (.cells [] 5 false):=⟨_,rfl⟩
   have hb1:h1.get b=some (.cells c e ro):=by rw [hh1,get_new_lt hbl,hb]
   have hr0:h1.get h.n=some (.cells [] 5 false):=by rw [hh1];exact get_new_same
   by_cases hl:l=[]
   ·subst hl
    simp only [List.length_nil] at hol
    have hf:(c.drop o).take 0=[]:=rfl
    have hw0:=wrN_of hr0 (o:=0) (vs:=[]) (by simp)
    refine ⟨h1.put h.n (.cells (splice [] 0 []) 5 false),.sl h.n 0 0 (.ex 0),?_,.inr (.inl ⟨_,_,rfl,rfl,Nat.le_refl _,_,_,_,get_put_same (H.get_lt hr0)⟩),by rw [H.n_put,hh1,H.n_new];omega,fun c hc=>by rw [get_put_ne (by omega),hh1,get_new_lt hc]⟩
    rw [w84,f84,s84]
    simp at hol
    simp [bs,fillW,← hh1,apZ,lenOf,firstV,H.rdN,hb1,apN,hol,hw0]
   ·have hll:l.length ≠ 0:=by simpa using hl
    refine ⟨h1.new (.cells (bytesV l) 5 false),.sl h1.n 0 l.length (.op 1),?_,.inr (.inr ⟨h1.n,rfl,by rw [hh1,H.n_new];omega,hl,get_new_same⟩),by rw [H.n_new,hh1,H.n_new];omega,fun c hc=>?_⟩
    · rw [w84,f84,s84]
      simp [bs,fillW,← hh1,apZ,lenOf,firstV,H.rdN,hb1,apN,hr0,hcs,hll,hol,show l.length≤140737488355328 by omega]
    · rw [get_new_lt (by rw [hh1,H.n_new];omega),hh1,get_new_lt hc]
theorem apZ_nil {h:H} {v:V} {l:List Nat} (g:SlB h v l) (hlen:l.length < 140737488355329) :
   ∃ h' v',apZ 5 1 1 h .nils v=some (v',h')∧Frs h' h.n v' l∧h.n≤h'.n∧∀ c,c < h.n→h'.get c=h.get c:=by
  by_cases hl:l=[]
  ·subst hl
   refine ⟨h,.nils,?_,.inl ⟨rfl,rfl⟩,Nat.le_refl _,fun _ _=>rfl⟩
   have h1:=g.len;have h2:=g.first
   simp at h1 h2
   simp [apZ,h1,h2,apN]
  ·have hll:l.length ≠ 0:=by simpa using hl
   refine ⟨h.new (.cells (bytesV l) 5 false),.sl h.n 0 l.length (.op 1),?_,.inr (.inr ⟨h.n,rfl,Nat.le_refl _,hl,get_new_same⟩),by rw [H.n_new];omega,fun c hc=>get_new_lt hc⟩
   simp [apZ,g.len,g.first,apN,hll,show l.length≤140737488355328 by omega]
def dsh:Nat→List Nat→Nat→List Nat × Nat
  | 0,r,c=>(r,c)
  | n+1,r,c=>dsh n r.tail (c*256+r.headD 0)
def dread (l:List Nat):List Nat × Nat:=((dsh 4 l 0).1,min (dsh 4 l 0).2 4294967294)
theorem loop19 (X:Nat→Prop) (p rng:Nat):∀ (n:Nat) (h:H) (v:V) (rest:List Nat) (code:Nat) (e:E),DecAt h X p v rest code rng→code < 256 ^ (4 - n)→n≤4 →
   e.s [0,2,3,8] 3=.ptr p 0→e.s [0,2,3,8] 8=.int .i64 (4 - n:Nat) →
   ∃ e' h' v',loopZ (l59_0 KW loopZ) e h=some ⟨.ex 0,e',h'⟩∧e'.s [0,2,3,8] 3=.ptr p 0∧DecAt h' X p v' (dsh n rest code).1 (dsh n rest code).2 rng∧(dsh n rest code).2 < 4294967296∧Only h h' p
  | 0,h,v,rest,code,e,a,hc,hn,he3,he8=>by
   rw [loopZ_eq]
   simp [l59_0,he3,he8]
   exact ⟨_,_,⟨rfl,rfl⟩,by simp [he3],⟨v,a⟩,by simpa [dsh] using hc,Only.refl _ _⟩
  | n+1,h,v,rest,code,e,a,hc,hn,he3,he8=>by
   have hc3:256 ^ (4 - (n+1))≤256 ^ 3:=Nat.pow_le_pow_right (by decide) (by omega)
   obtain ⟨h1,v1,k1,k2,k3⟩:=shift33_ok a (by omega)
   have hb:=headD_lt a.byte
   have hlt:((4 - (n+1):Nat):Int) < 4:=by omega
   have hm:IntKind.i64.wrap (((4 - (n+1):Nat):Int)+1)=((4 - n:Nat):Int):=by rw [wi64 (by omega) (by omega)];omega
   have hc':code*256+rest.headD 0 < 256 ^ (4 - n):=by
    rw [show 4 - n=(4 - (n+1))+1 by omega,Nat.pow_succ];omega
   obtain ⟨j,hj⟩:∃ j,j=4 - (n+1):=⟨_,rfl⟩
   obtain ⟨j1,hj1⟩:∃ j,j=4 - n:=⟨_,rfl⟩
   rw [← hj] at hlt he8
   rw [← hj,← hj1] at hm
   have hlt':j < 4:=by omega
   rw [loopZ_eq]
   simp [l59_0,he3,he8,hlt,hlt',k1]
   rw [hm]
   obtain ⟨e',h',v',i1,i2,i3,i4,i5⟩:=loop19 X p rng n h1 v1 rest.tail _ ⟨[e.s [0,2,3,8] 0,e.s [0,2,3,8] 2,.ptr p 0,.int .i64 (j1:Int)],8,.int .i64 (j1:Int)⟩ k2 hc' (by omega) (by simp) (by simp [hj1])
   exact ⟨e',h',i1,i2,⟨v',i3⟩,i4,k3.trans i5⟩
theorem read19_ok {h:H} {v:V} {l:List Nat} (g:SlB h v l) (hlen:l.length < 140737488355329) (hb:∀ x ∈ l,x < 256) :
   ∃ h' p v',KW 59 [v] h=some (.ret (.ptr p 0),h')∧(∀ X:Nat→Prop,X p→(∀ c,h.n≤c→c < h'.n→c ≠ p→¬ X c)→DecAt h' X p v' (dread l).1 (dread l).2 4294967295)∧h.n≤p∧p < h'.n∧(∀ c,c < h.n→h'.get c=h.get c):=by
  obtain ⟨h1,v1,k1,k2,k3,k4⟩:=clone_slb g hlen
  obtain ⟨h2,hh2⟩:∃ h2,h2=h1.new (.cells [v1,.int .u32 (0:Nat),.int .u32 (4294967295:Nat)] 129 false):=⟨_,rfl⟩
  have hp2:h2.get h1.n=some (.cells [v1,.int .u32 (0:Nat),.int .u32 (4294967295:Nat)] 129 false):=by rw [hh2];exact get_new_same
  have hos:OSl h2 (fun c=>¬ (h.n≤c∧c < h1.n)) v1 l:=by
   rcases k2 with a | ⟨b,k,a1,a2,a3,a4⟩ | ⟨b,a1,a2,a3,a4⟩
   ·exact .inl a
   ·exact .inr (.inl ⟨b,0,k,a1,a2⟩)
   ·have:=H.get_lt a4
    exact .inr (.inr ⟨b,0,_,_,_,a1,by omega,by rw [hh2,get_new_lt this,a4],fun i hi=>by simp⟩)
  obtain ⟨e',h',v',i1,i2,i3,i4,i5⟩:=loop19 (fun c=>¬ (h.n≤c∧c < h1.n)) h1.n 4294967295 4 h2 v1 l 0 ⟨[v,.nilp,.ptr h1.n 0,.int .i64 0],8,.int .i64 0⟩ ⟨hp2,by omega,hos,hb⟩ (by decide) (by omega) (by simp) (by simp)
  have hw1:=fun v=>wr1_of i3.cell (o:=1) (by simp) v
  obtain ⟨r,hr⟩:∃ r,r=dsh 4 l 0:=⟨_,rfl⟩
  have hdr:dread l=(r.1,min r.2 4294967294):=by rw [dread,hr]
  rw [← hr] at i3 i4 hw1
  have e4:minV [.int .u32 (r.2:Int),.int .u32 4294967294]=some (.int .u32 ((min r.2 4294967294:Nat):Int)):=by
   simp [minV,foldV,min2V]
   split <;> omega
  obtain ⟨y,hy⟩:∃ y,y=min r.2 4294967294:=⟨_,rfl⟩
  rw [← hy] at e4 hdr
  rw [hdr]
  have o3:=Only.put h' h1.n (.cells [v',.int .u32 y,.int .u32 (4294967295:Nat)] 129 false)
  have hv1:bl [.nils,.int .u32 0,.int .u32 0] [(some (0,1),v1),(some (2,1),.int .u32 4294967295)]=some (.agg [v1,.int .u32 0,.int .u32 4294967295]):=by
   rcases k2 with ⟨rfl,_⟩ | ⟨b,k,rfl,_⟩ | ⟨b,rfl,_⟩ <;> simp [bl,fillW,V.cells,splice]
  refine ⟨h'.put h1.n (.cells [v',.int .u32 y,.int .u32 (4294967295:Nat)] 129 false),h1.n,v',?_,fun X hX hf=>⟨get_put_same (H.get_lt i3.cell),hX,(i3.sl.only o3 i3.own).mono fun b hb hb'=>hf b (by omega) hb (by omega),i3.byte⟩,k3,by rw [H.n_put,i5.1,hh2,H.n_new];omega,fun c hc=>?_⟩
  ·rw [w59,f59,s59]
   simp at hh2
   simp at hw1 i3
   simp [k1,hv1,bx,V.cells,← hh2,i1,i2,rd1_of i3.cell,e4,hw1]
  ·rw [o3.2 c (by omega),i5.2 c (by omega),hh2,get_new_lt (by omega),k4 c hc]
theorem dsh_lt:∀ (n:Nat) {m:Nat} {rest:List Nat} {code:Nat},(∀ x ∈ rest,x < 256)→code < 256 ^ m→(dsh n rest code).2 < 256 ^ (m+n)∧∀ x ∈ (dsh n rest code).1,x < 256
  | 0,m,rest,code,hb,hc=>⟨by simpa [dsh] using hc,hb⟩
  | n+1,m,rest,code,hb,hc=>by
   have h1:=headD_lt hb
   have:=dsh_lt n (m:=m+1) (rest:=rest.tail) (code:=code*256+rest.headD 0) (fun x hx=>hb x (List.mem_of_mem_tail hx)) (by rw [Nat.pow_succ];omega)
   rw [show m+(n+1)=m+1+n by omega]
   exact this
theorem dread_inv {l:List Nat} (hb:∀ x ∈ l,x < 256):DInv (dread l).2 4294967295∧∀ x ∈ (dread l).1,x < 256 :=
  ⟨⟨by decide,by decide,by simp only [dread];omega⟩,(dsh_lt 4 (m:=0) (code:=0) hb (by decide)).2⟩
theorem loop20 (X:Nat→Prop) (p rng:Nat):∀ (n:Nat) (h:H) (at_:Nat) (rest:List Nat) (code:Nat) (e:E),RefAt h X p at_ rest code rng→code < 256 ^ (4 - n)→n≤4→at_+n < 4611686018427387904 →
   e.s [0,2,3,4] 3=.ptr p 0→e.s [0,2,3,4] 4=.int .i64 (4 - n:Nat) →
   ∃ e' h' at',loopZ (l60_0 KW loopZ) e h=some ⟨.ex 0,e',h'⟩∧e'.s [0,2,3,4] 3=.ptr p 0∧at'≤at_+n∧RefAt h' X p at' (dsh n rest code).1 (dsh n rest code).2 rng∧Only h h' p
  | 0,h,at_,rest,code,e,a,hc,hn,hat,he3,he8=>by
   rw [loopZ_eq]
   simp [l60_0,he3,he8]
   exact ⟨_,_,⟨rfl,rfl⟩,by simp [he3],at_,by omega,a,Only.refl _ _⟩
  | n+1,h,at_,rest,code,e,a,hc,hn,hat,he3,he8=>by
   obtain ⟨⟨v,B,hp,hs,hr,hB⟩,hX,far⟩:=a
   have hc3:256 ^ (4 - (n+1))≤256 ^ 3:=Nat.pow_le_pow_right (by decide) (by omega)
   have k1:=next34_ok hp hs hX hB far
   rw [← hr] at k1
   have hb:rest.headD 0 < 256:=by
    rw [hr];exact headD_lt fun x hx=>hB x (List.mem_of_mem_drop hx)
   obtain ⟨x,hx⟩:∃ x,x=rest.headD 0:=⟨_,rfl⟩
   obtain ⟨a1,ha1⟩:∃ a1:Nat,a1=at_+1:=⟨_,rfl⟩
   rw [← hx,← ha1] at k1
   rw [← hx] at hb
   obtain ⟨h1,hh1⟩:∃ h1,h1=h.put p (.cells [v,.int .i64 a1,.int .u64 code,.int .u64 rng] 131 false):=⟨_,rfl⟩
   have o1:Only h h1 p:=by rw [hh1];exact Only.put _ _ _
   have hp1:h1.get p=some (.cells [v,.int .i64 a1,.int .u64 code,.int .u64 rng] 131 false):=by rw [hh1];exact get_put_same (H.get_lt hp)
   rw [← hh1] at k1
   have m1:IntKind.u64.wrap ((code:Int)*256)=(code:Int)*256:=wrap64 (by omega) (by omega)
   have m2:IntKind.u64.wrap ((code:Int)*256+x)=((code*256+x:Nat):Int):=by rw [wrap64 (by omega) (by omega)];simp
   have hc':code*256+x < 256 ^ (4 - n):=by
    rw [show 4 - n=(4 - (n+1))+1 by omega,Nat.pow_succ];omega
   obtain ⟨cd,hcd⟩:∃ cd,cd=code*256+x:=⟨_,rfl⟩
   rw [← hcd] at m2 hc'
   have hw2:=fun x=>wr1_of hp1 (o:=2) (by simp) x
   obtain ⟨h2,hh2⟩:∃ h2,h2=h1.put p (.cells [v,.int .i64 a1,.int .u64 cd,.int .u64 rng] 131 false):=⟨_,rfl⟩
   have o2:Only h1 h2 p:=by rw [hh2];exact Only.put _ _ _
   have hp2:h2.get p=some (.cells [v,.int .i64 a1,.int .u64 cd,.int .u64 rng] 131 false):=by rw [hh2];exact get_put_same (H.get_lt hp1)
   have oo:=o1.trans o2
   have a3:RefAt h2 X p a1 rest.tail cd rng:=⟨⟨v,B,hp2,hs.only oo hX,by rw [hr,List.tail_drop,ha1],hB⟩,hX,by omega⟩
   have hlt:((4 - (n+1):Nat):Int) < 4:=by omega
   have hm:IntKind.i64.wrap (((4 - (n+1):Nat):Int)+1)=((4 - n:Nat):Int):=by rw [wi64 (by omega) (by omega)];omega
   obtain ⟨j,hj⟩:∃ j,j=4 - (n+1):=⟨_,rfl⟩
   obtain ⟨j1,hj1⟩:∃ j,j=4 - n:=⟨_,rfl⟩
   rw [← hj] at hlt he8
   rw [← hj,← hj1] at hm
   have hlt':j < 4:=by omega
   rw [loopZ_eq]
   simp [l60_0,he3,he8,hlt,hlt',rd1_of hp,k1,rd1_of hp1,m1,m2,hw2,← hh2,hm]
   obtain ⟨e',h',at',i1,i2,i3,i4,i5⟩:=loop20 X p rng n h2 a1 rest.tail cd ⟨[e.s [0,2,3,4] 0,e.s [0,2,3,4] 2,.ptr p 0,.int .i64 (j1:Int)],4,.int .i64 (j1:Int)⟩ a3 hc' (by omega) (by omega) (by simp) (by simp [hj1])
   simp only [dsh]
   rw [← hx,← hcd]
   exact ⟨e',h',i1,i2,at',by omega,i4,oo.trans i5⟩
theorem read20_ok {h:H} {v:V} {l:List Nat} (g:SlB h v l) (hlen:l.length < 140737488355329) (hb:∀ x ∈ l,x < 256) :
   ∃ h' p at',KW 60 [v] h=some (.ret (.ptr p 0),h')∧(∀ X:Nat→Prop,X p→(∀ c,h.n≤c→c < h'.n→c ≠ p→¬ X c)→RefAt h' X p at' (dread l).1 (dread l).2 4294967295)∧at'≤4∧h.n≤p∧p < h'.n∧(∀ c,c < h.n→h'.get c=h.get c):=by
  obtain ⟨h0,hh0⟩:∃ h0,h0=h.new (.cells [.nils,.int .i64 (0:Nat),.int .u64 (0:Nat),.int .u64 (4294967295:Nat)] 131 false):=⟨_,rfl⟩
  have hp0:h0.get h.n=some (.cells [.nils,.int .i64 (0:Nat),.int .u64 (0:Nat),.int .u64 (4294967295:Nat)] 131 false):=by rw [hh0];exact get_new_same
  have hk0:∀ c,c < h.n→h0.get c=h.get c:=fun c hc=>by rw [hh0,get_new_lt hc]
  have hn0:h0.n=h.n+1:=by rw [hh0,H.n_new]
  obtain ⟨h1,v1,k1,k2,k3,k4⟩:=apZ_nil (g.keep hk0) hlen
  have hp1:h1.get h.n=some (.cells [.nils,.int .i64 (0:Nat),.int .u64 (0:Nat),.int .u64 (4294967295:Nat)] 131 false):=by rw [k4 _ (by omega),hp0]
  obtain ⟨h2,hh2⟩:∃ h2,h2=h1.put h.n (.cells [v1,.int .i64 (0:Nat),.int .u64 (0:Nat),.int .u64 (4294967295:Nat)] 131 false):=⟨_,rfl⟩
  have o2:Only h1 h2 h.n:=by rw [hh2];exact Only.put _ _ _
  have hp2:h2.get h.n=some (.cells [v1,.int .i64 (0:Nat),.int .u64 (0:Nat),.int .u64 (4294967295:Nat)] 131 false):=by rw [hh2];exact get_put_same (H.get_lt hp1)
  have hos:OSl h2 (fun c=>¬ (h.n < c∧c < h1.n)) v1 l:=((k2.osl (X:=fun c=>¬ (h.n < c∧c < h1.n)) (by intro c h1 h2 h3;exact h3 ⟨by omega,h2⟩))).only o2 (by simp)
  obtain ⟨e',h',at',i1,i2,i3,i4,i5⟩:=loop20 (fun c=>¬ (h.n < c∧c < h1.n)) h.n 4294967295 4 h2 0 l 0 ⟨[v,.nilp,.ptr h.n 0,.int .i64 0],4,.int .i64 0⟩ ⟨⟨v1,l,hp2,hos,rfl,hb⟩,by simp,by decide⟩ (by decide) (by omega) (by omega) (by simp) (by simp)
  obtain ⟨⟨v2,B,hp3,hs3,hr3,hB3⟩,hX3,far⟩:=i4
  have hw1:=fun v=>wr1_of hp3 (o:=2) (by simp) v
  obtain ⟨r,hr⟩:∃ r,r=dsh 4 l 0:=⟨_,rfl⟩
  have hdr:dread l=(r.1,min r.2 4294967294):=by rw [dread,hr]
  have hlt:r.2 < 4294967296:=by
   have:=(dsh_lt 4 (m:=0) (code:=0) hb (by decide)).1
   rw [← hr] at this;simpa using this
  rw [← hr] at hp3 hw1 hr3
  have e4:minV [.int .u64 (r.2:Int),.int .u64 4294967294]=some (.int .u64 ((min r.2 4294967294:Nat):Int)):=by
   simp [minV,foldV,min2V]
   split <;> omega
  obtain ⟨y,hy⟩:∃ y,y=min r.2 4294967294:=⟨_,rfl⟩
  rw [← hy] at e4 hdr
  rw [hdr]
  have o3:=Only.put h' h.n (.cells [v2,.int .i64 at',.int .u64 y,.int .u64 (4294967295:Nat)] 131 false)
  have hv1:stZ 1 h1 (.ptr h.n 0) v1=some (.und,h2):=by
   have:=wr1_of hp1 (o:=0) (by simp) v1
   rw [hh2]
   rcases k2 with ⟨rfl,_⟩ | ⟨b,k,rfl,_⟩ | ⟨b,rfl,_⟩ <;> simp [this]
  refine ⟨h'.put h.n (.cells [v2,.int .i64 at',.int .u64 y,.int .u64 (4294967295:Nat)] 131 false),h.n,at',?_,fun X hX hf=>⟨⟨v2,B,get_put_same (H.get_lt hp3),(hs3.only o3 hX3).mono fun b hb hb'=>hf b (by omega) hb (by omega),hr3,hB3⟩,hX,far⟩,by omega,Nat.le_refl _,by rw [H.n_put,i5.1,o2.1];omega,fun c hc=>?_⟩
  ·rw [w60,f60,s60]
   simp at hw1 hp3 hh0 hp0
   simp [bl,fillW,bx,V.cells,splice,← hh0,rd1_of hp0,k1,hv1,i1,i2,rd1_of hp3,e4,hw1]
  ·rw [o3.2 c (by omega),i5.2 c (by omega),o2.2 c (by omega),k4 c (by omega),hk0 c hc]
def Wr (h:H) (n:Nat) (v:V) (l:List Nat):Prop :=
  ∃ b k L,v=.sl b 0 l.length k∧n≤b∧h.get b=some (.cells (bytesV L) 5 false)∧l.length≤L.length∧L.take l.length=l∧∀ x ∈ L,x < 256
theorem Wr.slb {h:H} {n:Nat} {v:V} {l:List Nat} (a:Wr h n v l):SlB h v l:=by
  obtain ⟨b,k,L,h1,h2,h3,h4,h5,h6⟩:=a
  exact .inr ⟨b,0,k,_,_,_,h1,h3,by simpa using h4,by rw [List.drop_zero];unfold bytesV;rw [← List.map_take,h5]⟩
theorem Wr.byte {h:H} {n:Nat} {v:V} {l:List Nat} (a:Wr h n v l):∀ x ∈ l,x < 256:=by
  obtain ⟨b,k,L,h1,h2,h3,h4,h5,h6⟩:=a
  intro x hx;rw [← h5] at hx;exact h6 x (List.mem_of_mem_take hx)
theorem bytes_len (out:List Nat) (low:Nat):(bytes out low).length=trimN (emits 4 out low).1 (out.length+4):=by
  unfold bytes
  rw [List.length_take,emits_length]
  exact Nat.min_eq_left (trimN_le _ _)
theorem bytes14_wr {h:H} {p:Nat} {t:TypeId} {v:V} {out:List Nat} {low rng:Nat} (a:EncAt h p t v out low (.int .u32 rng)) (inv:EInv low rng) (hlen:out.length < 1099511627000) :
   ∃ h' v',KW 57 [.ptr p 0] h=some (.ret v',h')∧Wr h' h.n v' (bytes out low)∧h.n≤h'.n∧∀ c,c < h.n→h'.get c=h.get c:=by
  obtain ⟨h',b,k1,k2,k3,k4,k5,k6⟩:=bytes14_ok a inv hlen
  refine ⟨h',_,k1,⟨b,_,(emits 4 out low).1,by rw [bytes_len],k4,k2,?_,?_,k3⟩,k5,k6⟩
  ·rw [bytes_len,emits_length];exact trimN_le _ _
  ·rw [bytes_len];rfl
theorem bytes16_wr {h:H} {p:Nat} {t:TypeId} {v:V} {out:List Nat} {low rng:Nat} (a:EncAt h p t v out low (.int .u64 rng)) (inv:EInv low rng) (hlen:out.length < 1099511627000) :
   ∃ h' v',KW 58 [.ptr p 0] h=some (.ret v',h')∧Wr h' h.n v' (bytes out low)∧h.n≤h'.n∧∀ c,c < h.n→h'.get c=h.get c:=by
  obtain ⟨h',b,k1,k2,k3,k4,k5,k6⟩:=bytes16_ok a inv hlen
  refine ⟨h',_,k1,⟨b,_,(emits 4 out low).1,by rw [bytes_len],k4,k2,?_,?_,k3⟩,k5,k6⟩
  ·rw [bytes_len,emits_length];exact trimN_le _ _
  ·rw [bytes_len];rfl
theorem Own.keep {h h':H} {p n:Nat} {v v':V} (a:Own h h' p v v') (hp:n≤p) (hv:∀ c o m k,v=.sl c o m k→n≤c) (hn:n≤h.n):n≤h'.n∧(∀ c,c < n→h'.get c=h.get c)∧∀ c o m k,v'=.sl c o m k→n≤c:=by
  refine ⟨by have:=a.fr.1;omega,fun c hc=>a.fr.2 c (by omega) ?_,?_⟩
  ·rintro (e | ⟨o,m,k,e⟩)
   ·omega
   ·have:=hv _ _ _ _ e;omega
  ·rcases a.nw with e | e
   ·rw [e];exact hv
   ·intro c o m k e1;have:=e c o m k e1;omega
abbrev tU:TypeId:=97
abbrev tT:TypeId:=76
abbrev tR:TypeId:=73
theorem cell72 (h:H) (b o:Nat):ldV Tryz.prog 76 h (.ptr b o)=ldn 2 h (.ptr b o):=by
  have h1:isAggT Tryz.prog 76=some true:=by kernel_rfl
  have h2:szT Tryz.prog 76=some 2:=by kernel_rfl
  simp [ldV,h1,h2]
theorem cell25 (h:H) (b o:Nat):ldV Tryz.prog 29 h (.ptr b o)=ldn 1 h (.ptr b o):=by
  have h1:isAggT Tryz.prog 29=some true:=by kernel_rfl
  have h2:szT Tryz.prog 29=some 1:=by kernel_rfl
  simp [ldV,h1,h2]
theorem cell96 (h:H) (b o:Nat):ldV Tryz.prog 70 h (.ptr b o)=ldn 96 h (.ptr b o):=by
  have h1:isAggT Tryz.prog 70=some true:=by kernel_rfl
  have h2:szT Tryz.prog 70=some 96:=by kernel_rfl
  simp [ldV,h1,h2]
theorem resVs_cell (P:Program) (s:Nat→V) (h:H) (t n:Nat) (rs:List ResultVar):resVs P s h (.cell t n :: rs)=bd (ldV P n h (s t)) fun v=>bd (resVs P s h rs) fun vs=>some (v :: vs):=by
  rfl
attribute [simp] cell72 cell25 cell96 resVs_cell
structure Mod (D:Nat→Prop) (h h':H):Prop where
  n:h.n≤h'.n
  get:∀ c,c < h.n→¬ D c→h'.get c=h.get c
def grow (D:Nat→Prop) (h h':H):Nat→Prop:=fun c=>D c∨(h.n≤c∧c < h'.n)
theorem Mod.refl (D:Nat→Prop) (h:H):Mod D h h:=⟨Nat.le_refl _,fun _ _ _=>rfl⟩
theorem Mod.trans {D:Nat→Prop} {a b c:H} (x:Mod D a b) (y:Mod (grow D a b) b c):Mod D a c :=
  ⟨Nat.le_trans x.n y.n,fun i hi hd=>by
   have:=x.n
   rw [y.get i (by omega) (by rintro (h | h);exact hd h;omega),x.get i hi hd]⟩
theorem Mod.tr {D:Nat→Prop} {a b c:H} (x:Mod D a b) (y:Mod D b c):Mod D a c :=
  ⟨Nat.le_trans x.n y.n,fun i hi hd=>by
   have:=x.n
   rw [y.get i (by omega) hd,x.get i hi hd]⟩
theorem Mod.mono {D E:Nat→Prop} {a b:H} (x:Mod D a b) (h:∀ c,c < a.n→D c→E c):Mod E a b:=⟨x.n,fun i hi hd=>x.get i hi fun e=>hd (h i hi e)⟩
theorem Mod.of {D:Nat→Prop} {a b:H} (x:Ext a b):Mod D a b:=⟨x.n,fun i hi _=>x.get i hi⟩
theorem Mod.ext {D:Nat→Prop} {a b:H} (x:Mod D a b) {p:H} (hp:Ext p a) (hd:∀ c,c < p.n→¬ D c):Ext p b :=
  ⟨Nat.le_trans hp.n x.n,fun c hc=>by have:=hp.n;rw [x.get c (by omega) (hd c hc),hp.get c hc]⟩
def wordsV (l:List Nat):List V:=l.map fun x=>.int .u16 (x:Nat)
theorem wordsV_length (l:List Nat):(wordsV l).length=l.length:=by simp [wordsV]
theorem wordsV_append (l m:List Nat):wordsV (l ++ m)=wordsV l ++ wordsV m:=by simp [wordsV]
def nth (l:List Nat) (i:Nat):Nat:=l.getD i 0
theorem nth_of {l:List Nat} {i:Nat} (h:i < l.length):nth l i=l[i]:=by simp [nth,h]
theorem wordsV_get (l:List Nat) (i:Nat) (h:i < l.length):(wordsV l)[i]?=some (.int .u16 (nth l i:Nat)):=by simp [wordsV,h,nth]
def CapOk (z n:Nat):Cap→Prop
  | .ex c=>n≤c
  | .op z'=>z'=z
def SlR (D:Nat→Prop) (h:H) (v:V) (t z n:Nat) (cs:List V):Prop :=
  (v=.nils∧n=0∧cs=[])∨∃ b o k c,v=.sl b o n k∧h.get b=some (.cells c t false)∧o+n*z≤c.length∧cs=(c.drop o).take (n*z)∧D b∧CapOk z n k
section slr
variable {D:Nat→Prop} {h:H} {v:V} {t z n:Nat} {cs:List V}
theorem SlR.length (a:SlR D h v t z n cs):cs.length=n*z:=by
  rcases a with ⟨_,rfl,rfl⟩ | ⟨b,o,k,c,_,_,h3,rfl,_⟩
  ·simp
  ·rw [List.length_take,List.length_drop];omega
theorem SlR.len (a:SlR D h v t z n cs):lnS v=some (.int .i64 n):=by
  rcases a with ⟨rfl,rfl,_⟩ | ⟨b,o,k,c,rfl,_⟩ <;> simp
theorem SlR.lenOf (a:SlR D h v t z n cs):lenOf v=some n:=by
  rcases a with ⟨rfl,rfl,_⟩ | ⟨b,o,k,c,rfl,_⟩ <;> rfl
theorem SlR.cell (a:SlR D h v t z n cs):v.isCell=true:=by
  rcases a with ⟨rfl,rfl,_⟩ | ⟨b,o,k,c,rfl,_⟩ <;> rfl
theorem SlR.cells (a:SlR D h v t z n cs):V.cells v=some [v]:=by
  rcases a with ⟨rfl,rfl,_⟩ | ⟨b,o,k,c,rfl,_⟩ <;> rfl
theorem SlR.same (a:SlR D h v t z n cs):V.same v v=true:=by
  rcases a with ⟨rfl,rfl,_⟩ | ⟨b,o,k,c,rfl,_⟩ <;> simp [V.same]
theorem SlR.ck (a:SlR D h v t z n cs) {β:Type} (k:Option β):ck (some v) v k=k:=by
  rcases a with ⟨rfl,rfl,_⟩ | ⟨b,o,k,c,rfl,_⟩ <;> simp
theorem SlR.stZ (a:SlR D h v t z n cs) (g:H) (b o:Nat):stZ 1 g (.ptr b o) v=(g.wr1 b o v).bind fun h'=>some (.und,h'):=stZ_one g b o v a.cell
theorem SlR.first (a:SlR D h v t z n cs):firstV h z n v=some cs:=by
  rcases a with ⟨rfl,rfl,rfl⟩ | ⟨b,o,k,c,rfl,h2,h3,rfl,_⟩
  ·rfl
  ·show h.rdN b o (n*z)=_;rw [rdN_of h2 h3]
theorem SlR.mono {E:Nat→Prop} (a:SlR D h v t z n cs) (hd:∀ b,b < h.n→D b→E b):SlR E h v t z n cs:=by
  rcases a with a | ⟨b,o,k,c,h1,h2,h3,h4,h5,h6⟩
  ·exact .inl a
  ·exact .inr ⟨b,o,k,c,h1,h2,h3,h4,hd b (H.get_lt h2) h5,h6⟩
theorem SlR.keep {h':H} (a:SlR D h v t z n cs) (hk:∀ b c,D b→h.get b=some (.cells c t false)→h'.get b=h.get b):SlR D h' v t z n cs:=by
  rcases a with a | ⟨b,o,k,c,h1,h2,h3,h4,h5,h6⟩
  ·exact .inl a
  ·exact .inr ⟨b,o,k,c,h1,by rw [hk b c h5 h2,h2],h3,h4,h5,h6⟩
theorem SlR.ext {h':H} (a:SlR D h v t z n cs) (x:Ext h h'):SlR D h' v t z n cs:=a.keep fun b c _ hb=>x.get b (H.get_lt hb)
theorem SlR.nil (D:Nat→Prop) (h:H) (t z:Nat):SlR D h .nils t z 0 []:=.inl ⟨rfl,rfl,rfl⟩
theorem SlR.of {b:Nat} {k:Cap} {c:List V} (hb:h.get b=some (.cells c t false)) (hl:c.length=n*z) (hd:D b) (hk:CapOk z n k:=by first | assumption | exact Nat.le_refl _ | rfl):SlR D h (.sl b 0 n k) t z n c :=
  .inr ⟨b,0,k,c,rfl,hb,by omega,by rw [List.drop_zero,List.take_of_length_le (by omega)],hd,hk⟩
theorem GrowV.slr {p:Nat} (a:GrowV p h v t z cs n) (hd:∀ b,p≤b→D b):SlR D h v t z n cs:=by
  rcases a with ⟨rfl,rfl,rfl⟩ | ⟨b,rfl,h2,h3,h4⟩
  ·exact SlR.nil _ _ _ _
  ·exact SlR.of h2 h3 (hd b h4)
theorem SlR.at (a:SlR D h v t z n cs) {i:Nat} (hi:i < n):∃ b o,iaS z v (.int .i64 i)=some (.ptr b o)∧D b∧(∃ c,h.get b=some (.cells c t false))∧(∀ j,j < z→h.rd1 b (o+j)=cs[i*z+j]?)∧h.rdN b o z=some ((cs.drop (i*z)).take z):=by
  rcases a with ⟨rfl,rfl,_⟩ | ⟨b,o,k,c,rfl,h2,h3,rfl,h5,_⟩
  ·omega
  ·have hz:i*z+z≤n*z:=by have:=Nat.mul_le_mul_right z hi;rw [Nat.succ_mul] at this;exact this
   refine ⟨b,o+i*z,by simp [hi],h5,⟨c,h2⟩,fun j hj=>?_,?_⟩
   ·rw [rd1_of h2,List.getElem?_take,if_pos (by omega),List.getElem?_drop];congr 1;omega
   ·rw [rdN_of h2 (by omega)]
    congr 1
    apply List.ext_getElem?
    intro j
    simp only [List.getElem?_take,List.getElem?_drop]
    by_cases hj:j < z
    · rw [if_pos hj,if_pos hj,if_pos (by omega)];congr 1;omega
    · rw [if_neg hj,if_neg hj]
theorem SlR.at1 (a:SlR D h v t 1 n cs) {i:Nat} (hi:i < n):∃ b o,iaS 1 v (.int .i64 i)=some (.ptr b o)∧h.rd1 b o=cs[i]?∧D b∧∃ c,h.get b=some (.cells c t false):=by
  obtain ⟨b,o,h1,h2,h3,h4,_⟩:=a.at hi
  exact ⟨b,o,h1,by have:=h4 0 (by omega);simpa using this,h2,h3⟩
theorem SlR.at2 (a:SlR D h v t 2 n cs) {i:Nat} (hi:i < n) {x y:V} (hx:cs[2*i]?=some x) (hy:cs[2*i+1]?=some y):∃ b o,iaS 2 v (.int .i64 i)=some (.ptr b o)∧h.rd1 b o=some x∧h.rd1 b (o+1)=some y∧h.rdN b o 2=some [x,y]∧D b∧∃ c,h.get b=some (.cells c t false):=by
  obtain ⟨b,o,h1,h2,h3,h4,h5⟩:=a.at hi
  refine ⟨b,o,h1,by have:=h4 0 (by omega);rw [Nat.add_zero,Nat.add_zero,Nat.mul_comm,hx] at this;exact this,by have:=h4 1 (by omega);rw [this,Nat.mul_comm,hy],?_,h2,h3⟩
  rw [h5]
  congr 1
  apply List.ext_getElem?
  intro j
  simp only [List.getElem?_take,List.getElem?_drop,Nat.mul_comm i 2]
  match j with
  | 0=>simp [hx]
  | 1=>simp [hy]
  | j+2=>simp;omega
end slr
structure Tb where
  c:List Nat
  n:Int
def U16 (D:Nat→Prop) (h:H) (v:V) (c:List Nat):Prop:=SlR D h v tU 1 c.length (wordsV c)∧∀ x ∈ c,x < 65536
def Els (D:Nat→Prop) (h:H) (cs:List V) (r:List Tb):Prop:=∀ (i:Nat) (t:Tb),r[i]?=some t→∃ vc,cs[2*i]?=some vc∧cs[2*i+1]?=some (.int .i64 t.n)∧U16 D h vc t.c
def RowR (D:Nat→Prop) (h:H) (v:V) (r:List Tb):Prop:=∃ cs,SlR D h v tT 2 r.length cs∧Els D h cs r
def SetR (D:Nat→Prop) (h:H) (v:V) (S:List (List Tb)):Prop:=∃ cs,SlR D h v tR 1 S.length cs∧∀ (k:Nat) (r:List Tb),S[k]?=some r→∃ vr,cs[k]?=some vr∧RowR D h vr r
section sets
variable {D E:Nat→Prop} {h h':H} {v:V}
theorem U16.keep {c:List Nat} (a:U16 D h v c) (hk:∀ b c,D b→h.get b=some (.cells c tU false)→h'.get b=h.get b):U16 D h' v c:=⟨a.1.keep hk,a.2⟩
theorem U16.ext {c:List Nat} (a:U16 D h v c) (x:Ext h h'):U16 D h' v c:=⟨a.1.ext x,a.2⟩
theorem U16.mono {c:List Nat} (a:U16 D h v c) (hd:∀ b,b < h.n→D b→E b):U16 E h v c:=⟨a.1.mono hd,a.2⟩
theorem U16.at {c:List Nat} (a:U16 D h v c) {i:Nat} (hi:i < c.length):∃ b o,iaS 1 v (.int .i64 i)=some (.ptr b o)∧h.rd1 b o=some (.int .u16 (nth c i:Nat))∧D b∧∃ c,h.get b=some (.cells c tU false):=by
  obtain ⟨b,o,h1,h2,h3⟩:=a.1.at1 hi
  exact ⟨b,o,h1,by rw [h2,wordsV_get c i hi],h3⟩
theorem Els.keep {cs:List V} {r:List Tb} (a:Els D h cs r) (hk:∀ b c,D b→h.get b=some (.cells c tU false)→h'.get b=h.get b):Els D h' cs r:=fun i t hi=>by
  obtain ⟨vc,h1,h2,h3⟩:=a i t hi;exact ⟨vc,h1,h2,h3.keep hk⟩
theorem Els.ext {cs:List V} {r:List Tb} (a:Els D h cs r) (x:Ext h h'):Els D h' cs r:=a.keep fun b c _ hb=>x.get b (H.get_lt hb)
theorem Els.mono {cs:List V} {r:List Tb} (a:Els D h cs r) (hd:∀ b,b < h.n→D b→E b):Els E h cs r:=fun i t hi=>by
  obtain ⟨vc,h1,h2,h3⟩:=a i t hi;exact ⟨vc,h1,h2,h3.mono hd⟩
theorem Els.nil (D:Nat→Prop) (h:H):Els D h [] []:=fun i t hi=>by simp at hi
theorem Els.snoc {cs:List V} {r:List Tb} {t:Tb} (a:Els D h cs r) (hl:cs.length=r.length*2) (u:U16 D h v t.c):Els D h (cs ++ [v,.int .i64 t.n]) (r ++ [t]):=fun i s hi=>by
  by_cases e:i < r.length
  ·rw [List.getElem?_append_left e] at hi
   obtain ⟨vc,h1,h2,h3⟩:=a i s hi
   exact ⟨vc,by rw [List.getElem?_append_left (by omega),h1],by rw [List.getElem?_append_left (by omega),h2],h3⟩
  ·rw [List.getElem?_append_right (by omega)] at hi
   have hi0:i=r.length:=by
    by_cases e2:i=r.length
    · exact e2
    · rw [List.getElem?_eq_none (by simp;omega)] at hi;cases hi
   subst hi0
   simp at hi
   subst hi
   exact ⟨v,by rw [List.getElem?_append_right (by omega)];simp [hl,Nat.mul_comm],by rw [List.getElem?_append_right (by omega)];simp [hl,Nat.mul_comm],u⟩
theorem RowR.keep {r:List Tb} (a:RowR D h v r) (hk:∀ b,D b→b < h.n→h'.get b=h.get b):RowR D h' v r:=by
  obtain ⟨cs,h1,h2⟩:=a
  exact ⟨cs,h1.keep fun b c hd hb=>hk b hd (H.get_lt hb),h2.keep fun b c hd hb=>hk b hd (H.get_lt hb)⟩
theorem RowR.mono {r:List Tb} (a:RowR D h v r) (hd:∀ b,b < h.n→D b→E b):RowR E h v r:=by
  obtain ⟨cs,h1,h2⟩:=a
  exact ⟨cs,h1.mono hd,h2.mono hd⟩
theorem SetR.keep {S:List (List Tb)} (a:SetR D h v S) (hk:∀ b,D b→b < h.n→h'.get b=h.get b):SetR D h' v S:=by
  obtain ⟨cs,h1,h2⟩:=a
  exact ⟨cs,h1.keep fun b c hd hb=>hk b hd (H.get_lt hb),fun k r hr=>by obtain ⟨vr,k1,k2⟩:=h2 k r hr;exact ⟨vr,k1,k2.keep hk⟩⟩
theorem SetR.ext {S:List (List Tb)} (a:SetR D h v S) (x:Ext h h'):SetR D h' v S:=a.keep fun b _ hb=>x.get b hb
theorem SetR.mono {S:List (List Tb)} (a:SetR D h v S) (hd:∀ b,b < h.n→D b→E b):SetR E h v S:=by
  obtain ⟨cs,h1,h2⟩:=a
  exact ⟨cs,h1.mono hd,fun k r hr=>by obtain ⟨vr,k1,k2⟩:=h2 k r hr;exact ⟨vr,k1,k2.mono hd⟩⟩
theorem SetR.row {S:List (List Tb)} (a:SetR D h v S) {k:Nat} {r:List Tb} (hr:S[k]?=some r):∃ b o vr,iaS 1 v (.int .i64 k)=some (.ptr b o)∧h.rd1 b o=some vr∧RowR D h vr r∧D b∧b < h.n:=by
  obtain ⟨cs,h1,h2⟩:=a
  obtain ⟨vr,k1,k2⟩:=h2 k r hr
  have hk:k < S.length:=by
   by_cases e:k < S.length
   ·exact e
   ·rw [List.getElem?_eq_none (by omega)] at hr;cases hr
  obtain ⟨b,o,j1,j2,j3,c,j4⟩:=h1.at1 hk
  exact ⟨b,o,vr,j1,by rw [j2,k1],k2,j3,H.get_lt j4⟩
theorem RowR.tab {r:List Tb} (a:RowR D h v r) {i:Nat} {t:Tb} (hr:r[i]?=some t):∃ b o vc,iaS 2 v (.int .i64 i)=some (.ptr b o)∧h.rd1 b o=some vc∧h.rd1 b (o+1)=some (.int .i64 t.n)∧h.rdN b o 2=some [vc,.int .i64 t.n]∧U16 D h vc t.c∧D b∧b < h.n:=by
  obtain ⟨cs,h1,h2⟩:=a
  obtain ⟨vc,k1,k2,k3⟩:=h2 i t hr
  have hk:i < r.length:=by
   by_cases e:i < r.length
   ·exact e
   ·rw [List.getElem?_eq_none (by omega)] at hr;cases hr
  obtain ⟨b,o,j1,j2,j3,j4,j5,c,j6⟩:=h1.at2 hk k1 k2
  exact ⟨b,o,vc,j1,j2,j3,j4,k3,j5,H.get_lt j6⟩
end sets
open Go.Zf (wi64)
def Sorted (c:List Nat):Prop:=∀ i,i+1 < c.length→nth c i≤nth c (i+1)
def TabOk (t:Tb):Prop:=(2≤t.c.length∧t.c.length≤16)∧(0≤t.n∧t.n≤32)∧Sorted t.c∧nth t.c (t.c.length - 1)=32768
noncomputable instance (t:Tb):Decidable (TabOk t):=Classical.propDecidable _
noncomputable instance (c:List Nat):Decidable (Sorted c):=Classical.propDecidable _
def pt (t:Tb) (j:Nat):Nat:=if j=0 then 0 else nth t.c (j - 1)*(32768 - 4*t.c.length) / 32768+4*j
theorem sorted_le {c:List Nat} (h:Sorted c):∀ {j i:Nat},i≤j→j < c.length→nth c i≤nth c j
  | 0,i,h1,h2 =>
           by
            have:i=0:=by omega
            subst this;exact Nat.le_refl _
  | j+1,i,h1,h2=>by
   by_cases e:i=j+1
   ·subst e;exact Nat.le_refl _
   ·exact Nat.le_trans (sorted_le h (j:=j) (by omega) (by omega)) (h j h2)
theorem TabOk.le {t:Tb} (a:TabOk t) {i:Nat} (hi:i < t.c.length):nth t.c i≤32768:=by
  have:=sorted_le a.2.2.1 (i:=i) (j:=t.c.length - 1) (by omega) (by omega)
  rw [a.2.2.2] at this;exact this
theorem pt_zero (t:Tb):pt t 0=0:=by simp [pt]
theorem pt_succ (t:Tb) (s:Nat):pt t (s+1)=nth t.c s*(32768 - 4*t.c.length) / 32768+4*(s+1):=by simp [pt]
theorem pt_lt {t:Tb} (a:TabOk t) {s:Nat} (hs:s < t.c.length):pt t s < pt t (s+1):=by
  rw [pt_succ]
  cases s with
  | zero=>rw [pt_zero];omega
  | succ s =>
   rw [pt_succ]
   have h1:=a.2.2.1 s hs
   have h2:=Nat.div_le_div_right (c:=32768) (Nat.mul_le_mul_right (32768 - 4*t.c.length) h1)
   omega
theorem pt_last {t:Tb} (a:TabOk t):pt t t.c.length=32768:=by
  obtain ⟨⟨l1,l2⟩,_,_,h⟩:=a
  obtain ⟨n,hn⟩:∃ n,t.c.length=n+1:=⟨t.c.length - 1,by omega⟩
  rw [hn] at h ⊢
  rw [pt_succ,hn]
  simp only [Nat.add_sub_cancel] at h
  rw [h,Nat.mul_comm,Nat.mul_div_cancel _ (by decide)]
  omega
theorem pt_mono {t:Tb} (a:TabOk t):∀ {j i:Nat},i≤j→j≤t.c.length→pt t i≤pt t j
  | 0,i,h1,h2 =>
           by
            have:i=0:=by omega
            subst this;exact Nat.le_refl _
  | j+1,i,h1,h2=>by
   by_cases e:i=j+1
   ·subst e;exact Nat.le_refl _
   ·exact Nat.le_trans (pt_mono a (j:=j) (by omega) (by omega)) (Nat.le_of_lt (pt_lt a (by omega)))
theorem pt_le {t:Tb} (a:TabOk t) {j:Nat} (hj:j≤t.c.length):pt t j≤32768:=by rw [← pt_last a];exact pt_mono a hj (Nat.le_refl _)
theorem sizes80_ok (n:Int) (h:H):KW 65 [.int .i64 n] h=some (.ret (.bool (decide (2≤n) && decide (n≤16))),h):=by
  rw [w65,f65,s65]
  by_cases h1:2≤n
  ·simp [h1]
  ·simp [h1]
theorem nan99_ok (a:Int) (h:H):KW 120 [.int .u16 a] h=some (.ret (.bool false),h):=by
  rw [w120,f120,s120];simp
theorem less96_ok (a b:Int) (h:H):KW 111 [.int .u16 a,.int .u16 b] h=some (.ret (.bool (decide (a < b))),h):=by
  rw [w111,f111,s111];simp [nan99_ok,gl_t,gk_t]
theorem sorted86_ok {D:Nat→Prop} {h:H} {v:V} {c:List Nat} (u:U16 D h v c) (hl:c.length < 1000):KW 92 [v] h=some (.ret (.bool (decide (Sorted c))),h):=by
  have loop:=loop_run (body:=l92_0 KW loopZ) (fun n e g=>g=h∧e.s [0,2,3] 0=v∧e.s [0,2,3] 3=.int .i64 ((n:Int) - 1)∧n≤c.length∧∀ j,n≤j+1→j+1 < c.length→nth c j≤nth c (j+1))
   (fun s=>s.h=h∧((s.x=.ex 0∧Sorted c)∨(s.x=.rt∧s.e.s [0,2,3] 2=.bool false∧¬ Sorted c)))
   (fun n e g ⟨hg,p0,p3,hn,hs⟩=>by
    subst hg
    by_cases h0:(0:Int) < (n:Int) - 1
    · obtain ⟨i,rfl⟩:∃ i,n=i+2:=⟨n - 2,by omega⟩
      obtain ⟨b,o,q1,q2,_⟩:=u.at (i:=i+1) (by omega)
      obtain ⟨b',o',r1,r2,_⟩:=u.at (i:=i) (by omega)
      have z1:((i+2:Nat):Int) - 1=((i+1:Nat):Int):=by omega
      rw [z1] at p3
      simp [l92_0,p3,show (0:Int) < (i:Int)+1 by omega]
      have q1':iaS 1 v (.int .i64 ((i:Int)+1))=some (.ptr b o):=by simpa using q1
      have z2':IntKind.i64.wrap (i:Int)=(i:Int):=wi64 (by omega) (by omega)
      simp [p0,q1',q2,z2',r1,r2,less96_ok]
      by_cases hc:nth c (i+1) < nth c i
      ·simp [hc]
       refine ⟨rfl,.inr ⟨rfl,by simp,fun hS=>?_⟩⟩
       have:=hS i (by omega)
       omega
      ·simp [hc]
       refine ⟨i+1,by omega,rfl,by simp [p0],by simp [z2'],by omega,fun j hj hj2=>?_⟩
       by_cases e:j=i
       ·subst e;omega
       ·exact hs j (by omega) hj2
    · simp [l92_0,p3,show ¬ (0:Int) < (n:Int) - 1 by omega,show ¬ 1 < (n:Int) by omega,show ¬ 1 < n by omega]
      exact ⟨rfl,.inl ⟨rfl,fun j hj=>hs j (by omega) hj⟩⟩)
  have hl0:=u.1.len
  obtain ⟨s,r1,r2,r3⟩:=loop c.length ⟨[v,.bool false,.int .i64 ((c.length:Int) - 1)],3,.int .i64 ((c.length:Int) - 1)⟩ h ⟨rfl,by simp,by simp,by omega,fun j hj hj2=>by omega⟩
  rw [w92,f92,s92]
  have z:IntKind.i64.wrap ((c.length:Int) - 1)=(c.length:Int) - 1:=wi64 (by omega) (by omega)
  obtain ⟨x,e',h'⟩:=s
  simp only at r2 r3
  subst r2
  simp [hl0,z,r1]
  rcases r3 with ⟨rfl,hs⟩ | ⟨rfl,p2,hs⟩
  ·simp [hs]
  ·simp [p2,hs]
theorem box72 {D:Nat→Prop} {h:H} {v:V} {t:Tb} (u:U16 D h v t.c):∃ h1,bx h 76 (.agg [v,.int .i64 t.n])=some (.ptr h.n 0,h1)∧Ext h h1∧h1.get h.n=some (.cells [v,.int .i64 t.n] 76 false)∧h1.n=h.n+1∧U16 D h1 v t.c :=
  ⟨h.new (.cells [v,.int .i64 t.n] 76 false),rfl,(Ext.refl h).new _,get_new_same,H.n_new _ _,u.ext ((Ext.refl h).new _)⟩
theorem check58_ok {D:Nat→Prop} {h:H} {v:V} {t:Tb} (u:U16 D h v t.c) (hl:t.c.length < 1000):RT (fun w h'=>w=.int .i64 (if TabOk t then 0 else 2)∧Ext h h') (KW 62 [.agg [v,.int .i64 t.n]] h):=by
  obtain ⟨h1,b1,x1,g1,n1,u1⟩:=box72 u
  have ul:=u1.1.len
  have us:=sorted86_ok u1 hl
  have st:=sizes80_ok (t.c.length:Int)
  rw [w62,f62,s62]
  by_cases c1:2≤t.c.length∧t.c.length≤16
  ·obtain ⟨c1,c2⟩:=c1
   rw [show (decide (2≤(t.c.length:Int)) && decide ((t.c.length:Int)≤16))=true by rw [Bool.and_eq_true,decide_eq_true_eq,decide_eq_true_eq];omega] at st
   by_cases c3:t.n < 0
   ·simp [b1,rd1_of g1,ul,st,c1,c2,c3]
    exact ⟨by rw [if_neg];intro a;have:=a.2.1;omega,x1⟩
   ·by_cases c4:32 < t.n
    · simp [b1,rd1_of g1,ul,st,c1,c2,c3,c4]
      exact ⟨by rw [if_neg];intro a;have:=a.2.1;omega,x1⟩
    · by_cases c5:Sorted t.c
      ·obtain ⟨b,o,q1,q2,_⟩:=u1.at (i:=t.c.length - 1) (by omega)
       have z1:IntKind.i64.wrap ((t.c.length:Int) - 1)=((t.c.length - 1:Nat):Int):=by rw [wi64 (by omega) (by omega)];omega
       obtain ⟨x,hx⟩:∃ x,x=nth t.c (t.c.length - 1):=⟨_,rfl⟩
       rw [← hx] at q2
       by_cases c6:x=32768
       ·simp [b1,rd1_of g1,ul,st,c1,c2,c3,c4,us,c5,z1,q1,q2,c6]
        exact ⟨by rw [if_pos ⟨⟨c1,c2⟩,⟨by omega,by omega⟩,c5,by rw [← hx,c6]⟩],x1⟩
       ·have c6':¬ (x:Int)=32768:=by omega
        simp [b1,rd1_of g1,ul,st,c1,c2,c3,c4,us,c5,z1,q1,q2,c6,c6']
        exact ⟨by rw [if_neg];intro a;exact c6 (by rw [hx];exact a.2.2.2),x1⟩
      ·simp [b1,rd1_of g1,ul,st,c1,c2,c3,c4,us,c5]
       exact ⟨by rw [if_neg];intro a;exact c5 a.2.2.1,x1⟩
  ·have e1:(decide (2≤(t.c.length:Int)) && decide ((t.c.length:Int)≤16))=false:=by
    rw [Bool.and_eq_false_iff];simp only [decide_eq_false_iff_not];omega
   rw [e1] at st
   simp [b1,rd1_of g1,ul,st]
   exact ⟨by rw [if_neg];intro a;exact c1 a.1,x1⟩
theorem end95_ok {D:Nat→Prop} {h:H} {v:V} {t:Tb} (u:U16 D h v t.c) (ok:TabOk t) {j:Nat} (hj:j≤t.c.length):RT (fun w h'=>w=.int .u32 (pt t j:Nat)∧Ext h h') (KW 119 [.agg [v,.int .i64 t.n],.int .i64 ((j:Int) - 1)] h):=by
  obtain ⟨h1,b1,x1,g1,n1,u1⟩:=box72 u
  have ul:=u1.1.len
  rw [w119,f119,s119]
  cases j with
  | zero =>
   simp [b1]
   exact ⟨by simp [pt],x1⟩
  | succ s =>
   obtain ⟨b,o,q1,q2,_⟩:=u1.at (i:=s) (by omega)
   have hc:=ok.le (i:=s) (by omega)
   obtain ⟨x,hx⟩:∃ x,x=nth t.c s:=⟨_,rfl⟩
   obtain ⟨n,hn⟩:∃ n,n=t.c.length:=⟨_,rfl⟩
   have hp:=pt_succ t s
   have hpl:=pt_le ok hj
   rw [hp,← hx,← hn] at hpl
   rw [← hx] at q2 hc
   rw [hp,← hx,← hn]
   rw [← hn] at ul hj
   have l1:=ok.1.1
   have l2:=ok.1.2
   rw [← hn] at l1 l2
   have zs:((s+1:Nat):Int) - 1=(s:Int):=by omega
   have z1:IntKind.u32.wrap (x:Int)=x:=wu32 (by omega) (by omega)
   have z2:IntKind.i64.wrap (4*(n:Int))=4*n:=wi64 (by omega) (by omega)
   have z3:IntKind.i64.wrap (32768 - 4*(n:Int))=32768 - 4*n:=wi64 (by omega) (by omega)
   have z4:IntKind.u32.wrap (32768 - 4*(n:Int))=32768 - 4*n:=wu32 (by omega) (by omega)
   have m1:=mul_bd (a:=(x:Int)) (b:=32768 - 4*(n:Int)) (A:=32768) (B:=32768) (by omega) (by omega) (by omega) (by omega)
   have z5:IntKind.u32.wrap ((x:Int)*(32768 - 4*n))=x*(32768 - 4*n):=wu32 m1.1 (by omega)
   have z6:IntKind.i64.wrap ((s:Int)+1)=s+1:=wi64 (by omega) (by omega)
   have z7:IntKind.i64.wrap (4*((s:Int)+1))=4*(s+1):=wi64 (by omega) (by omega)
   have z8:IntKind.u32.wrap (4*((s:Int)+1))=4*(s+1):=wu32 (by omega) (by omega)
   have e1:((x*(32768 - 4*n) / 32768+4*(s+1):Nat):Int)=(x:Int)*(32768 - 4*n) / 32768+4*(s+1):=by
    rw [Int.natCast_add,Int.natCast_ediv,Int.natCast_mul,Int.ofNat_sub (by omega)];simp
   have z9:IntKind.u32.wrap ((x:Int)*(32768 - 4*n) / 32768+4*(s+1))=((x*(32768 - 4*n) / 32768+4*(s+1):Nat):Int):=by
    rw [← e1];exact wu32 (by omega) (by omega)
   rw [zs]
   simp [b1,show ¬ (s:Int) < 0 by omega,rd1_of g1,ul,q1,q2,z1,z2,z3,z4,z5,z6,z7,z8,z9,u1.1.ck,show (min 15 IntKind.u32.bits)=15 from rfl]
   exact ⟨rfl,x1⟩
open Go.Zf (wi64)
theorem asked59_ok {D:Nat→Prop} {h:H} {v:V} {t:Tb} (u:U16 D h v t.c) (hl:t.c.length < 1000) (s:Int):RT (fun w h'=>w=.bool (decide (TabOk t∧0≤s∧s < t.c.length))∧Ext h h') (KW 109 [.agg [v,.int .i64 t.n],.int .i64 s] h):=by
  obtain ⟨h1,b1,x1,g1,n1,u1⟩:=box72 u
  obtain ⟨w,h2,e2,rfl,x2⟩:=(check58_ok u1 hl).elim
  have g2:h2.get h.n=_:=(x2.get _ (H.get_lt g1)).trans g1
  have ul:=u1.1.len
  rw [w109,f109,s109]
  by_cases c1:TabOk t
  ·by_cases c2:0≤s
   ·simp [b1,rdN_of (o:=0) (n:=2) g1 (by simp),e2,c1,c2,rd1_of g2,ul,pk_bool]
    exact ⟨by simp,x1.trans x2⟩
   ·simp [b1,rdN_of (o:=0) (n:=2) g1 (by simp),e2,c1,c2,gl_t]
    exact ⟨by simp,x1.trans x2⟩
  ·simp [b1,rdN_of (o:=0) (n:=2) g1 (by simp),e2,c1,gl_t]
   exact ⟨by simp,x1.trans x2⟩
theorem bounds85_ok {D:Nat→Prop} {h:H} {v:V} {t:Tb} (u:U16 D h v t.c) (ok:TabOk t) {s:Nat} (hs:s < t.c.length):RT (fun w h'=>w=.tup [.int .u32 (pt t s:Nat),.int .u32 (pt t (s+1):Nat),.int .i64 0]∧Ext h h') (KW 108 [.agg [v,.int .i64 t.n],.int .i64 s] h):=by
  obtain ⟨h1,b1,x1,g1,n1,u1⟩:=box72 u
  have hl:t.c.length < 1000:=by have:=ok.1;omega
  obtain ⟨w,h2,e2,rfl,x2⟩:=(asked59_ok u1 hl (s:Int)).elim
  rw [show decide (TabOk t∧0≤(s:Int)∧(s:Int) < t.c.length)=true by rw [decide_eq_true_eq];exact ⟨ok,by omega,by omega⟩] at e2
  obtain ⟨w,h3,e3,rfl,x3⟩:=(end95_ok (u1.ext x2) ok (j:=s) (by omega)).elim
  obtain ⟨w,h4,e4,rfl,x4⟩:=(end95_ok ((u1.ext x2).ext x3) ok (j:=s+1) (by omega)).elim
  rw [show ((s+1:Nat):Int) - 1=(s:Int) by omega] at e4
  have g2:h2.get h.n=_:=(x2.get _ (H.get_lt g1)).trans g1
  have g3:h3.get h.n=_:=(x3.get _ (H.get_lt g2)).trans g2
  have z:IntKind.i64.wrap ((s:Int) - 1)=(s:Int) - 1:=wi64 (by omega) (by omega)
  rw [w108,f108,s108]
  simp [b1,rdN_of (o:=0) (n:=2) g1 (by simp),rdN_of (o:=0) (n:=2) g2 (by simp),rdN_of (o:=0) (n:=2) g3 (by simp),e2,e3,e4,z,ck,V.same,V.sames,u.1.same]
  exact ⟨rfl,((x1.trans x2).trans x3).trans x4⟩
def findP (t:Tb) (at_:Nat):Nat:=(List.range t.c.length).findIdx fun s=>at_ < pt t (s+1)
theorem findP_eq {t:Tb} {at_ s:Nat} (hs:s < t.c.length) (h1:at_ < pt t (s+1)) (h2:∀ j,j < s→pt t (j+1)≤at_):findP t at_=s:=by
  unfold findP
  rw [List.findIdx_eq (by simpa using hs)]
  refine ⟨by simpa using h1,fun j hj=>?_⟩
  have:=h2 j hj
  simp;omega
theorem findP_lt {t:Tb} (ok:TabOk t) {at_:Nat} (h:at_ < 32768):findP t at_ < t.c.length∧pt t (findP t at_)≤at_∧at_ < pt t (findP t at_+1):=by
  have h0:∃ n,n≤t.c.length∧at_ < pt t n∧∀ j,j < n→pt t j≤at_:=by
   have hall:∀ m,m≤t.c.length→(∃ n,n≤m∧at_ < pt t n∧∀ j,j < n→pt t j≤at_)∨∀ j,j≤m→pt t j≤at_:=by
    intro m
    induction m with
    | zero =>
          intro _;exact .inr fun j hj=>by
             have:j=0:=by omega
             subst this;rw [pt_zero];omega
    | succ m ih =>
      intro hm
      rcases ih (by omega) with ⟨n,a,b⟩ | a
      ·exact .inl ⟨n,by omega,b⟩
      ·by_cases hc:at_ < pt t (m+1)
       ·exact .inl ⟨m+1,by omega,hc,fun j hj=>a j (by omega)⟩
       ·exact .inr fun j hj=>by
         by_cases e:j=m+1
         ·subst e;omega
         ·exact a j (by omega)
   rcases hall t.c.length (Nat.le_refl _) with a | a
   ·exact a
   ·have:=a _ (Nat.le_refl _);rw [pt_last ok] at this;omega
  obtain ⟨n,a,b,c⟩:=h0
  cases n with
  | zero=>rw [pt_zero] at b;omega
  | succ n =>
   have e:=findP_eq (t:=t) (at_:=at_) (s:=n) (by omega) b (fun j hj=>c (j+1) (by omega))
   rw [e]
   exact ⟨by omega,c n (by omega),b⟩
theorem find84_ok {D:Nat→Prop} {h:H} {v:V} {t:Tb} (u:U16 D h v t.c) (ok:TabOk t) {at_:Nat} (ha:at_ < 32768):RT (fun w h'=>w=.tup [.int .i64 (findP t at_:Nat),.int .i64 0]∧Ext h h') (KW 107 [.agg [v,.int .i64 t.n],.int .u32 at_] h):=by
  obtain ⟨h1,b1,x1,g1,n1,u1⟩:=box72 u
  have hl:t.c.length < 1000:=by have:=ok.1;omega
  obtain ⟨w,h2,e2,rfl,x2⟩:=(check58_ok u1 hl).elim
  rw [if_pos ok] at e2
  have loop:=loop_run (body:=l107_0 KW loopZ) (fun n e g=>Ext h2 g∧n≤t.c.length∧0 < n∧e.s [0,1,2,4,5,6] 1=.int .u32 at_∧e.s [0,1,2,4,5,6] 2=.ptr h.n 0∧e.s [0,1,2,4,5,6] 6=.int .i64 ((t.c.length - n:Nat):Int)∧∀ j,j < t.c.length - n→pt t (j+1)≤at_)
   (fun s=>Ext h2 s.h∧s.x=.ex 0∧s.e.s [0,1,2,4,5,6] 6=.int .i64 (findP t at_:Nat))
   (fun n e g ⟨xg,hn,hn0,p1,p2,p6,hj⟩=>by
    obtain ⟨k,hk⟩:∃ k,k=t.c.length - n:=⟨_,rfl⟩
    rw [← hk] at p6 hj
    have gg:g.get h.n=_:=(xg.get _ (by have:=x2.n;omega)).trans ((x2.get _ (H.get_lt g1)).trans g1)
    obtain ⟨w,h3,e3,rfl,x3⟩:=(end95_ok ((u1.ext x2).ext xg) ok (j:=k+1) (by omega)).elim
    rw [show ((k+1:Nat):Int) - 1=(k:Int) by omega] at e3
    by_cases hc:pt t (k+1)≤at_
    · have z:IntKind.i64.wrap ((k:Int)+1)=k+1:=wi64 (by omega) (by omega)
      have hn1:n ≠ 1:=by
       intro e;subst e
       have:k+1=t.c.length:=by omega
       rw [this,pt_last ok] at hc;omega
      simp [l107_0,p2,rdN_of (o:=0) (n:=2) gg (by simp),p6,e3,p1,hc,z]
      refine ⟨n - 1,by omega,xg.trans x3,by omega,by omega,by simp [p1],by simp [p2],by simp;omega,fun j hj2=>?_⟩
      by_cases e:j=k
      ·subst e;exact hc
      ·exact hj j (by omega)
    · simp [l107_0,p2,rdN_of (o:=0) (n:=2) gg (by simp),p6,e3,p1,hc]
      refine ⟨xg.trans x3,rfl,?_⟩
      rw [findP_eq (s:=k) (by omega) (by omega) hj]
      simp [p6])
  obtain ⟨s,r1,r2,r3,r4⟩:=loop t.c.length ⟨[.agg [v,.int .i64 t.n],.int .u32 at_,.ptr h.n 0,.int .i64 0,.int .i64 0,.int .i64 0],6,.int .i64 0⟩ h2 ⟨Ext.refl h2,Nat.le_refl _,by have:=ok.1;omega,by simp,by simp,by simp,fun j hj=>by omega⟩
  obtain ⟨x,e',h'⟩:=s
  simp only at r2 r3 r4
  subst r3
  rw [w107,f107,s107]
  simp [b1,rdN_of (o:=0) (n:=2) g1 (by simp),e2,show ¬ (32768:Int)≤at_ by omega,r1,r4,show ¬ 32768≤at_ by omega]
  exact ⟨rfl,(x1.trans x2).trans r2⟩
open Go.Zf (wi64)
def NewS (p:Nat) (h:H) (v:V) (t z:Nat) (cs:List V) (n:Nat):Prop :=
  (v=.nils∧n=0∧cs=[])∨∃ b k,v=.sl b 0 n k∧h.get b=some (.cells cs t false)∧cs.length=n*z∧p≤b∧CapOk z n k
theorem NewS.slr {D:Nat→Prop} {p:Nat} {h:H} {v:V} {t z n:Nat} {cs:List V} (a:NewS p h v t z cs n) (hd:∀ b,p≤b→b < h.n→D b):SlR D h v t z n cs:=by
  rcases a with ⟨rfl,rfl,rfl⟩ | ⟨b,k,rfl,h2,h3,h4,h5⟩
  ·exact SlR.nil _ _ _ _
  ·exact SlR.of h2 h3 (hd b h4 (H.get_lt h2)) h5
theorem apZ_clone {D:Nat→Prop} {h:H} {v:V} {e z bytes n:Nat} {cs:List V} (a:SlR D h v e z n cs) (hb:n*bytes≤140737488355328) :
   ∃ v' h',apZ e z bytes (h.new (.cells [] e false)) (.sl h.n 0 0 (.ex 0)) v=some (v',h')∧NewS h.n h' v' e z cs n∧Ext h h'∧(0 < n→∃ b,v'=.sl b 0 n (.op z)):=by
  have x:=(Ext.refl h).new (.cells [] e false)
  have a1:=a.ext x
  have hl:=a1.lenOf
  have hf:=a1.first
  have hc:=a.length
  have g0:(h.new (.cells [] e false)).get h.n=some (.cells [] e false):=get_new_same
  cases n with
  | zero =>
   have:cs=[]:=by cases cs with
    | nil=>rfl
    | cons a l=>simp at hc
   subst this
   refine ⟨.sl h.n 0 0 (.ex 0),(h.new (.cells [] e false)).put h.n (.cells [] e false),?_,.inr ⟨h.n,_,rfl,get_put_same (H.get_lt g0),by simp,Nat.le_refl _,Nat.le_refl _⟩,x.put (Nat.le_refl _) _,fun h=>by omega⟩
   simp [apZ,hl,hf,apN,wrN_of (o:=0) g0,splice]
  | succ n =>
   refine ⟨.sl (h.n+1) 0 (n+1) (.op z),(h.new (.cells [] e false)).new (.cells cs e false),?_,.inr ⟨h.n+1,_,rfl,get_new_eq (by rw [H.n_new]),hc,by omega,rfl⟩,x.new _,fun _=>⟨_,rfl⟩⟩
   simp [apZ,hl,hf,apN,hb,rdN_of (o:=0) (n:=0) g0,H.n_new]
theorem clone61_ok {D:Nat→Prop} {h:H} {v:V} {c:List Nat} (u:U16 D h v c) (hl:c.length < 1000):RT (fun w h'=>NewS h.n h' w tU 1 (wordsV c) c.length∧Ext h h'∧(0 < c.length→∃ b,w=.sl b 0 c.length (.op 1))) (KW 64 [v] h):=by
  rw [w64,f64,s64]
  rcases u.1 with ⟨rfl,h2,h3⟩ | ⟨b,o,k,cs,hv,h2,h3,h4,h5⟩
  ·simp
   exact ⟨.inl ⟨rfl,h2,h3⟩,Ext.refl h,fun h=>by omega⟩
  ·obtain ⟨v',h',k1,k2,k3,k4⟩:=apZ_clone (bytes:=2) u.1 (by omega)
   have hn:binK 3 .eql v .nils=some (.bool false):=by rw [hv];rfl
   simp [hn,bs,fillW,k1]
   exact ⟨k2,k3,k4⟩
def rateP (t:Tb):Nat:=3+(if t.c.length < 4 then 1 else 2)+(if 15 < t.n then 1 else 0)+(if 31 < t.n then 1 else 0)
theorem rateP_lt (t:Tb):rateP t < 8:=by unfold rateP;split <;> split <;> split <;> omega
theorem len98_ok {n:Nat} (h1:2≤n) (h2:n≤16) (h:H):∃ m:Nat,KW 122 [.int .u64 n] h=some (.ret (.int .i64 m),h)∧min (m - 1) 2=(if n < 4 then 1 else 2)∧1≤m∧m < 10:=by
  have hn:n=2∨n=3∨n=4∨n=5∨n=6∨n=7∨n=8∨n=9∨n=10∨n=11∨n=12∨n=13∨n=14∨n=15∨n=16:=by omega
  rw [w122]
  rcases hn with rfl | rfl | rfl | rfl | rfl | rfl | rfl | rfl | rfl | rfl | rfl | rfl | rfl | rfl | rfl
  ·exact ⟨2,by kernel_rfl,by decide,by omega,by omega⟩
  ·exact ⟨2,by kernel_rfl,by decide,by omega,by omega⟩
  ·exact ⟨3,by kernel_rfl,by decide,by omega,by omega⟩
  ·exact ⟨3,by kernel_rfl,by decide,by omega,by omega⟩
  ·exact ⟨3,by kernel_rfl,by decide,by omega,by omega⟩
  ·exact ⟨3,by kernel_rfl,by decide,by omega,by omega⟩
  ·exact ⟨4,by kernel_rfl,by decide,by omega,by omega⟩
  ·exact ⟨4,by kernel_rfl,by decide,by omega,by omega⟩
  ·exact ⟨4,by kernel_rfl,by decide,by omega,by omega⟩
  ·exact ⟨4,by kernel_rfl,by decide,by omega,by omega⟩
  ·exact ⟨4,by kernel_rfl,by decide,by omega,by omega⟩
  ·exact ⟨4,by kernel_rfl,by decide,by omega,by omega⟩
  ·exact ⟨4,by kernel_rfl,by decide,by omega,by omega⟩
  ·exact ⟨4,by kernel_rfl,by decide,by omega,by omega⟩
  ·exact ⟨5,by kernel_rfl,by decide,by omega,by omega⟩
theorem rate60_ok {D:Nat→Prop} {h:H} {v:V} {t:Tb} (u:U16 D h v t.c) (ok:TabOk t):RT (fun w h'=>w=.int .i64 (rateP t:Nat)∧Ext h h') (KW 110 [.agg [v,.int .i64 t.n]] h):=by
  obtain ⟨h1,b1,x1,g1,n1,u1⟩:=box72 u
  have ul:=u1.1.len
  obtain ⟨m,e2,hm,m1,m2⟩:=len98_ok ok.1.1 ok.1.2 h1
  have e87:KW 115 [.int .u64 (t.c.length:Int)] h1=some (.ret (.int .i64 m),h1):=by
   rw [w115,f115,s115];simp [e2]
  have z0:IntKind.u64.wrap (t.c.length:Int)=t.c.length:=by have:=ok.1;exact wu64 (by omega) (by omega)
  have z1:IntKind.i64.wrap ((m:Int) - 1)=((m - 1:Nat):Int):=by rw [wi64 (by omega) (by omega)];omega
  obtain ⟨q,hq⟩:∃ q,q=(if t.c.length < 4 then 1 else 2):=⟨_,rfl⟩
  have e3:(if (2:Int) < ((m - 1:Nat):Int) then (2:Int) else ((m - 1:Nat):Int))=(q:Int):=by
   rw [hq,← hm];split <;> omega
  have hq2:q≤2:=by rw [hq];split <;> omega
  have z2:IntKind.i64.wrap (3+(q:Int))=3+q:=wi64 (by omega) (by omega)
  have z3:IntKind.i64.wrap (3+(q:Int)+1)=3+q+1:=wi64 (by omega) (by omega)
  have z4:IntKind.i64.wrap (3+(q:Int)+1+1)=3+q+1+1:=wi64 (by omega) (by omega)
  have hr:(rateP t:Int)=3+q+(if 15 < t.n then 1 else 0)+(if 31 < t.n then 1 else 0):=by
   unfold rateP;rw [← hq];split <;> split <;> simp
  rw [hr]
  rw [w110,f110,s110]
  by_cases c1:15 < t.n
  ·by_cases c2:31 < t.n
   ·simp [b1,rd1_of g1,ul,z0,e87,z1,e3,z2,c1,c2,z3,z4]
    exact ⟨rfl,x1⟩
   ·simp [b1,rd1_of g1,ul,z0,e87,z1,e3,z2,c1,c2,z3,z4]
    exact ⟨rfl,x1⟩
  ·simp [b1,rd1_of g1,ul,z0,e87,z1,e3,z2,c1,show ¬ 31 < t.n by omega]
   exact ⟨rfl,x1⟩
open Go.Zf (wi64)
def mix (f g:Nat→Nat) (m j:Nat):List Nat:=(List.range m).map fun i=>if i < j then f i else g i
theorem mix_length (f g:Nat→Nat) (m j:Nat):(mix f g m j).length=m:=by simp [mix]
theorem mix_nth (f g:Nat→Nat) {m j i:Nat} (h:i < m):nth (mix f g m j) i=if i < j then f i else g i:=by
  rw [nth_of (by rw [mix_length];exact h)];simp [mix]
theorem mix_set (f g:Nat→Nat) (m j:Nat):(mix f g m j).set j (f j)=mix f g m (j+1):=by
  apply List.ext_getElem
  ·simp [mix]
  ·intro i h1 h2
   rw [List.getElem_set]
   simp only [mix,List.getElem_map,List.getElem_range]
   by_cases e:j=i
   ·subst e;simp
   ·simp only [e,if_false]
    by_cases h:i < j
    · simp [h,Nat.lt_succ_of_lt h]
    · rw [if_neg h,if_neg (by omega)]
theorem list_eq_nth {l m:List Nat} (h:l.length=m.length) (hn:∀ i,i < l.length→nth l i=nth m i):l=m:=by
  apply List.ext_getElem h
  intro i h1 h2
  have:=hn i h1
  rwa [nth_of h1,nth_of h2] at this
theorem mix_zero (l:List Nat) (f:Nat→Nat):mix f (nth l) l.length 0=l:=by
  apply list_eq_nth (mix_length _ _ _ _)
  intro i hi
  rw [mix_length] at hi
  rw [mix_nth f _ hi,if_neg (by omega)]
theorem wordsV_set (l:List Nat) (i x:Nat):(wordsV l).set i (.int .u16 x)=wordsV (l.set i x):=by simp [wordsV,List.map_set]
def adF (t:Tb) (s i:Nat):Nat:=if i+1=t.c.length then nth t.c i else if i < s then nth t.c i - nth t.c i / 2 ^ rateP t else nth t.c i+(32768 - nth t.c i) / 2 ^ rateP t
def adaptP (t:Tb) (s:Nat):Tb:=⟨(List.range t.c.length).map (adF t s),min (t.n+1) 32⟩
theorem adaptP_len (t:Tb) (s:Nat):(adaptP t s).c.length=t.c.length:=by simp [adaptP]
theorem adaptP_nth {t:Tb} {s i:Nat} (h:i < t.c.length):nth (adaptP t s).c i=adF t s i:=by
  rw [nth_of (by rw [adaptP_len];exact h)];simp [adaptP]
theorem mix_all (t:Tb) (s:Nat):mix (adF t s) (nth t.c) t.c.length (t.c.length - 1)=(adaptP t s).c:=by
  apply list_eq_nth (by rw [mix_length,adaptP_len])
  intro i hi
  rw [mix_length] at hi
  rw [mix_nth _ _ hi,adaptP_nth hi]
  split
  ·rfl
  ·rw [adF,if_pos (by omega)]
theorem adF_le {t:Tb} (ok:TabOk t) (s:Nat) {i:Nat} (hi:i < t.c.length):adF t s i≤32768:=by
  have:=ok.le hi
  unfold adF
  split
  ·exact this
  ·split
   ·exact Nat.le_trans (Nat.sub_le _ _) this
   ·have:=Nat.div_le_self (32768 - nth t.c i) (2 ^ rateP t)
    generalize (32768 - nth t.c i) / 2 ^ rateP t=a at *
    omega
theorem adF_mono {t:Tb} (ok:TabOk t) (s:Nat) {i:Nat} (hi:i+1 < t.c.length):adF t s i≤adF t s (i+1):=by
  have h1:=ok.2.2.1 i hi
  have h2:=ok.le hi
  have h3:=ok.le (show i < t.c.length by omega)
  obtain ⟨q,hq⟩:∃ q,q=2 ^ rateP t:=⟨_,rfl⟩
  have hq1:1≤q:=by rw [hq];exact Nat.two_pow_pos _
  have hl:=ok.2.2.2
  unfold adF
  rw [← hq,if_neg (show ¬ i+1=t.c.length by omega)]
  obtain ⟨x,hx⟩:∃ x,x=nth t.c i:=⟨_,rfl⟩
  obtain ⟨y,hy⟩:∃ x,x=nth t.c (i+1):=⟨_,rfl⟩
  rw [← hx,← hy]
  rw [← hx] at h1 h3
  rw [← hy] at h1 h2
  have d1:x - x / q≤y - y / q:=by
   have hm:∀ k,x+k - (x+k) / q ≥ x - x / q:=by
    intro k
    induction k with
    | zero=>exact Nat.le_refl _
    | succ k ih =>
      have:=Nat.div_le_self (x+k) q
      have hd:(x+(k+1)) / q≤(x+k) / q+1:=by
       rw [← Nat.add_assoc]
       calc (x+k+1) / q≤(x+k+q) / q:=Nat.div_le_div_right (by omega)
        _=(x+k) / q+1:=Nat.add_div_right _ (by omega)
      omega
   have:=hm (y - x);rw [show x+(y - x)=y by omega] at this;exact this
  have d2:x+(32768 - x) / q≤y+(32768 - y) / q:=by
   have hm:∀ k,x+k≤32768→x+(32768 - x) / q≤x+k+(32768 - (x+k)) / q:=by
    intro k
    induction k with
    | zero=>intro _;exact Nat.le_refl _
    | succ k ih =>
      intro hk
      have h:=ih (by omega)
      have hd:(32768 - (x+k)) / q≤(32768 - (x+(k+1))) / q+1:=by
       calc (32768 - (x+k)) / q≤(32768 - (x+(k+1))+q) / q:=Nat.div_le_div_right (by omega)
        _=_:=Nat.add_div_right _ (by omega)
      omega
   have:=hm (y - x) (by omega);rw [show x+(y - x)=y by omega] at this;exact this
  have d3:x - x / q≤y:=Nat.le_trans (Nat.sub_le _ _) h1
  have d4:y - y / q≤y+(32768 - y) / q:=Nat.le_trans (Nat.sub_le _ _) (Nat.le_add_right _ _)
  have d5:y≤y+(32768 - y) / q:=Nat.le_add_right _ _
  by_cases e1:i+1+1=t.c.length
  ·rw [if_pos e1]
   have hy2:y=32768:=by rw [hy,← hl];congr 1;omega
   have:=Nat.div_le_self (32768 - x) q
   split
   ·exact d3
   ·generalize (32768 - x) / q=a at *;omega
  ·rw [if_neg e1]
   by_cases e2:i < s
   ·rw [if_pos e2]
    by_cases e3:i+1 < s
    · rw [if_pos e3];exact d1
    · rw [if_neg e3];exact Nat.le_trans d3 d5
   ·rw [if_neg e2,if_neg (by omega)];exact d2
theorem adaptP_ok {t:Tb} (ok:TabOk t) (s:Nat):TabOk (adaptP t s):=by
  have h1:=ok.1
  refine ⟨by rw [adaptP_len];exact ok.1,?_,?_,?_⟩
  ·have:=ok.2.1;simp only [adaptP];omega
  ·intro i hi
   rw [adaptP_len] at hi
   rw [adaptP_nth (by omega),adaptP_nth hi]
   exact adF_mono ok s hi
  ·rw [adaptP_len,adaptP_nth (by omega),adF,if_pos (by omega)];exact ok.2.2.2
structure I35 (h0:H) (t:Tb) (s p q b rate:Nat) (m:Int) (n:Nat) (e:E) (g:H):Prop where
  hn:n≤t.c.length - 1
  x:∀ c,c < h0.n→c ≠ b→g.get c=h0.get c
  gn:h0.n≤g.n
  w:g.get b=some (.cells (wordsV (mix (adF t s) (nth t.c) t.c.length (t.c.length - 1 - n))) 97 false)
  p1:e.s [0,1,2,4,5,6,7,8,9,31,32,33] 1=.int .i64 s
  p4:e.s [0,1,2,4,5,6,7,8,9,31,32,33] 4=.ptr p 0
  p6:e.s [0,1,2,4,5,6,7,8,9,31,32,33] 6=.int .i64 rate
  p7:e.s [0,1,2,4,5,6,7,8,9,31,32,33] 7=.ptr q 0
  p31:e.s [0,1,2,4,5,6,7,8,9,31,32,33] 31=.sl b 0 (t.c.length - 1) (.op 1)
  p32:e.s [0,1,2,4,5,6,7,8,9,31,32,33] 32=.int .i64 ((t.c.length - 1:Nat):Int)
  p33:e.s [0,1,2,4,5,6,7,8,9,31,32,33] 33=.int .i64 ((t.c.length - 1 - n:Nat):Int)
theorem loop35 {h0:H} {t:Tb} {s p q b:Nat} {m:Int} (ok:TabOk t) (hq:h0.get q=some (.cells [.sl b 0 t.c.length (.op 1),.int .i64 m] 76 false)) (hqb:q ≠ b) {n:Nat} {e:E} {g:H} (hi:I35 h0 t s p q b (rateP t) m n e g) :
   ∃ e' g',loopZ (l91_0 KW loopZ) e g=some ⟨.ex 0,e',g'⟩∧I35 h0 t s p q b (rateP t) m 0 e' g':=by
  have loop:=loop_run (body:=l91_0 KW loopZ) (I35 h0 t s p q b (rateP t) m) (fun s'=>s'.x=.ex 0∧I35 h0 t s p q b (rateP t) m 0 s'.e s'.h)
   (fun n e g hi=>by
    obtain ⟨hn,x,gn,w,p1,p4,p6,p7,p31,p32,p33⟩:=hi
    cases n with
    | zero =>
      simp [l91_0,p33,p32]
      exact ⟨rfl,hn,x,gn,w,by simp [p1],by simp [p4],by simp [p6],by simp [p7],by simp [p31],by simp [p32],by simp [p33]⟩
    | succ n =>
      obtain ⟨k,hk⟩:∃ k,k=t.c.length - 1 - (n+1):=⟨_,rfl⟩
      have hk2:t.c.length - 1 - n=k+1:=by omega
      have hkl:k < t.c.length:=by omega
      rw [← hk] at p33 w
      have hle:=ok.le hkl
      have hR:=rateP_lt t
      obtain ⟨Q,hQ⟩:∃ Q,Q=2 ^ rateP t:=⟨_,rfl⟩
      obtain ⟨R,hRe⟩:∃ R,R=rateP t:=⟨_,rfl⟩
      have hset:=mix_set (adF t s) (nth t.c) t.c.length k
      have hnth:=mix_nth (adF t s) (nth t.c) (j:=k) hkl
      rw [if_neg (Nat.lt_irrefl k)] at hnth
      have hml:=mix_length (adF t s) (nth t.c) t.c.length k
      have hF:adF t s k=if k < s then nth t.c k - nth t.c k / Q else nth t.c k+(32768 - nth t.c k) / Q:=by
       rw [adF,if_neg (by omega),← hQ]
      obtain ⟨c,hc⟩:∃ c,c=nth t.c k:=⟨_,rfl⟩
      rw [← hc] at hnth hF hle
      obtain ⟨l,hl⟩:∃ l,l=mix (adF t s) (nth t.c) t.c.length k:=⟨_,rfl⟩
      rw [← hl] at w hset hnth hml
      have hget:=wordsV_get l k (by omega)
      rw [hnth] at hget
      have hqg:g.get q=some (.cells [.sl b 0 t.c.length (.op 1),.int .i64 m] 76 false):=by rw [x q (H.get_lt hq) hqb,hq]
      have z1:IntKind.i64.wrap ((k:Int)+1)=k+1:=by have:=ok.1;exact wi64 (by omega) (by omega)
      have hmin:min R IntKind.u16.bits=R:=Nat.min_eq_left (by rw [hRe,show IntKind.u16.bits=16 from rfl];omega)
      have zf:∀ y:Int,y.fdiv (2 ^ R)=y / (Q:Int):=fun y=>by
       rw [Int.fdiv_eq_ediv_of_nonneg _ (Int.pow_nonneg (by decide)),hQ,hRe];simp
      rw [← hRe] at p6
      have hQ1:1≤Q:=by rw [hQ];exact Nat.two_pow_pos _
      have d1:=Nat.div_le_self c Q
      have d2:=Nat.div_le_self (32768 - c) Q
      have z3:IntKind.u16.wrap (32768 - (c:Int))=((32768 - c:Nat):Int):=by rw [wu16 (by omega) (by omega)];omega
      have hwr:=fun v=>wr1_of w (o:=k) (by rw [wordsV_length];omega) v
      have hxx:∀ g2,g2=g.put b (.cells (wordsV (mix (adF t s) (nth t.c) t.c.length (k+1))) 97 false)→(∀ d,d < h0.n→d ≠ b→g2.get d=h0.get d)∧h0.n≤g2.n∧g2.get b=some (.cells (wordsV (mix (adF t s) (nth t.c) t.c.length (k+1))) 97 false):=by
       intro g2 hg2
       exact ⟨fun d hd hdb=>by rw [hg2,get_put_ne hdb,x d hd hdb],by rw [hg2,H.n_put];exact gn,by rw [hg2,get_put_same (H.get_lt w)]⟩
      obtain ⟨g2,hg2⟩:∃ g2,g2=g.put b (.cells (wordsV (mix (adF t s) (nth t.c) t.c.length (k+1))) 97 false):=⟨_,rfl⟩
      obtain ⟨y1,y2,y3⟩:=hxx g2 hg2
      have hs2:=wordsV_set l k (adF t s k)
      rw [hset] at hs2
      have b1:c - c / Q≤32768:=Nat.le_trans (Nat.sub_le _ _) hle
      have b2:c+(32768 - c) / Q≤32768:=by generalize (32768 - c) / Q=a at *;omega
      by_cases hs:k < s
      ·rw [if_pos hs] at hF
       have e1:((c - c / Q:Nat):Int)=(c:Int) - (c:Int) / (Q:Int):=by rw [Int.ofNat_sub d1,Int.natCast_ediv]
       have z4:IntKind.u16.wrap ((c:Int) - (c:Int) / (Q:Int))=((adF t s k:Nat):Int):=by
        rw [hF,← e1];exact wu16 (Int.natCast_nonneg _) (by omega)
       simp [l91_0,p33,p32,show k < t.c.length - 1 by omega,show (k:Int) < ((t.c.length - 1:Nat):Int) by omega,p31,rd1_of w,hget,p1,hs,p7,rd1_of hqg,hkl,p6,show ¬ (R:Int) < 0 by omega,hmin,zf,z4,hwr,hs2,z1,← hg2]
       exact ⟨n,Nat.lt_succ_self n,by omega,y1,y2,by rw [hk2];exact y3,by simp [p1],by simp [p4],by simp [p6,hRe],by simp [p7],by simp [p31],by simp [p32],by simp [hk2]⟩
      ·rw [if_neg hs] at hF
       have e1:((c+(32768 - c) / Q:Nat):Int)=(c:Int)+((32768 - c:Nat):Int) / (Q:Int):=by rw [Int.natCast_add,Int.natCast_ediv]
       have z4:IntKind.u16.wrap ((c:Int)+((32768 - c:Nat):Int) / (Q:Int))=((adF t s k:Nat):Int):=by
        rw [hF,← e1];exact wu16 (Int.natCast_nonneg _) (by omega)
       simp [l91_0,p33,p32,show k < t.c.length - 1 by omega,show (k:Int) < ((t.c.length - 1:Nat):Int) by omega,p31,rd1_of w,hget,p1,hs,p7,rd1_of hqg,hkl,p6,show ¬ (R:Int) < 0 by omega,hmin,z3,zf,z4,hwr,hs2,z1,← hg2]
       exact ⟨n,Nat.lt_succ_self n,by omega,y1,y2,by rw [hk2];exact y3,by simp [p1],by simp [p4],by simp [p6,hRe],by simp [p7],by simp [p31],by simp [p32],by simp [hk2]⟩)
  obtain ⟨⟨x,e',g'⟩,r1,r2,r3⟩:=loop n e g hi
  simp only at r2 r3
  subst r2
  exact ⟨e',g',r1,r3⟩
def NewT (p:Nat) (h:H) (v:V) (t:Tb):Prop:=∃ vc,v=.agg [vc,.int .i64 t.n]∧U16 (fun b=>p≤b) h vc t.c
theorem adapt35_ok {D:Nat→Prop} {h:H} {v:V} {t:Tb} (u:U16 D h v t.c) (ok:TabOk t) {s:Nat} (hs:s < t.c.length) :
   RT (fun w h'=>∃ vt,w=.tup [vt,.int .i64 0]∧NewT h.n h' vt (adaptP t s)∧Ext h h') (KW 91 [.agg [v,.int .i64 t.n],.int .i64 s] h):=by
  have l1:=ok.1
  obtain ⟨h1,b1,x1,g1,n1,u1⟩:=box72 u
  obtain ⟨h2,hh2⟩:∃ g,g=h1.new (.cells [.nils,.int .i64 0] 76 false):=⟨_,rfl⟩
  have x2:Ext h1 h2:=by rw [hh2];exact (Ext.refl h1).new _
  have n2:h2.n=h1.n+1:=by rw [hh2,H.n_new]
  have r2:h2.get h1.n=some (.cells [.nils,.int .i64 0] 76 false):=by rw [hh2,get_new_same]
  have u2:=u1.ext x2
  obtain ⟨w,h3,e3,rfl,x3⟩:=(asked59_ok u2 (by omega) (s:Int)).elim
  rw [show decide (TabOk t∧0≤(s:Int)∧(s:Int) < t.c.length)=true by rw [decide_eq_true_eq];exact ⟨ok,by omega,by omega⟩] at e3
  have u3:=u2.ext x3
  obtain ⟨w,h4,e4,rfl,x4⟩:=(rate60_ok u3 ok).elim
  have u4:=u3.ext x4
  obtain ⟨vc,h5,e5,k5,x5,q5⟩:=(clone61_ok u4 (by omega)).elim
  obtain ⟨b,rfl⟩:=q5 (by omega)
  have hb5:h5.get b=some (.cells (wordsV t.c) 97 false)∧h4.n≤b:=by
   rcases k5 with ⟨e,_⟩ | ⟨b',k',e,a1,a2,a3⟩
   ·cases e
   ·cases e;exact ⟨a1,a3.1⟩
  obtain ⟨hb5,hb4⟩:=hb5
  have ge2:h2.get h.n=_:=(x2.get _ (H.get_lt g1)).trans g1
  have ge3:h3.get h.n=_:=(x3.get _ (H.get_lt ge2)).trans ge2
  have ge4:h4.get h.n=_:=(x4.get _ (H.get_lt ge3)).trans ge3
  have ge5:h5.get h.n=_:=(x5.get _ (H.get_lt ge4)).trans ge4
  have ra3:h3.get h1.n=_:=(x3.get _ (H.get_lt r2)).trans r2
  have ra4:h4.get h1.n=_:=(x4.get _ (H.get_lt ra3)).trans ra3
  have ra5:h5.get h1.n=_:=(x5.get _ (H.get_lt ra4)).trans ra4
  obtain ⟨m,hm⟩:∃ m,m=min (t.n+1) 32:=⟨_,rfl⟩
  have zn:IntKind.i64.wrap (t.n+1)=t.n+1:=by have:=ok.2.1;exact wi64 (by omega) (by omega)
  have hmin:(if (32:Int) < t.n+1 then (32:Int) else t.n+1)=m:=by rw [hm];split <;> omega
  obtain ⟨h6,hh6⟩:∃ g,g=(h5.new (.cells [.nils,.int .i64 0] 76 false)).put h5.n (.cells [.sl b 0 t.c.length (.op 1),.int .i64 m] 76 false):=⟨_,rfl⟩
  have x6:Ext h5 h6:=by rw [hh6];exact ((Ext.refl h5).new _).put (Nat.le_refl _) _
  have n6:h6.n=h5.n+1:=by rw [hh6,H.n_put,H.n_new]
  have g6:h6.get h5.n=some (.cells [.sl b 0 t.c.length (.op 1),.int .i64 m] 76 false):=by rw [hh6,get_put_same (by rw [H.n_new];omega)]
  have ge6:h6.get h.n=_:=(x6.get _ (H.get_lt ge5)).trans ge5
  have ra6:h6.get h1.n=_:=(x6.get _ (H.get_lt ra5)).trans ra5
  have hb6:h6.get b=_:=(x6.get _ (H.get_lt hb5)).trans hb5
  have hbl:=H.get_lt hb5
  have zl:IntKind.i64.wrap ((t.c.length:Int) - 1)=((t.c.length - 1:Nat):Int):=by rw [wi64 (by omega) (by omega)];omega
  have hsl:slS 1 (.sl b 0 t.c.length (.op 1)) none (some (.int .i64 ((t.c.length - 1:Nat):Int))) none=some (.sl b 0 (t.c.length - 1) (.op 1)):=by
   simp [slS,optB,sbV]
  obtain ⟨e',g',r1,I⟩:=loop35 (h0:=h6) (t:=t) (s:=s) (p:=h1.n) (q:=h5.n) (b:=b) (m:=m) ok g6 (by omega) (n:=t.c.length - 1)
   (e:=⟨[.agg [v,.int .i64 t.n],.int .i64 s,.ptr h.n 0,.ptr h1.n 0,.int .i64 0,.int .i64 (rateP t:Nat),.ptr h5.n 0,.tup [],.tup [],.sl b 0 (t.c.length - 1) (.op 1),.int .i64 ((t.c.length - 1:Nat):Int),.int .i64 0],33,.int .i64 0⟩) (g:=h6)
   ⟨Nat.le_refl _,fun c _ _=>rfl,Nat.le_refl _,by rw [Nat.sub_self,mix_zero];exact hb6,by simp,by simp,by simp,by simp,by simp,by simp,by simp⟩
  obtain ⟨_,xx,gn,gw,p1,p4,p6,p7,p31,p32,p33⟩:=I
  have x7:∀ c,c < h4.n→g'.get c=h4.get c:=fun c hc=>by
   have:=x5.n;have:=x6.n
   rw [xx c (by omega) (by omega),x6.get c (by omega),x5.get c hc]
  have ra7:g'.get h1.n=_:=(x7 _ (H.get_lt ra4)).trans ra4
  have q7:g'.get h5.n=_:=(xx h5.n (by omega) (by omega)).trans g6
  obtain ⟨h8,hh8⟩:∃ g,g=g'.put h1.n (.cells [.sl b 0 t.c.length (.op 1),.int .i64 m] 76 false):=⟨_,rfl⟩
  have r8:h8.get h1.n=some (.cells [.sl b 0 t.c.length (.op 1),.int .i64 m] 76 false):=by rw [hh8,get_put_same (H.get_lt ra7)]
  have b8:h8.get b=_:=(show h8.get b=g'.get b by rw [hh8,get_put_ne (by have:=H.get_lt ra4;omega)]).trans gw
  rw [w91,f91,s91]
  simp [b1,nw,← hh2,rdN_of (o:=0) (n:=2) ge2 (by simp),e3,rdN_of (o:=0) (n:=2) ge3 (by simp),e4,rd1_of ge4,e5,rd1_of ge5,zn,hmin,bl,fillW,splice,wrN_of (o:=0) get_new_same,← hh6,u.1.ck,rd1_of g6,rd1_of ge6,u.1.len,zl,hsl,r1,p7,rdN_of (o:=0) (n:=2) q7 (by simp),p4,wrN_of (o:=0) ra7,← hh8,rdN_of (o:=0) (n:=2) r8 (by simp)]
  have hx4:Ext h h4:=((x1.trans x2).trans x3).trans x4
  refine ⟨_,rfl,⟨_,by rw [hm];rfl,?_,?_⟩,?_⟩
  ·rw [Nat.sub_zero,mix_all] at b8
   rw [adaptP_len]
   refine SlR.of b8 ?_ ?_
   ·rw [wordsV_length,adaptP_len];omega
   ·have:=x1.n;have:=x2.n;have:=x3.n;have:=x4.n;show h.n≤b;omega
  ·intro y hy
   obtain ⟨i,hi,rfl⟩:=List.getElem_of_mem hy
   rw [← nth_of hi]
   rw [adaptP_len] at hi
   rw [adaptP_nth hi]
   have:=adF_le ok s hi
   omega
  ·refine ⟨by rw [hh8,H.n_put];have:=hx4.n;have:=x5.n;omega,fun c hc=>?_⟩
   have:=x1.n;have:=hx4.n
   rw [hh8,get_put_ne (by omega),x7 c (by omega),hx4.get c hc]
open Go.Zf (wi64)
theorem loop62 {D:Nat→Prop} {g:H} {v:V} {t:Tb} {b:Nat} (u:U16 D g v t.c) (hb:g.get b=some (.cells [v,.int .i64 t.n] 76 false)) (hl:t.c.length < 1000) (en:E) (he1:en.s [0,1,2,3,4] 1=.ptr b 0) (he3:en.s [0,1,2,3,4] 3=.int .i64 t.c.length) (he4:en.s [0,1,2,3,4] 4=.int .i64 1) (h2:2≤t.c.length) :
   ∃ s,loopZ (l66_0 KW loopZ) en g=some s∧s.h=g∧((s.x=.ex 0∧Sorted t.c)∨(s.x=.rt∧s.e.s [0,1,2,3,4] 2=.int .i64 2∧¬ Sorted t.c)):=by
  have loop:=loop_run (body:=l66_0 KW loopZ) (fun n e h=>h=g∧n < t.c.length∧e.s [0,1,2,3,4] 1=.ptr b 0∧e.s [0,1,2,3,4] 3=.int .i64 t.c.length∧e.s [0,1,2,3,4] 4=.int .i64 ((t.c.length - n:Nat):Int)∧∀ j,j+1 < t.c.length - n→nth t.c j≤nth t.c (j+1))
   (fun s=>s.h=g∧((s.x=.ex 0∧Sorted t.c)∨(s.x=.rt∧s.e.s [0,1,2,3,4] 2=.int .i64 2∧¬ Sorted t.c)))
   (fun n e h ⟨hg,hn,p1,p3,p4,hs⟩=>by
    subst hg
    cases n with
    | zero =>
      simp [l66_0,p3,p4]
      exact ⟨rfl,.inl ⟨rfl,fun j hj=>hs j (by omega)⟩⟩
    | succ n =>
      obtain ⟨k,hk⟩:∃ k,k+1=t.c.length - (n+1):=⟨t.c.length - (n+1) - 1,by omega⟩
      have hk2:t.c.length - n=k+2:=by omega
      rw [← hk] at p4 hs
      obtain ⟨b1,o1,q1,q2,_⟩:=u.at (i:=k+1) (by omega)
      obtain ⟨b2,o2,r1,r2,_⟩:=u.at (i:=k) (by omega)
      have q1':iaS 1 v (.int .i64 ((k:Int)+1))=some (.ptr b1 o1):=by simpa using q1
      have z1:IntKind.i64.wrap (k:Int)=k:=wi64 (by omega) (by omega)
      have z2:IntKind.i64.wrap ((k:Int)+1+1)=(k:Int)+1+1:=wi64 (by omega) (by omega)
      by_cases hc:nth t.c (k+1) < nth t.c k
      ·simp [l66_0,p3,p4,show (k:Int)+1 < t.c.length by omega,show k+1 < t.c.length by omega,p1,rd1_of hb,q1',q2,z1,r1,r2,u.1.ck,hc]
       exact ⟨rfl,.inr ⟨rfl,by simp,fun hS=>by have:=hS k (by omega);omega⟩⟩
      ·simp [l66_0,p3,p4,show (k:Int)+1 < t.c.length by omega,show k+1 < t.c.length by omega,p1,rd1_of hb,q1',q2,z1,r1,r2,u.1.ck,hc,z2]
       refine ⟨n,Nat.lt_succ_self n,rfl,by omega,by simp [p1],by simp [p3],by simp [hk2];omega,fun j hj=>?_⟩
       by_cases e:j=k
       ·subst e;omega
       ·exact hs j (by omega))
  exact loop (t.c.length - 1) en g ⟨rfl,by omega,he1,he3,by rw [he4];simp;omega,fun j hj=>by omega⟩
theorem check62_ok {D:Nat→Prop} {h:H} {v:V} {t:Tb} (u:U16 D h v t.c) (hl:t.c.length < 1000):RT (fun w h'=>w=.int .i64 (if TabOk t then 0 else 2)∧Ext h h') (KW 66 [.agg [v,.int .i64 t.n]] h):=by
  obtain ⟨h1,b1,x1,g1,n1,u1⟩:=box72 u
  have ul:=u1.1.len
  rw [w66,f66,s66]
  by_cases c1:t.c.length < 2
  ·simp [b1,rd1_of g1,ul,show (t.c.length:Int) < 2 by omega,gl_t]
   exact ⟨by rw [if_neg];intro a;have:=a.1;omega,x1⟩
  ·by_cases c2:16 < t.c.length
   ·simp [b1,rd1_of g1,ul,show ¬ (t.c.length:Int) < 2 by omega,show (16:Int) < t.c.length by omega,gl_t]
    exact ⟨by rw [if_neg];intro a;have:=a.1;omega,x1⟩
   ·by_cases c3:t.n < 0
    · simp [b1,rd1_of g1,ul,show ¬ (t.c.length:Int) < 2 by omega,show ¬ (16:Int) < t.c.length by omega,c3,gl_t]
      exact ⟨by rw [if_neg];intro a;have:=a.2.1;omega,x1⟩
    · by_cases c4:32 < t.n
      ·simp [b1,rd1_of g1,ul,show ¬ (t.c.length:Int) < 2 by omega,show ¬ (16:Int) < t.c.length by omega,c3,c4,gl_t]
       exact ⟨by rw [if_neg];intro a;have:=a.2.1;omega,x1⟩
      ·obtain ⟨b,o,q1,q2,_⟩:=u1.at (i:=t.c.length - 1) (by omega)
       have z1:IntKind.i64.wrap ((t.c.length:Int) - 1)=((t.c.length - 1:Nat):Int):=by rw [wi64 (by omega) (by omega)];omega
       obtain ⟨x,hx⟩:∃ x,x=nth t.c (t.c.length - 1):=⟨_,rfl⟩
       rw [← hx] at q2
       by_cases c6:x=32768
       ·obtain ⟨⟨sx,se,sh⟩,r1,r2,r3⟩:=loop62 u1 g1 hl ⟨[.agg [v,.int .i64 t.n],.ptr h.n 0,.int .i64 0,.int .i64 t.c.length,.int .i64 1],4,.int .i64 1⟩ (by simp) (by simp) (by simp) (by omega)
        simp only at r2 r3
        subst r2
        have c6':(x:Int)=32768:=by omega
        rcases r3 with ⟨rfl,hs⟩ | ⟨rfl,p2,hs⟩
        ·simp [b1,rd1_of g1,ul,show ¬ (t.c.length:Int) < 2 by omega,show ¬ (16:Int) < t.c.length by omega,c3,c4,z1,q1,q2,c6,r1]
         exact ⟨by rw [if_pos ⟨⟨by omega,by omega⟩,⟨by omega,by omega⟩,hs,by rw [← hx,c6]⟩],x1⟩
        ·simp [b1,rd1_of g1,ul,show ¬ (t.c.length:Int) < 2 by omega,show ¬ (16:Int) < t.c.length by omega,c3,c4,z1,q1,q2,c6,r1,p2]
         exact ⟨by rw [if_neg];intro a;exact hs a.2.2.1,x1⟩
       ·have c6':¬ (x:Int)=32768:=by omega
        simp [b1,rd1_of g1,ul,show ¬ (t.c.length:Int) < 2 by omega,show ¬ (16:Int) < t.c.length by omega,c3,c4,z1,q1,q2,c6,c6']
        exact ⟨by rw [if_neg];intro a;exact c6 (by rw [hx];exact a.2.2.2),x1⟩
theorem end89_ok {D:Nat→Prop} {h:H} {v:V} {t:Tb} (u:U16 D h v t.c) (ok:TabOk t) {j:Nat} (hj:j≤t.c.length):RT (fun w h'=>w=.int .i64 (pt t j:Nat)∧Ext h h') (KW 103 [.agg [v,.int .i64 t.n],.int .i64 ((j:Int) - 1)] h):=by
  obtain ⟨h1,b1,x1,g1,n1,u1⟩:=box72 u
  have ul:=u1.1.len
  rw [w103,f103,s103]
  cases j with
  | zero =>
   simp [b1]
   exact ⟨by simp [pt],x1⟩
  | succ s =>
   obtain ⟨b,o,q1,q2,_⟩:=u1.at (i:=s) (by omega)
   have hc:=ok.le (i:=s) (by omega)
   obtain ⟨x,hx⟩:∃ x,x=nth t.c s:=⟨_,rfl⟩
   obtain ⟨n,hn⟩:∃ n,n=t.c.length:=⟨_,rfl⟩
   have hp:=pt_succ t s
   have hpl:=pt_le ok hj
   rw [hp,← hx,← hn] at hpl
   rw [← hx] at q2 hc
   rw [hp,← hx,← hn]
   rw [← hn] at ul hj
   have l1:=ok.1.1
   have l2:=ok.1.2
   rw [← hn] at l1 l2
   have zs:((s+1:Nat):Int) - 1=(s:Int):=by omega
   have z1:IntKind.i64.wrap (x:Int)=x:=wi64 (by omega) (by omega)
   have z2:IntKind.i64.wrap (4*(n:Int))=4*n:=wi64 (by omega) (by omega)
   have z3:IntKind.i64.wrap (32768 - 4*(n:Int))=32768 - 4*n:=wi64 (by omega) (by omega)
   have m1:=mul_bd (a:=(x:Int)) (b:=32768 - 4*(n:Int)) (A:=32768) (B:=32768) (by omega) (by omega) (by omega) (by omega)
   obtain ⟨m,hm⟩:∃ m,m=(x:Int)*(32768 - 4*n):=⟨_,rfl⟩
   rw [← hm] at m1
   have z5:IntKind.i64.wrap m=m:=wi64 (by omega) (by omega)
   have z6:IntKind.i64.wrap ((s:Int)+1)=s+1:=wi64 (by omega) (by omega)
   have z7:IntKind.i64.wrap (4*((s:Int)+1))=4*(s+1):=wi64 (by omega) (by omega)
   have hd:m.tdiv 32768=m / 32768:=Int.tdiv_eq_ediv_of_nonneg m1.1
   have z8:IntKind.i64.wrap (m / 32768)=m / 32768:=wi64 (by omega) (by omega)
   have e1:((x*(32768 - 4*n) / 32768+4*(s+1):Nat):Int)=m / 32768+4*(s+1):=by
    rw [hm,Int.natCast_add,Int.natCast_ediv,Int.natCast_mul,Int.ofNat_sub (by omega)];simp
   have z9:IntKind.i64.wrap (m / 32768+4*((s:Int)+1))=m / 32768+4*(s+1):=wi64 (by omega) (by omega)
   rw [zs,e1]
   simp [b1,show ¬ (s:Int) < 0 by omega,rd1_of g1,ul,q1,q2,z1,z2,z3,← hm,z5,hd,z8,z6,z7,z9,u1.1.ck]
   exact ⟨rfl,x1⟩
theorem bounds69_ok {D:Nat→Prop} {h:H} {v:V} {t:Tb} (u:U16 D h v t.c) (ok:TabOk t) {s:Nat} (hs:s < t.c.length):RT (fun w h'=>w=.tup [.int .u32 (pt t s:Nat),.int .u32 (pt t (s+1):Nat),.int .i64 0]∧Ext h h') (KW 74 [.agg [v,.int .i64 t.n],.int .i64 s] h):=by
  obtain ⟨h1,b1,x1,g1,n1,u1⟩:=box72 u
  have hl:t.c.length < 1000:=by have:=ok.1;omega
  obtain ⟨w,h2,e2,rfl,x2⟩:=(check62_ok u1 hl).elim
  rw [if_pos ok] at e2
  obtain ⟨w,h3,e3,rfl,x3⟩:=(end89_ok (u1.ext x2) ok (j:=s) (by omega)).elim
  obtain ⟨w,h4,e4,rfl,x4⟩:=(end89_ok ((u1.ext x2).ext x3) ok (j:=s+1) (by omega)).elim
  rw [show ((s+1:Nat):Int) - 1=(s:Int) by omega] at e4
  have g2:h2.get h.n=_:=(x2.get _ (H.get_lt g1)).trans g1
  have g3:h3.get h.n=_:=(x3.get _ (H.get_lt g2)).trans g2
  have z:IntKind.i64.wrap ((s:Int) - 1)=(s:Int) - 1:=wi64 (by omega) (by omega)
  have p1:=pt_le ok (j:=s) (by omega)
  have p2:=pt_le ok (j:=s+1) (by omega)
  have z2:IntKind.u32.wrap ((pt t s:Nat):Int)=(pt t s:Nat):=wu32 (by omega) (by omega)
  have z3:IntKind.u32.wrap ((pt t (s+1):Nat):Int)=(pt t (s+1):Nat):=wu32 (by omega) (by omega)
  rw [w74,f74,s74]
  simp [b1,rdN_of (o:=0) (n:=2) g1 (by simp),rdN_of (o:=0) (n:=2) g2 (by simp),rdN_of (o:=0) (n:=2) g3 (by simp),e2,show ¬ (s:Int) < 0 by omega,rd1_of g2,u.1.len,hs,e3,e4,z,z2,z3,ck,V.same,V.sames,u.1.same,show ¬ (t.c.length:Int)≤s by omega,show ¬ t.c.length≤s by omega]
  exact ⟨rfl,((x1.trans x2).trans x3).trans x4⟩
theorem find72_ok {D:Nat→Prop} {h:H} {v:V} {t:Tb} (u:U16 D h v t.c) (ok:TabOk t) {at_:Nat} (ha:at_ < 32768):RT (fun w h'=>w=.tup [.int .i64 (findP t at_:Nat),.int .i64 0]∧Ext h h') (KW 77 [.agg [v,.int .i64 t.n],.int .u32 at_] h):=by
  obtain ⟨h1,b1,x1,g1,n1,u1⟩:=box72 u
  have hl:t.c.length < 1000:=by have:=ok.1;omega
  obtain ⟨w,h2,e2,rfl,x2⟩:=(check62_ok u1 hl).elim
  rw [if_pos ok] at e2
  have za:IntKind.i64.wrap (at_:Int)=at_:=wi64 (by omega) (by omega)
  have loop:=loop_run (body:=l77_0 KW loopZ) (fun n e g=>Ext h2 g∧n≤t.c.length∧0 < n∧e.s [0,1,2,4,5,6] 1=.int .u32 at_∧e.s [0,1,2,4,5,6] 2=.ptr h.n 0∧e.s [0,1,2,4,5,6] 6=.int .i64 ((t.c.length - n:Nat):Int)∧∀ j,j < t.c.length - n→pt t (j+1)≤at_)
   (fun s=>Ext h2 s.h∧s.x=.ex 0∧s.e.s [0,1,2,4,5,6] 6=.int .i64 (findP t at_:Nat))
   (fun n e g ⟨xg,hn,hn0,p1,p2,p6,hj⟩=>by
    obtain ⟨k,hk⟩:∃ k,k=t.c.length - n:=⟨_,rfl⟩
    rw [← hk] at p6 hj
    have gg:g.get h.n=_:=(xg.get _ (by have:=x2.n;omega)).trans ((x2.get _ (H.get_lt g1)).trans g1)
    obtain ⟨w,h3,e3,rfl,x3⟩:=(end89_ok ((u1.ext x2).ext xg) ok (j:=k+1) (by omega)).elim
    rw [show ((k+1:Nat):Int) - 1=(k:Int) by omega] at e3
    by_cases hc:pt t (k+1)≤at_
    · have z:IntKind.i64.wrap ((k:Int)+1)=k+1:=wi64 (by omega) (by omega)
      have hn1:n ≠ 1:=by
       intro e;subst e
       have:k+1=t.c.length:=by omega
       rw [this,pt_last ok] at hc;omega
      simp [l77_0,p2,rdN_of (o:=0) (n:=2) gg (by simp),p6,e3,p1,za,hc,z]
      refine ⟨n - 1,by omega,xg.trans x3,by omega,by omega,by simp [p1],by simp [p2],by simp;omega,fun j hj2=>?_⟩
      by_cases e:j=k
      ·subst e;exact hc
      ·exact hj j (by omega)
    · simp [l77_0,p2,rdN_of (o:=0) (n:=2) gg (by simp),p6,e3,p1,za,hc]
      refine ⟨xg.trans x3,rfl,?_⟩
      rw [findP_eq (s:=k) (by omega) (by omega) hj]
      simp [p6])
  obtain ⟨s,r1,r2,r3,r4⟩:=loop t.c.length ⟨[.agg [v,.int .i64 t.n],.int .u32 at_,.ptr h.n 0,.int .i64 0,.int .i64 0,.int .i64 0],6,.int .i64 0⟩ h2 ⟨Ext.refl h2,Nat.le_refl _,by have:=ok.1;omega,by simp,by simp,by simp,fun j hj=>by omega⟩
  obtain ⟨x,e',h'⟩:=s
  simp only at r2 r3 r4
  subst r3
  rw [w77,f77,s77]
  simp [b1,rdN_of (o:=0) (n:=2) g1 (by simp),e2,show ¬ (32767:Int) < at_ by omega,r1,r4,show ¬ 32767 < at_ by omega]
  exact ⟨rfl,(x1.trans x2).trans r2⟩
open Go.Zf (wi64)
theorem log91_ok {n:Nat} (h1:2≤n) (h2:n≤16) (h:H):∃ m:Nat,KW 105 [.int .i64 n] h=some (.ret (.int .i64 m),h)∧min m 2=(if n < 4 then 1 else 2)∧m < 10:=by
  have loop:=loop_run (body:=l105_0 KW loopZ) (fun x e g=>g=h∧1≤x∧e.s [0,2,3] 0=.int .i64 x∧∃ k:Nat,e.s [0,2,3] 3=.int .i64 k∧x*2 ^ k≤n∧n < (x+1)*2 ^ k∧k < 5)
   (fun s=>s.h=h∧s.x=.ex 0∧∃ k:Nat,s.e.s [0,2,3] 3=.int .i64 k∧2 ^ k≤n∧n < 2*2 ^ k∧k < 5)
   (fun x e g ⟨hg,hx,p0,k,p3,a1,a2,a3⟩=>by
    subst hg
    by_cases hc:1 < x
    · have hd:(x:Int).tdiv 2=((x / 2:Nat):Int):=by rw [Int.tdiv_eq_ediv_of_nonneg (by omega)];simp
      have hxn:x≤16:=by have:=Nat.le_mul_of_pos_right x (Nat.two_pow_pos k);omega
      have z1:IntKind.i64.wrap ((x / 2:Nat):Int)=((x / 2:Nat):Int):=wi64 (by omega) (by omega)
      have z2:IntKind.i64.wrap ((k:Int)+1)=k+1:=wi64 (by omega) (by omega)
      simp [l105_0,p0,hc,show (1:Int) < x by omega,hd,p3,z2]
      have e1:x / 2*2 ^ (k+1)≤x*2 ^ k:=by
       rw [Nat.pow_succ,← Nat.mul_assoc,Nat.mul_comm (x / 2) (2 ^ k),Nat.mul_assoc,Nat.mul_comm x]
       exact Nat.mul_le_mul_left _ (by omega)
      have e2:(x+1)*2 ^ k≤(x / 2+1)*2 ^ (k+1):=by
       rw [Nat.pow_succ,← Nat.mul_assoc,Nat.mul_comm (x / 2+1) (2 ^ k),Nat.mul_assoc,Nat.mul_comm (x+1)]
       exact Nat.mul_le_mul_left _ (by omega)
      refine ⟨x / 2,by omega,rfl,by omega,by simp;exact z1,k+1,by simp,by omega,by omega,?_⟩
      have h16:x / 2*2 ^ (k+1)≤16:=by omega
      have:=Nat.le_mul_of_pos_left (2 ^ (k+1)) (show 0 < x / 2 by omega)
      have h17:2 ^ (k+1)≤2 ^ 4:=by omega
      have:=(Nat.pow_le_pow_iff_right (by decide)).mp h17
      omega
    · have:x=1:=by omega
      subst this
      simp [l105_0,p0]
      exact ⟨rfl,rfl,k,by simp [p3],by omega,by omega,a3⟩)
  obtain ⟨⟨sx,se,sh⟩,r1,r2,r3,k,r4,r5,r6,r7⟩:=loop n ⟨[.int .i64 n,.int .i64 0,.int .i64 0],3,.int .i64 0⟩ h ⟨rfl,by omega,by simp,0,by simp,by simp,by simp,by omega⟩
  simp only at r2 r3 r4
  subst r2 r3
  refine ⟨k,?_,?_,by omega⟩
  ·rw [w105,f105,s105]
   simp [r1,r4]
  ·have hk:k=0∨k=1∨k=2∨k=3∨k=4:=by omega
   rcases hk with rfl | rfl | rfl | rfl | rfl <;> split <;> omega
structure Box (q:Nat) (u:Int) (l:List Nat) (g:H) (sv:V):Prop where
  b:g.get q=some (.cells [sv,.int .i64 u] 76 false)
  s:GrowV (q+1) g sv 97 1 (wordsV l) l.length
theorem Box.push {q:Nat} {u:Int} {l:List Nat} {g:H} {sv:V} (a:Box q u l g sv) (x:Nat) (hl:l.length < 100000) :
   ∃ v' g1 g2,apZ 97 1 2 (g.new (.cells [.int .u16 x] 97 false)) sv (.sl g.n 0 1 (.ex 1))=some (v',g1)∧g1.wr1 q 0 v'=some g2∧(∀ h b o,stZ 1 h (.ptr b o) v'=(h.wr1 b o v').bind fun h'=>some (.und,h'))∧Box q u (l ++ [x]) g2 v'∧(∀ c,c < q→g2.get c=g.get c)∧g.n≤g2.n:=by
  have hq:=H.get_lt a.b
  obtain ⟨v',g1,k1,k2,k3,k4⟩:=push1 (bytes:=2) (.int .u16 x) a.s (by omega) (by omega)
  have hb1:g1.get q=some (.cells [sv,.int .i64 u] 76 false):=by rw [k4 q hq (a.s.fresh.ne (by omega)),a.b]
  refine ⟨v',g1,_,k1,by rw [wr1_of hb1 (by simp)],k2.stZ,⟨by rw [get_put_same (H.get_lt hb1)];rfl,?_⟩,fun c hc=>by rw [get_put_ne (by omega),k4 c (by omega) (a.s.fresh.ne (by omega))],by rw [H.n_put];exact k3⟩
  rw [wordsV_append,List.length_append]
  exact k2.put (k2.fresh.ne (by omega))
def tabN (f:Nat→Nat) (m:Nat):List Nat:=(List.range m).map f
theorem tabN_length (f:Nat→Nat) (m:Nat):(tabN f m).length=m:=by simp [tabN]
theorem tabN_succ (f:Nat→Nat) (m:Nat):tabN f (m+1)=tabN f m ++ [f m]:=by simp [tabN,List.range_succ]
structure I74 (h0:H) (t:Tb) (s a q p Q:Nat) (n:Nat) (e:E) (g:H):Prop where
  hn:n≤t.c.length
  x:∀ c,c < q→g.get c=h0.get c
  gn:h0.n≤g.n
  b:∃ sv,Box q (min (t.n+1) 32) (tabN (adF t s) (t.c.length - n)) g sv
  p1:e.s [0,1,2,4,5,6,7,8,9,10,11,12] 1=.int .i64 s
  p2:e.s [0,1,2,4,5,6,7,8,9,10,11,12] 2=.ptr a 0
  p4:e.s [0,1,2,4,5,6,7,8,9,10,11,12] 4=.ptr p 0
  p6:e.s [0,1,2,4,5,6,7,8,9,10,11,12] 6=.int .i64 t.c.length
  p8:e.s [0,1,2,4,5,6,7,8,9,10,11,12] 8=.int .i64 Q
  p10:e.s [0,1,2,4,5,6,7,8,9,10,11,12] 10=.ptr q 0
  p11:e.s [0,1,2,4,5,6,7,8,9,10,11,12] 11=.int .i64 ((t.c.length - n:Nat):Int)
theorem loop74 {D:Nat→Prop} {h0:H} {v:V} {t:Tb} {s a q p Q:Nat} (hQ:Q=2 ^ rateP t) (ok:TabOk t) (u:U16 D h0 v t.c) (ha:h0.get a=some (.cells [v,.int .i64 t.n] 76 false)) (hq:∀ c,c < h0.n→c ≠ q→c < q) (haq:a < q) (hqn:q < h0.n) (huq:∀ c o k n,v=.sl c o k n→c < q) {n:Nat} {e:E} {g:H} (hi:I74 h0 t s a q p Q n e g) :
   ∃ e' g',loopZ (l79_1 KW loopZ) e g=some ⟨.ex 2,e',g'⟩∧I74 h0 t s a q p Q 0 e' g':=by
  have l1:=ok.1
  have loop:=loop_run (body:=l79_1 KW loopZ) (I74 h0 t s a q p Q) (fun s'=>s'.x=.ex 2∧I74 h0 t s a q p Q 0 s'.e s'.h)
   (fun n e g hi=>by
    obtain ⟨hn,x,gn,⟨sv,B⟩,p1,p2,p4,p6,p8,p10,p11⟩:=hi
    cases n with
    | zero =>
      simp [l79_1,p11,p6]
      exact ⟨rfl,hn,x,gn,⟨sv,B⟩,by simp [p1],by simp [p2],by simp [p4],by simp [p6],by simp [p8],by simp [p10],by simp [p11]⟩
    | succ n =>
      obtain ⟨k,hk⟩:∃ k,k=t.c.length - (n+1):=⟨_,rfl⟩
      have hk2:t.c.length - n=k+1:=by omega
      have hkl:k < t.c.length:=by omega
      rw [← hk] at p11 B
      have hle:=ok.le hkl
      have hQ1:1≤Q:=by rw [hQ];exact Nat.two_pow_pos _
      obtain ⟨b,o,q1,q2,q3⟩:=u.at (i:=k) hkl
      have hbq:b < q:=by obtain ⟨o',m',k',e⟩:=iaS_ptr q1;exact huq _ _ _ _ e
      have q2':g.rd1 b o=some (.int .u16 (nth t.c k:Nat)):=by unfold H.rd1;rw [x b hbq];exact q2
      have hag:g.get a=some (.cells [v,.int .i64 t.n] 76 false):=by rw [x a haq,ha]
      have hF:adF t s k=if k+1=t.c.length then nth t.c k else if k < s then nth t.c k - nth t.c k / Q else nth t.c k+(32768 - nth t.c k) / Q:=by
       rw [adF,← hQ]
      obtain ⟨c,hc⟩:∃ c,c=nth t.c k:=⟨_,rfl⟩
      rw [← hc] at hF hle q2'
      have hfl:=adF_le ok s hkl
      obtain ⟨F,hFe⟩:∃ F,F=adF t s k:=⟨_,rfl⟩
      rw [← hFe] at hF hfl
      obtain ⟨v',g1,g2,a1,a2,a3,a4,a5,a6⟩:=B.push F (by rw [tabN_length];omega)
      have hsv:=B.s.same
      have z0:IntKind.i64.wrap (c:Int)=c:=wi64 (by omega) (by omega)
      have z1:IntKind.i64.wrap ((t.c.length:Int) - 1)=((t.c.length - 1:Nat):Int):=by rw [wi64 (by omega) (by omega)];omega
      have z2:IntKind.i64.wrap ((k:Int)+1)=k+1:=wi64 (by omega) (by omega)
      have zF:IntKind.u16.wrap (F:Int)=F:=wu16 (by omega) (by omega)
      have zF2:IntKind.i64.wrap (F:Int)=F:=wi64 (by omega) (by omega)
      have d1:=Nat.div_le_self c Q
      have d2:=Nat.div_le_self (32768 - c) Q
      have hB:∃ sv,Box q (min (t.n+1) 32) (tabN (adF t s) (t.c.length - n)) g2 sv:=⟨v',by rw [hk2,tabN_succ,← hFe];exact a4⟩
      have hx2:∀ c,c < q→g2.get c=h0.get c:=fun c hc=>by rw [a5 c hc,x c hc]
      by_cases e1:k+1=t.c.length
      ·rw [if_pos e1] at hF
       subst hF
       simp [l79_1,p11,p6,show (k:Int) < t.c.length by omega,hkl,p2,rd1_of hag,q1,q2',z0,z1,show ¬ (k:Int) < ((t.c.length - 1:Nat):Int) by omega,show ¬ k < t.c.length - 1 by omega,gl_t,p10,rd1_of B.b,zF,bs,fillW,splice,a1,a3,a2,ck,hsv,V.same,z2]
       exact ⟨n,Nat.lt_succ_self n,by omega,hx2,by omega,hB,by simp [p1],by simp [p2],by simp [p4],by simp [p6],by simp [p8],by simp [p10],by simp [hk2]⟩
      ·rw [if_neg e1] at hF
       by_cases e2:k < s
       ·rw [if_pos e2] at hF
        obtain ⟨y,hy⟩:∃ y,y=c / Q:=⟨_,rfl⟩
        rw [← hy] at hF d1
        have t1:((c:Int)).tdiv (Q:Int)=(y:Int):=by rw [Int.tdiv_eq_ediv_of_nonneg (by omega),hy];simp
        have t2:IntKind.i64.wrap (y:Int)=y:=wi64 (by omega) (by omega)
        have t3:(c:Int) - (y:Int)=F:=by omega
        simp [l79_1,p11,p6,show (k:Int) < t.c.length by omega,hkl,p2,rd1_of hag,q1,q2',z0,z1,show (k:Int) < ((t.c.length - 1:Nat):Int) by omega,show k < t.c.length - 1 by omega,p1,show ¬ (s:Int)≤k by omega,show ¬ s≤k by omega,p8,show ¬ (Q:Int)=0 by omega,show ¬ Q=0 by omega,t1,t2,t3,zF2,zF,p10,rd1_of B.b,bs,fillW,splice,a1,a3,a2,ck,hsv,V.same,z2]
        exact ⟨n,Nat.lt_succ_self n,by omega,hx2,by omega,hB,by simp [p1],by simp [p2],by simp [p4],by simp [p6],by simp [p8],by simp [p10],by simp [hk2]⟩
       ·rw [if_neg e2] at hF
        obtain ⟨y,hy⟩:∃ y,y=(32768 - c) / Q:=⟨_,rfl⟩
        rw [← hy] at hF d2
        obtain ⟨w,hw⟩:∃ w,w=32768 - c:=⟨_,rfl⟩
        have t0:IntKind.i64.wrap (32768 - (c:Int))=w:=by rw [wi64 (by omega) (by omega)];omega
        have t1:((w:Int)).tdiv (Q:Int)=(y:Int):=by rw [Int.tdiv_eq_ediv_of_nonneg (by omega),hy,hw];simp
        have t2:IntKind.i64.wrap (y:Int)=y:=wi64 (by omega) (by omega)
        have t3:(c:Int)+(y:Int)=F:=by omega
        simp [l79_1,p11,p6,show (k:Int) < t.c.length by omega,hkl,p2,rd1_of hag,q1,q2',z0,z1,show (k:Int) < ((t.c.length - 1:Nat):Int) by omega,show k < t.c.length - 1 by omega,p1,show (s:Int)≤k by omega,show s≤k by omega,p8,show ¬ (Q:Int)=0 by omega,show ¬ Q=0 by omega,t0,t1,t2,t3,zF2,zF,p10,rd1_of B.b,bs,fillW,splice,a1,a3,a2,ck,hsv,V.same,z2]
        exact ⟨n,Nat.lt_succ_self n,by omega,hx2,by omega,hB,by simp [p1],by simp [p2],by simp [p4],by simp [p6],by simp [p8],by simp [p10],by simp [hk2]⟩)
  obtain ⟨⟨x,e',g'⟩,r1,r2,r3⟩:=loop n e g hi
  simp only at r2 r3
  subst r2
  exact ⟨e',g',r1,r3⟩
theorem SlR.under {D:Nat→Prop} {h:H} {v:V} {t z n:Nat} {cs:List V} (a:SlR D h v t z n cs):∀ c o m k,v=.sl c o m k→c < h.n:=by
  rcases a with ⟨rfl,_⟩ | ⟨b,o,k,c,rfl,hb,_⟩
  ·intro c o m k e;cases e
  ·intro c o m k e;cases e;exact H.get_lt hb
def pw (n:Nat):Nat:=2 ^ n
def Keeps (K T:List Nat) (e e0:E):Prop:=∀ i,i ∈ T→e.s K i=e0.s K i
theorem loop74p {g:H} {R:Nat} (hR:R < 8) (en:E) (e7:en.s [0,1,2,4,5,6,7,8,9,10,11,12] 7=.int .i64 R) (e8:en.s [0,1,2,4,5,6,7,8,9,10,11,12] 8=.int .i64 1) (e9:en.s [0,1,2,4,5,6,7,8,9,10,11,12] 9=.int .i64 0) :
   ∃ e',loopZ (l79_0 KW loopZ) en g=some ⟨.ex 0,e',g⟩∧e'.s [0,1,2,4,5,6,7,8,9,10,11,12] 8=.int .i64 (pw R:Nat)∧Keeps [0,1,2,4,5,6,7,8,9,10,11,12] [0,1,2,4,5,6] e' en:=by
  have loop:=loop_run (body:=l79_0 KW loopZ) (fun n e h=>h=g∧n≤R∧e.s [0,1,2,4,5,6,7,8,9,10,11,12] 7=.int .i64 R∧e.s [0,1,2,4,5,6,7,8,9,10,11,12] 8=.int .i64 (pw (R - n):Nat)∧e.s [0,1,2,4,5,6,7,8,9,10,11,12] 9=.int .i64 ((R - n:Nat):Int)∧Keeps [0,1,2,4,5,6,7,8,9,10,11,12] [0,1,2,4,5,6] e en)
   (fun s=>s.h=g∧s.x=.ex 0∧s.e.s [0,1,2,4,5,6,7,8,9,10,11,12] 8=.int .i64 (pw R:Nat)∧Keeps [0,1,2,4,5,6,7,8,9,10,11,12] [0,1,2,4,5,6] s.e en)
   (fun n e h ⟨hg,hn,p7,p8,p9,hi⟩=>by
    subst hg
    have i0:=hi 0 (by simp);have i1:=hi 1 (by simp);have i2:=hi 2 (by simp);have i4:=hi 4 (by simp);have i5:=hi 5 (by simp);have i6:=hi 6 (by simp)
    obtain ⟨y,hy⟩:∃ y,y=pw (R - n):=⟨_,rfl⟩
    rw [← hy] at p8
    have hy8:y≤128:=by rw [hy,pw,show 128=2 ^ 7 from rfl];exact Nat.pow_le_pow_right (by decide) (by omega)
    cases n with
    | zero =>
      simp only [Nat.sub_zero] at hy
      simp [l79_0,p7,p9]
      exact ⟨rfl,rfl,by simp [p8,hy],fun i hm=>by
       simp only [List.mem_cons,List.not_mem_nil,or_false] at hm
       rcases hm with rfl | rfl | rfl | rfl | rfl | rfl <;> simp [i0,i1,i2,i4,i5,i6]⟩
    | succ n =>
      obtain ⟨k,hk⟩:∃ k,k=R - (n+1):=⟨_,rfl⟩
      have hk2:R - n=k+1:=by omega
      rw [← hk] at p9 hy
      have z1:IntKind.i64.wrap ((y:Int)*2)=(pw (k+1):Nat):=by rw [wi64 (by omega) (by omega),pw,Nat.pow_succ,hy,pw];simp
      have z2:IntKind.i64.wrap ((k:Int)+1)=k+1:=wi64 (by omega) (by omega)
      obtain ⟨y2,hy2⟩:∃ y2,y2=pw (k+1):=⟨_,rfl⟩
      rw [← hy2] at z1
      simp [l79_0,p7,p9,show k < R by omega,show (k:Int) < R by omega,p8,z1,z2]
      exact ⟨n,Nat.lt_succ_self n,rfl,by omega,by simp [p7],by rw [hk2,hy2];simp [hy2],by simp [hk2],fun i hm=>by
       simp only [List.mem_cons,List.not_mem_nil,or_false] at hm
       rcases hm with rfl | rfl | rfl | rfl | rfl | rfl <;> simp [i0,i1,i2,i4,i5,i6]⟩)
  obtain ⟨⟨x,e',g'⟩,r1,r2,r3,r4,r5⟩:=loop R en g ⟨rfl,Nat.le_refl _,e7,by rw [e8,Nat.sub_self];rfl,by rw [e9,Nat.sub_self];rfl,fun i _=>rfl⟩
  simp only at r2 r3 r4 r5
  subst r2 r3
  exact ⟨e',r1,r4,r5⟩
theorem adapt74_ok {D:Nat→Prop} {h:H} {v:V} {t:Tb} (u:U16 D h v t.c) (ok:TabOk t) {s:Nat} (hs:s < t.c.length) :
   RT (fun w h'=>∃ vt,w=.tup [vt,.int .i64 0]∧NewT h.n h' vt (adaptP t s)∧Ext h h') (KW 79 [.agg [v,.int .i64 t.n],.int .i64 s] h):=by
  have l1:=ok.1
  obtain ⟨h1,b1,x1,g1,n1,u1⟩:=box72 u
  obtain ⟨h2,hh2⟩:∃ g,g=h1.new (.cells [.nils,.int .i64 0] 76 false):=⟨_,rfl⟩
  have x2:Ext h1 h2:=by rw [hh2];exact (Ext.refl h1).new _
  have n2:h2.n=h1.n+1:=by rw [hh2,H.n_new]
  have r2:h2.get h1.n=some (.cells [.nils,.int .i64 0] 76 false):=by rw [hh2,get_new_same]
  have u2:=u1.ext x2
  obtain ⟨w,h3,e3,rfl,x3⟩:=(check62_ok u2 (by omega)).elim
  rw [if_pos ok] at e3
  have ge2:h2.get h.n=_:=(x2.get _ (H.get_lt g1)).trans g1
  have ge3:h3.get h.n=_:=(x3.get _ (H.get_lt ge2)).trans ge2
  have ra3:h3.get h1.n=_:=(x3.get _ (H.get_lt r2)).trans r2
  obtain ⟨lg,e4,hlg,hlg2⟩:=log91_ok ok.1.1 ok.1.2 h3
  obtain ⟨m,hm⟩:∃ m,m=min (t.n+1) 32:=⟨_,rfl⟩
  have zn:IntKind.i64.wrap (t.n+1)=t.n+1:=by have:=ok.2.1;exact wi64 (by omega) (by omega)
  have hmin:(if (32:Int) < t.n+1 then (32:Int) else t.n+1)=m:=by rw [hm];split <;> omega
  obtain ⟨h4,hh4⟩:∃ g,g=(h3.new (.cells [.nils,.int .i64 0] 76 false)).put h3.n (.cells [.nils,.int .i64 m] 76 false):=⟨_,rfl⟩
  have x4:Ext h3 h4:=by rw [hh4];exact ((Ext.refl h3).new _).put (Nat.le_refl _) _
  have n4:h4.n=h3.n+1:=by rw [hh4,H.n_put,H.n_new]
  have g4:h4.get h3.n=some (.cells [.nils,.int .i64 m] 76 false):=by rw [hh4,get_put_same (by rw [H.n_new];omega)]
  have ge4:h4.get h.n=_:=(x4.get _ (H.get_lt ge3)).trans ge3
  have ra4:h4.get h1.n=_:=(x4.get _ (H.get_lt ra3)).trans ra3
  have u4:=(u2.ext x3).ext x4
  have hx3:Ext h h3:=(x1.trans x2).trans x3
  -- how fast
  obtain ⟨R,hR⟩:∃ R,R=rateP t:=⟨_,rfl⟩
  have hR8:R < 8:=by rw [hR];exact rateP_lt t
  obtain ⟨q,hq⟩:∃ q,q=(if t.c.length < 4 then 1 else 2):=⟨_,rfl⟩
  have e5:(if (2:Int) < (lg:Int) then (2:Int) else (lg:Int))=(q:Int):=by rw [hq,← hlg];split <;> omega
  have hq2:q≤2:=by rw [hq];split <;> omega
  have z2:IntKind.i64.wrap (3+(q:Int))=3+q:=wi64 (by omega) (by omega)
  have z3:IntKind.i64.wrap (3+(q:Int)+1)=3+q+1:=wi64 (by omega) (by omega)
  have z4:IntKind.i64.wrap (3+(q:Int)+1+1)=3+q+1+1:=wi64 (by omega) (by omega)
  have hr:(R:Int)=3+q+(if 15 < t.n then 1 else 0)+(if 31 < t.n then 1 else 0):=by
   rw [hR];unfold rateP;rw [← hq];split <;> split <;> simp
  have hslt:¬ (t.c.length:Int)≤s:=by omega
  have hslt2:¬ t.c.length≤s:=by omega
  obtain ⟨e6,k1,k2,k3⟩:=loop74p (g:=h3) hR8 ⟨[.agg [v,.int .i64 t.n],.int .i64 s,.ptr h.n 0,.ptr h1.n 0,.int .i64 0,.int .i64 t.c.length,.int .i64 R,.int .i64 1,.int .i64 0,.tup [],.tup [],.tup []],9,.int .i64 0⟩ (by simp) (by simp) (by simp)
  have k30:=k3 0 (by simp);have k31:=k3 1 (by simp);have k32:=k3 2 (by simp);have k34:=k3 4 (by simp);have k35:=k3 5 (by simp);have k36:=k3 6 (by simp)
  simp at k30 k31 k32 k34 k35 k36
  obtain ⟨Q,hQ⟩:∃ Q,Q=2 ^ rateP t:=⟨_,rfl⟩
  rw [hR,pw,← hQ] at k2
  obtain ⟨e7,g7,j1,I⟩:=loop74 (Q:=Q) hQ (h0:=h4) (t:=t) (s:=s) (a:=h.n) (q:=h3.n) (p:=h1.n) ok u4 ge4 (fun c hc hcq=>by omega) (by have:=x2.n;have:=x3.n;omega) (by omega)
   (fun c o k n e=>by have:=u.1.under _ _ _ _ e;have:=hx3.n;omega) (n:=t.c.length)
   (e:=⟨[.agg [v,.int .i64 t.n],.int .i64 s,.ptr h.n 0,.ptr h1.n 0,.int .i64 0,.int .i64 t.c.length,e6.s [0,1,2,4,5,6,7,8,9,10,11,12] 7,.int .i64 Q,e6.s [0,1,2,4,5,6,7,8,9,10,11,12] 9,.ptr h3.n 0,.int .i64 0,e6.s [0,1,2,4,5,6,7,8,9,10,11,12] 12],11,.int .i64 0⟩) (g:=h4)
   ⟨Nat.le_refl _,fun c _=>rfl,Nat.le_refl _,⟨.nils,by rw [Nat.sub_self,← hm];exact ⟨g4,GrowV.nil _ _ _ _⟩⟩,by simp,by simp,by simp,by simp,by simp,by simp,by simp⟩
  obtain ⟨_,xx,gn,⟨sv,B⟩,p1,p2,p4,p6,p8,p10,p11⟩:=I
  have n32:h1.n < h3.n:=by have:=x3.n;omega
  have ra7:g7.get h1.n=_:=(xx _ n32).trans ra4
  obtain ⟨h8,hh8⟩:∃ g,g=g7.put h1.n (.cells [sv,.int .i64 m] 76 false):=⟨_,rfl⟩
  have r8:h8.get h1.n=some (.cells [sv,.int .i64 m] 76 false):=by rw [hh8,get_put_same (H.get_lt ra7)]
  rw [← hm] at B
  have Bb:=B.b
  have fin_:∃ vt,V.tup [.agg [sv,.int .i64 m],.int .i64 0]=.tup [vt,.int .i64 0]∧NewT h.n h8 vt (adaptP t s)∧Ext h h8:=by
   refine ⟨_,rfl,⟨sv,by rw [hm];rfl,?_⟩,?_⟩
   ·have hS:=B.s
    rw [Nat.sub_zero] at hS
    have hG:GrowV (h3.n+1) h8 sv 97 1 (wordsV (adaptP t s).c) (adaptP t s).c.length:=by
      rw [hh8];exact hS.put (hS.fresh.ne (by omega))
    exact ⟨GrowV.slr hG fun b hb=>by have:=hx3.n;show h.n≤b;omega,fun y hy=>by
      obtain ⟨i,hi,rfl⟩:=List.getElem_of_mem hy
      rw [← nth_of hi]
      rw [adaptP_len] at hi
      rw [adaptP_nth hi]
      have:=adF_le ok s hi
      omega⟩
   ·refine ⟨by rw [hh8,H.n_put];have:=hx3.n;omega,fun c hc=>?_⟩
    have:=x1.n;have:=hx3.n
    rw [hh8,get_put_ne (by omega),xx c (by omega),x4.get c (by omega),hx3.get c hc]
  rw [w79,f79,s79]
  by_cases c1:15 < t.n
  ·by_cases c2:31 < t.n
   ·have hr2:(R:Int)=3+q+1+1:=by rw [hr,if_pos c1,if_pos c2]
    rw [← hr2] at z4
    simp [b1,nw,← hh2,rdN_of (o:=0) (n:=2) ge2 (by simp),e3,show ¬ (s:Int) < 0 by omega,rd1_of ge3,u.1.len,hslt,hslt2,e4,e5,z2,c1,z3,c2,← hr2,z4,k1,k30,k31,k32,k34,k35,k36,k2,zn,hmin,bl,fillW,splice,wrN_of (o:=0) get_new_same,← hh4,j1,p10,rdN_of (o:=0) (n:=2) Bb (by simp),p4,wrN_of (o:=0) ra7,← hh8,rdN_of (o:=0) (n:=2) r8 (by simp)]
    exact fin_
   ·have hr2:(R:Int)=3+q+1:=by rw [hr,if_pos c1,if_neg c2];omega
    rw [← hr2] at z3
    simp [b1,nw,← hh2,rdN_of (o:=0) (n:=2) ge2 (by simp),e3,show ¬ (s:Int) < 0 by omega,rd1_of ge3,u.1.len,hslt,hslt2,e4,e5,z2,c1,z3,c2,← hr2,k1,k30,k31,k32,k34,k35,k36,k2,zn,hmin,bl,fillW,splice,wrN_of (o:=0) get_new_same,← hh4,j1,p10,rdN_of (o:=0) (n:=2) Bb (by simp),p4,wrN_of (o:=0) ra7,← hh8,rdN_of (o:=0) (n:=2) r8 (by simp)]
    exact fin_
  ·have hr2:(R:Int)=3+q:=by rw [hr,if_neg c1,if_neg (by omega)];omega
   rw [← hr2] at z2
   simp [b1,nw,← hh2,rdN_of (o:=0) (n:=2) ge2 (by simp),e3,show ¬ (s:Int) < 0 by omega,rd1_of ge3,u.1.len,hslt,hslt2,e4,e5,z2,c1,show ¬ 31 < t.n by omega,← hr2,k1,k30,k31,k32,k34,k35,k36,k2,zn,hmin,bl,fillW,splice,wrN_of (o:=0) get_new_same,← hh4,j1,p10,rdN_of (o:=0) (n:=2) Bb (by simp),p4,wrN_of (o:=0) ra7,← hh8,rdN_of (o:=0) (n:=2) r8 (by simp)]
   exact fin_
open Go.Zf (wi64)
def flF (n i:Nat):Nat:=32768*(i+1) / n
def stF (n i:Nat):Nat:=if i+1=n then 32768 else 32768 - 32768 / pw (i+1)
def flatP (n:Nat):Tb:=⟨tabN (flF n) n,0⟩
def steepP (n:Nat):Tb:=⟨tabN (stF n) n,0⟩
theorem flF_le {n i:Nat} (hi:i < n):flF n i≤32768:=by
  unfold flF
  have:32768*(i+1) / n≤32768*n / n:=Nat.div_le_div_right (Nat.mul_le_mul_left _ (by omega))
  rwa [Nat.mul_div_cancel _ (by omega)] at this
theorem stF_le (n i:Nat):stF n i≤32768:=by
  unfold stF
  split
  ·exact Nat.le_refl _
  ·exact Nat.sub_le _ _
theorem mem_tabN {f:Nat→Nat} {m x:Nat} (h:x ∈ tabN f m):∃ i,i < m∧f i=x:=by
  simp only [tabN,List.mem_map,List.mem_range] at h;exact h
theorem mix_full (f g:Nat→Nat) (m:Nat):mix f g m m=tabN f m:=by
  apply List.ext_getElem
  ·simp [mix,tabN]
  ·intro i h1 h2
   have:i < m:=by simpa [mix] using h1
   simp [mix,tabN,this]
theorem zeros (f:Nat→Nat) (n:Nat):reps n [V.int .u16 0]=wordsV (mix f (fun _=>0) n 0):=by
  rw [reps_one]
  apply List.ext_getElem
  ·simp [wordsV,mix]
  ·intro i h1 h2;simp [wordsV,mix]
theorem flat49_ok {n:Nat} (h2:2≤n) (h16:n≤16) (h:H):RT (fun w h'=>∃ vt,w=.tup [vt,.int .i64 0]∧NewT h.n h' vt (flatP n)∧Ext h h') (KW 36 [.int .i64 n] h):=by
  obtain ⟨h1,hh1⟩:∃ g,g=h.new (.cells [.nils,.int .i64 0] 76 false):=⟨_,rfl⟩
  have x1:Ext h h1:=by rw [hh1];exact (Ext.refl h).new _
  have n1:h1.n=h.n+1:=by rw [hh1,H.n_new]
  have r1:h1.get h.n=some (.cells [.nils,.int .i64 0] 76 false):=by rw [hh1,get_new_same]
  obtain ⟨h3,hh3⟩:∃ g,g=h1.new (.cells [.nils,.int .i64 0] 76 false):=⟨_,rfl⟩
  have x3:Ext h1 h3:=by rw [hh3];exact (Ext.refl h1).new _
  have r3:h3.get h1.n=some (.cells [.nils,.int .i64 0] 76 false):=by rw [hh3,get_new_same]
  have loop:=loop_run (body:=l36_0 KW loopZ) (fun k e g=>k≤n∧(∀ c,c < h1.n→g.get c=h3.get c)∧h3.n≤g.n∧(∃ sv,Box h1.n 0 (tabN (flF n) (n - k)) g sv)∧e.s [0,2,3,4,5] 0=.int .i64 n∧e.s [0,2,3,4,5] 2=.ptr h.n 0∧e.s [0,2,3,4,5] 4=.ptr h1.n 0∧e.s [0,2,3,4,5] 5=.int .i64 ((n - k:Nat):Int))
   (fun s=>s.x=.ex 0∧(∀ c,c < h1.n→s.h.get c=h3.get c)∧h3.n≤s.h.n∧(∃ sv,Box h1.n 0 (tabN (flF n) n) s.h sv)∧s.e.s [0,2,3,4,5] 2=.ptr h.n 0∧s.e.s [0,2,3,4,5] 4=.ptr h1.n 0)
   (fun k e g ⟨hk,xx,gn,⟨sv,B⟩,p0,p2,p4,p5⟩=>by
    cases k with
    | zero =>
      simp [l36_0,p0,p5]
      exact ⟨rfl,xx,gn,⟨sv,B⟩,by simp [p2],by simp [p4]⟩
    | succ k =>
      obtain ⟨i,hi⟩:∃ i,i=n - (k+1):=⟨_,rfl⟩
      have hi2:n - k=i+1:=by omega
      rw [← hi] at p5 B
      have hF:=flF_le (n:=n) (i:=i) (by omega)
      obtain ⟨v',g1,g2,a1,a2,a3,a4,a5,a6⟩:=B.push (flF n i) (by rw [tabN_length];omega)
      have hsv:=B.s.same
      have z1:IntKind.i64.wrap ((i:Int)+1)=i+1:=wi64 (by omega) (by omega)
      have z2:IntKind.i64.wrap (32768*((i:Int)+1))=32768*(i+1):=wi64 (by omega) (by omega)
      obtain ⟨F,hFe⟩:∃ F,F=flF n i:=⟨_,rfl⟩
      have t1:(32768*((i:Int)+1)).tdiv (n:Int)=(F:Int):=by
       rw [Int.tdiv_eq_ediv_of_nonneg (by omega),hFe,flF];simp
      rw [← hFe] at hF a1
      have z3:IntKind.i64.wrap (F:Int)=F:=wi64 (by omega) (by omega)
      have z4:IntKind.u16.wrap (F:Int)=F:=wu16 (by omega) (by omega)
      simp [l36_0,p0,p5,show (i:Int) < n by omega,show i < n by omega,p4,rd1_of B.b,z1,z2,show ¬ (n:Int)=0 by omega,show ¬ n=0 by omega,t1,z3,z4,bs,fillW,splice,a1,a3,a2,ck,hsv,V.same]
      exact ⟨k,Nat.lt_succ_self k,by omega,fun c hc=>by rw [a5 c hc,xx c hc],by omega,⟨v',by rw [hi2,tabN_succ];exact a4⟩,by simp [p0],by simp [p2],by simp [p4],by simp [hi2]⟩)
  obtain ⟨⟨sx,se,sh⟩,q1,q2,xx,gn,⟨sv,B⟩,p2,p4⟩:=loop n ⟨[.int .i64 n,.ptr h.n 0,.int .i64 0,.ptr h1.n 0,.int .i64 0],5,.int .i64 0⟩ h3 ⟨Nat.le_refl _,fun c _=>rfl,Nat.le_refl _,⟨.nils,by rw [Nat.sub_self];exact ⟨r3,GrowV.nil _ _ _ _⟩⟩,by simp,by simp,by simp,by simp⟩
  simp only at q2 xx gn B p2 p4
  subst q2
  have ra:sh.get h.n=_:=(xx h.n (by omega)).trans ((x3.get _ (by omega)).trans r1)
  obtain ⟨h8,hh8⟩:∃ g,g=sh.put h.n (.cells [sv,.int .i64 0] 76 false):=⟨_,rfl⟩
  have r8:h8.get h.n=some (.cells [sv,.int .i64 0] 76 false):=by rw [hh8,get_put_same (H.get_lt ra)]
  have Bb:=B.b
  rw [w36,f36,s36]
  simp [nw,← hh1,← hh3,show ¬ (n:Int) < 2 by omega,show ¬ n < 2 by omega,show ¬ (16:Int) < n by omega,show ¬ 16 < n by omega,q1,p4,rdN_of (o:=0) (n:=2) Bb (by simp),p2,wrN_of (o:=0) ra,splice,← hh8,rdN_of (o:=0) (n:=2) r8 (by simp)]
  have hS:=B.s
  have hG:GrowV (h1.n+1) h8 sv 97 1 (wordsV (flatP n).c) (flatP n).c.length:=by
   rw [hh8];exact hS.put (hS.fresh.ne (by omega))
  refine ⟨_,rfl,⟨sv,rfl,GrowV.slr hG fun b hb=>by show h.n≤b;omega,fun y hy=>?_⟩,?_⟩
  ·obtain ⟨i,hi,rfl⟩:=mem_tabN hy
   have:=flF_le hi;omega
  ·refine ⟨by rw [hh8,H.n_put];have:=x1.n;have:=x3.n;omega,fun c hc=>?_⟩
   have:=x1.n
   rw [hh8,get_put_ne (by omega),xx c (by omega),x3.get c (by omega),x1.get c hc]
theorem half_div (i:Nat) (hi:i≤15):32768 / pw i / 2=32768 / pw (i+1):=by
  rw [pw,pw,Nat.div_div_eq_div_mul,Nat.pow_succ]
def HY (k:Nat) (v:V):Prop:=∃ y:Nat,y=32768 / pw k∧v=.int .i64 y
theorem steep50_ok {n:Nat} (h2:2≤n) (h16:n≤16) (h:H):RT (fun w h'=>∃ vt,w=.tup [vt,.int .i64 0]∧NewT h.n h' vt (steepP n)∧Ext h h') (KW 37 [.int .i64 n] h):=by
  obtain ⟨h1,hh1⟩:∃ g,g=h.new (.cells [.nils,.int .i64 0] 76 false):=⟨_,rfl⟩
  have x1:Ext h h1:=by rw [hh1];exact (Ext.refl h).new _
  have n1:h1.n=h.n+1:=by rw [hh1,H.n_new]
  have r1:h1.get h.n=some (.cells [.nils,.int .i64 0] 76 false):=by rw [hh1,get_new_same]
  obtain ⟨h3,hh3⟩:∃ g,g=h1.new (.cells [.nils,.int .i64 0] 76 false):=⟨_,rfl⟩
  have x3:Ext h1 h3:=by rw [hh3];exact (Ext.refl h1).new _
  have r3:h3.get h1.n=some (.cells [.nils,.int .i64 0] 76 false):=by rw [hh3,get_new_same]
  have zn1:IntKind.i64.wrap ((n:Int) - 1)=((n - 1:Nat):Int):=by rw [wi64 (by omega) (by omega)];omega
  have loop:=loop_run (body:=l37_0 KW loopZ) (fun k e g=>k≤n - 1∧(∀ c,c < h1.n→g.get c=h3.get c)∧h3.n≤g.n∧(∃ sv,Box h1.n 0 (tabN (stF n) (n - 1 - k)) g sv)∧e.s [0,2,3,4,5,6] 0=.int .i64 n∧e.s [0,2,3,4,5,6] 2=.ptr h.n 0∧e.s [0,2,3,4,5,6] 4=.ptr h1.n 0∧e.s [0,2,3,4,5,6] 6=.int .i64 ((n - 1 - k:Nat):Int)∧HY (n - 1 - k) (e.s [0,2,3,4,5,6] 5))
   (fun s=>s.x=.ex 0∧(∀ c,c < h1.n→s.h.get c=h3.get c)∧h3.n≤s.h.n∧(∃ sv,Box h1.n 0 (tabN (stF n) (n - 1)) s.h sv)∧s.e.s [0,2,3,4,5,6] 2=.ptr h.n 0∧s.e.s [0,2,3,4,5,6] 4=.ptr h1.n 0)
   (fun k e g ⟨hk,xx,gn,⟨sv,B⟩,p0,p2,p4,p6,⟨y,hy,p5⟩⟩=>by
    cases k with
    | zero =>
      simp [l37_0,p0,p6,zn1]
      exact ⟨rfl,xx,gn,⟨sv,B⟩,by simp [p2],by simp [p4]⟩
    | succ k =>
      obtain ⟨i,hi⟩:∃ i,i=n - 1 - (k+1):=⟨_,rfl⟩
      have hi2:n - 1 - k=i+1:=by omega
      rw [← hi] at p6 B hy
      have hyl:y≤32768:=by rw [hy];exact Nat.div_le_self _ _
      have hF:=stF_le n i
      obtain ⟨v',g1,g2,a1,a2,a3,a4,a5,a6⟩:=B.push (stF n i) (by rw [tabN_length];omega)
      have hsv:=B.s.same
      have z1:IntKind.i64.wrap ((i:Int)+1)=i+1:=wi64 (by omega) (by omega)
      obtain ⟨F,hFe⟩:∃ F,F=stF n i:=⟨_,rfl⟩
      obtain ⟨y2,hy2⟩:∃ y2,y2=y / 2:=⟨_,rfl⟩
      have hy3:y2=32768 / pw (i+1):=by rw [hy2,hy,half_div i (by omega)]
      have t1:((y:Int)).tdiv 2=(y2:Int):=by
       rw [Int.tdiv_eq_ediv_of_nonneg (by omega),hy2];simp
      have hF2:F=32768 - y2:=by rw [hFe,stF,if_neg (by omega),hy3]
      rw [← hFe] at hF a1
      have z2:IntKind.i64.wrap (y2:Int)=y2:=wi64 (by omega) (by omega)
      have z3:IntKind.i64.wrap (32768 - (y2:Int))=F:=by rw [wi64 (by omega) (by omega)];omega
      have z4:IntKind.u16.wrap (F:Int)=F:=wu16 (by omega) (by omega)
      simp [l37_0,p0,p6,zn1,show (i:Int) < ((n - 1:Nat):Int) by omega,show i < n - 1 by omega,p5,t1,z2,z3,p4,rd1_of B.b,z1,z4,bs,fillW,splice,a1,a3,a2]
      exact ⟨k,Nat.lt_succ_self k,by omega,fun c hc=>by rw [a5 c hc,xx c hc],by omega,⟨v',by rw [hi2,tabN_succ];exact a4⟩,by simp [p0],by simp [p2],by simp [p4],by simp [hi2],⟨y2,by rw [hi2];exact hy3,by simp⟩⟩)
  obtain ⟨⟨sx,se,sh⟩,q1,q2,xx,gn,⟨sv,B⟩,p2,p4⟩:=loop (n - 1) ⟨[.int .i64 n,.ptr h.n 0,.int .i64 0,.ptr h1.n 0,.int .i64 32768,.int .i64 0],6,.int .i64 0⟩ h3 ⟨Nat.le_refl _,fun c _=>rfl,Nat.le_refl _,⟨.nils,by rw [Nat.sub_self];exact ⟨r3,GrowV.nil _ _ _ _⟩⟩,by simp,by simp,by simp,by simp,⟨32768,by rw [Nat.sub_self];rfl,by simp⟩⟩
  simp only at q2 xx gn B p2 p4
  subst q2
  obtain ⟨v',g1,g2,a1,a2,a3,a4,a5,a6⟩:=B.push 32768 (by rw [tabN_length];omega)
  have hL:tabN (stF n) (n - 1) ++ [32768]=(steepP n).c:=by
   obtain ⟨m,rfl⟩:∃ m,n=m+1:=⟨n - 1,by omega⟩
   rw [Nat.add_sub_cancel,steepP,tabN_succ]
   congr 2
   rw [stF,if_pos rfl]
  rw [hL] at a4
  have ra:g2.get h.n=_:=(a5 h.n (by omega)).trans ((xx h.n (by omega)).trans ((x3.get _ (by omega)).trans r1))
  obtain ⟨h8,hh8⟩:∃ g,g=g2.put h.n (.cells [v',.int .i64 0] 76 false):=⟨_,rfl⟩
  have r8:h8.get h.n=some (.cells [v',.int .i64 0] 76 false):=by rw [hh8,get_put_same (H.get_lt ra)]
  have Bb:=a4.b
  rw [w37,f37,s37]
  simp at a1
  simp [nw,← hh1,← hh3,show ¬ (n:Int) < 2 by omega,show ¬ n < 2 by omega,show ¬ (16:Int) < n by omega,show ¬ 16 < n by omega,q1,p4,rd1_of B.b,bs,fillW,a1,a3,a2,rdN_of (o:=0) (n:=2) Bb (by simp),p2,wrN_of (o:=0) ra,splice,← hh8,rdN_of (o:=0) (n:=2) r8 (by simp)]
  have hS:=a4.s
  have hG:GrowV (h1.n+1) h8 v' 97 1 (wordsV (steepP n).c) (steepP n).c.length:=by
   rw [hh8];exact hS.put (hS.fresh.ne (by omega))
  refine ⟨.agg [v',.int .i64 0],rfl,?_,?_⟩
  ·refine ⟨v',rfl,GrowV.slr hG fun b hb=>by show h.n≤b;omega,fun y hy=>?_⟩
   obtain ⟨i,hi,rfl⟩:=mem_tabN hy
   have:=stF_le n i;omega
  ·refine ⟨by rw [hh8,H.n_put];have:=x1.n;have:=x3.n;omega,fun c hc=>?_⟩
   have:=x1.n
   rw [hh8,get_put_ne (by omega),a5 c (by omega),xx c (by omega),x3.get c (by omega),x1.get c hc]
open Go.Zf (wi64)
theorem wn (n:Nat) (f g:Nat→Nat) (j:Nat):(wordsV (mix f g n j)).length=n:=by rw [wordsV_length,mix_length]
structure I54 (h0:H) (f:Nat→Nat) (n b q p:Nat) (k:Nat) (e:E) (g:H):Prop where
  hk:k≤n
  x:∀ c,c ≠ b→g.get c=h0.get c
  gn:h0.n≤g.n
  w:g.get b=some (.cells (wordsV (mix f (fun _=>0) n (n - k))) 97 false)
  p0:e.s [0,2,3,4,5,15,16] 0=.int .i64 n
  p2:e.s [0,2,3,4,5,15,16] 2=.ptr p 0
  p4:e.s [0,2,3,4,5,15,16] 4=.ptr q 0
  p15:e.s [0,2,3,4,5,15,16] 15=.int .i64 n
  p16:e.s [0,2,3,4,5,15,16] 16=.int .i64 ((n - k:Nat):Int)
theorem flat54_ok {n:Nat} (h2:2≤n) (h16:n≤16) (h:H):RT (fun w h'=>∃ vt,w=.tup [vt,.int .i64 0]∧NewT h.n h' vt (flatP n)∧Ext h h') (KW 30 [.int .i64 n] h):=by
  obtain ⟨h1,hh1⟩:∃ g,g=h.new (.cells [.nils,.int .i64 0] 76 false):=⟨_,rfl⟩
  have x1:Ext h h1:=by rw [hh1];exact (Ext.refl h).new _
  have n1:h1.n=h.n+1:=by rw [hh1,H.n_new]
  have r1:h1.get h.n=some (.cells [.nils,.int .i64 0] 76 false):=by rw [hh1,get_new_same]
  obtain ⟨hm,hhm⟩:∃ g,g=h1.new (.cells (wordsV (mix (flF n) (fun _=>0) n 0)) 97 false):=⟨_,rfl⟩
  have xm:Ext h1 hm:=by rw [hhm];exact (Ext.refl h1).new _
  have nm:hm.n=h1.n+1:=by rw [hhm,H.n_new]
  have rm:hm.get h1.n=some (.cells (wordsV (mix (flF n) (fun _=>0) n 0)) 97 false):=by rw [hhm,get_new_same]
  obtain ⟨h3,hh3⟩:∃ g,g=(hm.new (.cells [.nils,.int .i64 0] 76 false)).put hm.n (.cells [.sl h1.n 0 n (.ex n),.int .i64 0] 76 false):=⟨_,rfl⟩
  have x3:Ext hm h3:=by rw [hh3];exact ((Ext.refl hm).new _).put (Nat.le_refl _) _
  have n3:h3.n=hm.n+1:=by rw [hh3,H.n_put,H.n_new]
  have r3:h3.get hm.n=some (.cells [.sl h1.n 0 n (.ex n),.int .i64 0] 76 false):=by rw [hh3,get_put_same (by rw [H.n_new];omega)]
  have rm3:h3.get h1.n=_:=(x3.get _ (H.get_lt rm)).trans rm
  have ra3:h3.get h.n=_:=(x3.get _ (by omega)).trans ((xm.get _ (by omega)).trans r1)
  have loop:=loop_run (body:=l30_0 KW loopZ) (I54 h3 (flF n) n h1.n hm.n h.n) (fun s=>s.x=.ex 0∧I54 h3 (flF n) n h1.n hm.n h.n 0 s.e s.h)
   (fun k e g hi=>by
    obtain ⟨hk,xx,gn,w,p0,p2,p4,p15,p16⟩:=hi
    cases k with
    | zero =>
      simp [l30_0,p15,p16]
      exact ⟨rfl,hk,xx,gn,w,by simp [p0],by simp [p2],by simp [p4],by simp [p15],by simp [p16]⟩
    | succ k =>
      obtain ⟨i,hi⟩:∃ i,i=n - (k+1):=⟨_,rfl⟩
      have hi2:n - k=i+1:=by omega
      rw [← hi] at p16 w
      have hF:=flF_le (n:=n) (i:=i) (by omega)
      have z1:IntKind.i64.wrap ((i:Int)+1)=i+1:=wi64 (by omega) (by omega)
      have z2:IntKind.i64.wrap (32768*((i:Int)+1))=32768*(i+1):=wi64 (by omega) (by omega)
      have hset:=mix_set (flF n) (fun _=>0) n i
      have hs2:=wordsV_set (mix (flF n) (fun _=>0) n i) i (flF n i)
      rw [hset] at hs2
      have hwr:=fun v=>wr1_of w (o:=i) (by rw [wn];omega) v
      obtain ⟨F,hFe⟩:∃ F,F=flF n i:=⟨_,rfl⟩
      have t1:(32768*((i:Int)+1)).tdiv (n:Int)=(F:Int):=by
       rw [Int.tdiv_eq_ediv_of_nonneg (by omega),hFe,flF];simp
      rw [← hFe] at hF hs2
      have z3:IntKind.i64.wrap (F:Int)=F:=wi64 (by omega) (by omega)
      have z4:IntKind.u16.wrap (F:Int)=F:=wu16 (by omega) (by omega)
      have hq:g.get hm.n=_:=(xx hm.n (by omega)).trans r3
      obtain ⟨g2,hg2⟩:∃ g2,g2=g.put h1.n (.cells (wordsV (mix (flF n) (fun _=>0) n (i+1))) 97 false):=⟨_,rfl⟩
      simp [l30_0,p15,p16,show (i:Int) < n by omega,show i < n by omega,p4,rd1_of hq,z1,z2,p0,show ¬ (n:Int)=0 by omega,show ¬ n=0 by omega,t1,z3,z4,hwr,hs2,← hg2]
      exact ⟨k,Nat.lt_succ_self k,by omega,fun c hc=>by rw [hg2,get_put_ne hc,xx c hc],by rw [hg2,H.n_put];exact gn,by rw [hg2,get_put_same (H.get_lt w),hi2],by simp [p0],by simp [p2],by simp [p4],by simp [p15],by simp [hi2]⟩)
  obtain ⟨⟨sx,se,sh⟩,q1,q2,I⟩:=loop n ⟨[.int .i64 n,.ptr h.n 0,.int .i64 0,.ptr hm.n 0,.tup [],.int .i64 n,.int .i64 0],16,.int .i64 0⟩ h3 ⟨Nat.le_refl _,fun c _=>rfl,Nat.le_refl _,by rw [Nat.sub_self];exact rm3,by simp,by simp,by simp,by simp,by simp⟩
  simp only at q2 I
  subst q2
  obtain ⟨_,xx,gn,w,p0,p2,p4,p15,p16⟩:=I
  rw [Nat.sub_zero,mix_full] at w
  have ra:sh.get h.n=_:=(xx h.n (by omega)).trans ra3
  have rq:sh.get hm.n=_:=(xx hm.n (by omega)).trans r3
  obtain ⟨h8,hh8⟩:∃ g,g=sh.put h.n (.cells [.sl h1.n 0 n (.ex n),.int .i64 0] 76 false):=⟨_,rfl⟩
  have r8:h8.get h.n=some (.cells [.sl h1.n 0 n (.ex n),.int .i64 0] 76 false):=by rw [hh8,get_put_same (H.get_lt ra)]
  have b8:h8.get h1.n=some (.cells (wordsV (flatP n).c) 97 false):=by rw [hh8,get_put_ne (by omega)];exact w
  have hsz:=sizes80_ok (n:Int) h1
  rw [show (decide (2≤(n:Int)) && decide ((n:Int)≤16))=true by rw [Bool.and_eq_true,decide_eq_true_eq,decide_eq_true_eq];omega] at hsz
  have hms:ms h1 97 2 [(.int .u16 0)] (.int .i64 n) (.int .i64 n)=some (.sl h1.n 0 n (.ex n),hm):=by
   simp only [ms]
   rw [if_pos ⟨by omega,by omega,by omega,by omega,trivial⟩,Int.toNat_natCast,zeros (flF n),← hhm]
  rw [w30,f30,s30]
  simp [nw,← hh1,hsz,hms,bl,fillW,splice,wrN_of (o:=0) get_new_same,← hh3,rd1_of r3,q1,p4,rdN_of (o:=0) (n:=2) rq (by simp),p2,wrN_of (o:=0) ra,← hh8,rdN_of (o:=0) (n:=2) r8 (by simp)]
  refine ⟨_,rfl,⟨.sl h1.n 0 n (.ex n),rfl,?_,fun y hy=>?_⟩,?_⟩
  ·show SlR _ h8 _ _ 1 (tabN (flF n) n).length _
   rw [tabN_length]
   exact SlR.of b8 (by rw [wordsV_length,flatP,tabN_length];omega) (show h.n≤h1.n by omega)
  ·obtain ⟨i,hi,rfl⟩:=mem_tabN hy
   have:=flF_le hi;omega
  ·refine ⟨by rw [hh8,H.n_put];omega,fun c hc=>?_⟩
   rw [hh8,get_put_ne (by omega),xx c (by omega),x3.get c (by omega),xm.get c (by omega),x1.get c hc]
def soF (i:Nat):Nat:=32768 - 32768 / pw (i+1)
theorem soF_le (i:Nat):soF i≤32768:=Nat.sub_le _ _
theorem steep55_ok {n:Nat} (h2:2≤n) (h16:n≤16) (h:H):RT (fun w h'=>∃ vt,w=.tup [vt,.int .i64 0]∧NewT h.n h' vt (steepP n)∧Ext h h') (KW 31 [.int .i64 n] h):=by
  obtain ⟨h1,hh1⟩:∃ g,g=h.new (.cells [.nils,.int .i64 0] 76 false):=⟨_,rfl⟩
  have x1:Ext h h1:=by rw [hh1];exact (Ext.refl h).new _
  have n1:h1.n=h.n+1:=by rw [hh1,H.n_new]
  have r1:h1.get h.n=some (.cells [.nils,.int .i64 0] 76 false):=by rw [hh1,get_new_same]
  obtain ⟨hm,hhm⟩:∃ g,g=h1.new (.cells (wordsV (mix (soF) (fun _=>0) n 0)) 97 false):=⟨_,rfl⟩
  have xm:Ext h1 hm:=by rw [hhm];exact (Ext.refl h1).new _
  have nm:hm.n=h1.n+1:=by rw [hhm,H.n_new]
  have rm:hm.get h1.n=some (.cells (wordsV (mix (soF) (fun _=>0) n 0)) 97 false):=by rw [hhm,get_new_same]
  obtain ⟨h3,hh3⟩:∃ g,g=(hm.new (.cells [.nils,.int .i64 0] 76 false)).put hm.n (.cells [.sl h1.n 0 n (.ex n),.int .i64 0] 76 false):=⟨_,rfl⟩
  have x3:Ext hm h3:=by rw [hh3];exact ((Ext.refl hm).new _).put (Nat.le_refl _) _
  have n3:h3.n=hm.n+1:=by rw [hh3,H.n_put,H.n_new]
  have r3:h3.get hm.n=some (.cells [.sl h1.n 0 n (.ex n),.int .i64 0] 76 false):=by rw [hh3,get_put_same (by rw [H.n_new];omega)]
  have rm3:h3.get h1.n=_:=(x3.get _ (H.get_lt rm)).trans rm
  have ra3:h3.get h.n=_:=(x3.get _ (by omega)).trans ((xm.get _ (by omega)).trans r1)
  have loop:=loop_run (body:=l31_0 KW loopZ) (I54 h3 (soF) n h1.n hm.n h.n) (fun s=>s.x=.ex 0∧I54 h3 (soF) n h1.n hm.n h.n 0 s.e s.h)
   (fun k e g hi=>by
    obtain ⟨hk,xx,gn,w,p0,p2,p4,p15,p16⟩:=hi
    cases k with
    | zero =>
      simp [l31_0,p15,p16]
      exact ⟨rfl,hk,xx,gn,w,by simp [p0],by simp [p2],by simp [p4],by simp [p15],by simp [p16]⟩
    | succ k =>
      obtain ⟨i,hi⟩:∃ i,i=n - (k+1):=⟨_,rfl⟩
      have hi2:n - k=i+1:=by omega
      rw [← hi] at p16 w
      have hF:=soF_le i
      have z1:IntKind.i64.wrap ((i:Int)+1)=i+1:=wi64 (by omega) (by omega)
      have hset:=mix_set (soF) (fun _=>0) n i
      have hs2:=wordsV_set (mix (soF) (fun _=>0) n i) i (soF i)
      rw [hset] at hs2
      have hwr:=fun v=>wr1_of w (o:=i) (by rw [wn];omega) v
      obtain ⟨F,hFe⟩:∃ F,F=soF i:=⟨_,rfl⟩
      obtain ⟨Y,hY⟩:∃ Y,Y=32768 / pw (i+1):=⟨_,rfl⟩
      have hYl:Y≤32768:=by rw [hY];exact Nat.div_le_self _ _
      have hmin:min (i+1) IntKind.u16.bits=i+1:=Nat.min_eq_left (by rw [show IntKind.u16.bits=16 from rfl];omega)
      have t1:(32768:Int).fdiv (2 ^ (i+1))=(Y:Int):=by
       rw [Int.fdiv_eq_ediv_of_nonneg _ (Int.pow_nonneg (by decide)),hY,pw];simp
      have tn:((i:Int)+1).toNat=i+1:=by omega
      have hFY:F=32768 - Y:=by rw [hFe,soF,hY]
      rw [← hFe] at hF hs2
      have z4:IntKind.u16.wrap (32768 - (Y:Int))=F:=by rw [wu16 (by omega) (by omega)];omega
      have hq:g.get hm.n=_:=(xx hm.n (by omega)).trans r3
      obtain ⟨g2,hg2⟩:∃ g2,g2=g.put h1.n (.cells (wordsV (mix (soF) (fun _=>0) n (i+1))) 97 false):=⟨_,rfl⟩
      simp [l31_0,p15,p16,show (i:Int) < n by omega,show i < n by omega,p4,rd1_of hq,z1,show ¬ (i:Int)+1 < 0 by omega,tn,hmin,t1,z4,hwr,hs2,← hg2]
      exact ⟨k,Nat.lt_succ_self k,by omega,fun c hc=>by rw [hg2,get_put_ne hc,xx c hc],by rw [hg2,H.n_put];exact gn,by rw [hg2,get_put_same (H.get_lt w),hi2],by simp [p0],by simp [p2],by simp [p4],by simp [p15],by simp [hi2]⟩)
  obtain ⟨⟨sx,se,sh⟩,q1,q2,I⟩:=loop n ⟨[.int .i64 n,.ptr h.n 0,.int .i64 0,.ptr hm.n 0,.tup [],.int .i64 n,.int .i64 0],16,.int .i64 0⟩ h3 ⟨Nat.le_refl _,fun c _=>rfl,Nat.le_refl _,by rw [Nat.sub_self];exact rm3,by simp,by simp,by simp,by simp,by simp⟩
  simp only at q2 I
  subst q2
  obtain ⟨_,xx,gn,w,p0,p2,p4,p15,p16⟩:=I
  rw [Nat.sub_zero,mix_full] at w
  have rq:sh.get hm.n=_:=(xx hm.n (by omega)).trans r3
  have zn1:IntKind.i64.wrap ((n:Int) - 1)=((n - 1:Nat):Int):=by rw [wi64 (by omega) (by omega)];omega
  have hwr:=fun v=>wr1_of w (o:=n - 1) (by rw [wordsV_length,tabN_length];omega) v
  have hs2:(wordsV (tabN soF n)).set (n - 1) (.int .u16 32768)=wordsV ((tabN soF n).set (n - 1) 32768):=wordsV_set (tabN soF n) (n - 1) 32768
  have hst:(tabN soF n).set (n - 1) 32768=(steepP n).c:=by
   apply List.ext_getElem
   ·simp [steepP,tabN]
   ·intro i h1 h2
    have hi:i < n:=by simpa [tabN] using h1
    rw [List.getElem_set]
    simp only [steepP,tabN,List.getElem_map,List.getElem_range,stF,soF]
    by_cases e:n - 1=i
    · rw [if_pos e,if_pos (by omega)]
    · rw [if_neg e,if_neg (by omega)]
  rw [hst] at hs2
  obtain ⟨sh2,hsh2⟩:∃ g,g=sh.put h1.n (.cells (wordsV (steepP n).c) 97 false):=⟨_,rfl⟩
  have w2:sh2.get h1.n=some (.cells (wordsV (steepP n).c) 97 false):=by rw [hsh2,get_put_same (H.get_lt w)]
  have rq2:sh2.get hm.n=_:=(show sh2.get hm.n=sh.get hm.n by rw [hsh2,get_put_ne (by omega)]).trans rq
  have ra:sh2.get h.n=_:=(show sh2.get h.n=sh.get h.n by rw [hsh2,get_put_ne (by omega)]).trans ((xx h.n (by omega)).trans ra3)
  have hnl:n - 1 < n:=by omega
  obtain ⟨h8,hh8⟩:∃ g,g=sh2.put h.n (.cells [.sl h1.n 0 n (.ex n),.int .i64 0] 76 false):=⟨_,rfl⟩
  have r8:h8.get h.n=some (.cells [.sl h1.n 0 n (.ex n),.int .i64 0] 76 false):=by rw [hh8,get_put_same (H.get_lt ra)]
  have b8:h8.get h1.n=some (.cells (wordsV (steepP n).c) 97 false):=by rw [hh8,get_put_ne (by omega)];exact w2
  have hsz:=sizes80_ok (n:Int) h1
  rw [show (decide (2≤(n:Int)) && decide ((n:Int)≤16))=true by rw [Bool.and_eq_true,decide_eq_true_eq,decide_eq_true_eq];omega] at hsz
  have hms:ms h1 97 2 [(.int .u16 0)] (.int .i64 n) (.int .i64 n)=some (.sl h1.n 0 n (.ex n),hm):=by
   simp only [ms]
   rw [if_pos ⟨by omega,by omega,by omega,by omega,trivial⟩,Int.toNat_natCast,zeros (soF),← hhm]
  rw [w31,f31,s31]
  simp [nw,← hh1,hsz,hms,bl,fillW,splice,wrN_of (o:=0) get_new_same,← hh3,rd1_of r3,q1,p4,rd1_of rq,p0,zn1,hnl,hwr,hs2,← hsh2,rdN_of (o:=0) (n:=2) rq2 (by simp),p2,wrN_of (o:=0) ra,← hh8,rdN_of (o:=0) (n:=2) r8 (by simp)]
  refine ⟨_,rfl,⟨.sl h1.n 0 n (.ex n),rfl,?_,fun y hy=>?_⟩,?_⟩
  ·show SlR _ h8 _ _ 1 (tabN (stF n) n).length _
   rw [tabN_length]
   exact SlR.of b8 (by rw [wordsV_length,steepP,tabN_length];omega) (show h.n≤h1.n by omega)
  ·obtain ⟨i,hi,rfl⟩:=mem_tabN hy
   have:=stF_le n i;omega
  ·refine ⟨by rw [hh8,H.n_put,hsh2,H.n_put];omega,fun c hc=>?_⟩
   rw [hh8,get_put_ne (by omega),hsh2,get_put_ne (by omega),xx c (by omega),x3.get c (by omega),xm.get c (by omega),x1.get c hc]
open Go.Zf (wi64)
def SH:List (Nat × Nat × Bool) :=
  [(8,10,false),(4,8,false),(3,2,false),(3,2,false),(4,13,false),(8,7,false),(1,13,false),(1,14,false),(1,8,false),(2,16,true),(1,2,false),(3,3,false),(3,9,false),(1,2,false),(3,3,false),(1,2,false),(3,4,false),(1,4,false),(2,11,true),(2,8,false),(1,3,false),(1,2,false),(4,2,false),(2,5,false),(2,7,false),(2,9,false),(2,11,false),(2,3,true),(10,4,true),(14,4,true),(6,2,false),(3,2,false)]
def cx (k:Nat):Nat:=(SH.getD k (0,0,false)).1
def vl (k:Nat):Nat:=(SH.getD k (0,0,false)).2.1
def stp (k:Nat):Bool:=(SH.getD k (0,0,false)).2.2
theorem cx_le {k:Nat} (h:k < 32):1≤cx k∧cx k≤14:=by
  have:∀ k,k < 32→1≤cx k∧cx k≤14:=by decide
  exact this k h
theorem vl_le {k:Nat} (h:k < 32):2≤vl k∧vl k≤16:=by
  have:∀ k,k < 32→2≤vl k∧vl k≤16:=by decide
  exact this k h
def tri (s:Nat × Nat × Bool):List V:=[.int .i64 s.1,.int .i64 s.2.1,.bool s.2.2]
def triN (s:Nat × Nat × Bool):List V:=[.int .i64 s.1,.int .i64 s.2.1,.int .i64 (if s.2.2 then 1 else 0)]
def shV:List V:=SH.flatMap tri
def rowV:List V:=SH.flatMap triN
theorem flat3 {α:Type} (f:α→List V) (hf:∀ a,(f a).length=3):∀ (l:List α) (k:Nat) (a:α),l[k]?=some a→((l.flatMap f).drop (k*3)).take 3=f a∧k*3+3≤(l.flatMap f).length
  | [],k,a,h=>by simp at h
  | x :: l,0,a,h=>by
   simp at h;subst h
   rw [List.flatMap_cons,Nat.zero_mul,List.drop_zero,List.take_append_of_le_length (by rw [hf];omega),List.take_of_length_le (by rw [hf];omega)]
   exact ⟨rfl,by rw [List.length_append,hf];omega⟩
  | x :: l,k+1,a,h=>by
   have ih:=flat3 f hf l k a (by simpa using h)
   rw [List.flatMap_cons,List.drop_append,hf,List.drop_of_length_le (by rw [hf];omega),List.nil_append,show (k+1)*3 - 3=k*3 by omega]
   exact ⟨ih.1,by rw [List.length_append,hf];omega⟩
theorem SH_get {k:Nat} (h:k < 32):SH[k]?=some (cx k,vl k,stp k):=by
  have:∀ k,k < 32→SH[k]?=some (cx k,vl k,stp k):=by decide
  exact this k h
theorem shV_at {k:Nat} (h:k < 32):(shV.drop (k*3)).take 3=[.int .i64 (cx k),.int .i64 (vl k),.bool (stp k)]:=(flat3 tri (fun _=>rfl) SH k _ (SH_get h)).1
theorem rowV_at {k:Nat} (h:k < 32):(rowV.drop (k*3)).take 3=[.int .i64 (cx k),.int .i64 (vl k),.int .i64 (if stp k then 1 else 0)]:=(flat3 triN (fun _=>rfl) SH k _ (SH_get h)).1
theorem shV_len:shV.length=96:=by kernel_rfl
theorem rowV_len:rowV.length=96:=by kernel_rfl
def zeroSh:List V:=(List.replicate 32 [V.int .i64 0,V.int .i64 0,V.bool false]).flatten
theorem zeroSh_len:zeroSh.length=96:=by kernel_rfl
theorem s53_eq (K:Oracle) (L:Looper) (h:H):s29 K L ⟨[V.und],0,V.und⟩ h=bf (stZ 96 (h.new (.cells zeroSh 70 false)) (.ptr h.n 0) (.agg shV)) fun _ h1=>some ⟨.rt,⟨[.ptr h.n 0],0,.ptr h.n 0⟩,h1⟩:=by
  have e1:s29 K L ⟨[V.und],0,V.und⟩ h=sq (bf (stZ 96 (h.new (.cells zeroSh 70 false)) (.ptr h.n 0) (.agg shV)) fun _ h1=>some ⟨.nm,⟨[.ptr h.n 0],0,.ptr h.n 0⟩,h1⟩) fun e h=>some ⟨.rt,e,h⟩:=by kernel_rfl
  rw [e1]
  cases stZ 96 (h.new (.cells zeroSh 70 false)) (.ptr h.n 0) (.agg shV) with
  | none=>rfl
  | some x=>obtain ⟨a,b⟩:=x;rfl
theorem s48_eq (K:Oracle) (L:Looper) (h:H):s35 K L ⟨[V.und],0,V.und⟩ h=some ⟨.rt,⟨[.sl h.n 0 32 (.ex 32)],0,.sl h.n 0 32 (.ex 32)⟩,h.new (.cells rowV 81 false)⟩:=by kernel_rfl
theorem shapes53_ok (h:H):RT (fun w h'=>w=.agg shV∧Ext h h') (KW 29 [] h):=by
  obtain ⟨g,hg⟩:∃ g,g=(h.new (.cells zeroSh 70 false)).put h.n (.cells shV 70 false):=⟨_,rfl⟩
  have g0:g.get h.n=some (.cells shV 70 false):=by rw [hg,get_put_same (by rw [H.n_new];omega)]
  have hw:(h.new (.cells zeroSh 70 false)).wrN h.n 0 shV=some g:=by
   rw [wrN_of (o:=0) get_new_same (by rw [shV_len,zeroSh_len];omega),hg,splice]
   simp [shV_len,zeroSh_len,List.drop_of_length_le]
  rw [w29,f29,s53_eq]
  simp [shV_len,hw,rdN_of (o:=0) (n:=96) g0 (by rw [shV_len];omega)]
  exact ⟨by rw [List.take_of_length_le (by rw [shV_len];omega)],by rw [hg];exact ((Ext.refl h).new _).put (Nat.le_refl _) _⟩
theorem rows48_ok (h:H):KW 35 [] h=some (.ret (.sl h.n 0 32 (.ex 32)),h.new (.cells rowV 81 false)):=by
  rw [w35,f35,s48_eq];simp
theorem shape33_ok (k:Int) (h:H):RT (fun w h'=>w=(if 0≤k∧k < 32 then .tup [.int .i64 (cx k.toNat),.int .i64 (vl k.toNat),.int .i64 0] else .tup [.int .i64 0,.int .i64 0,.int .i64 41])∧Ext h h') (KW 89 [.int .i64 k] h):=by
  rw [w89,f89,s89]
  by_cases h1:k < 0
  ·simp [h1,gl_t]
   exact ⟨by rw [if_neg (by omega)],Ext.refl h⟩
  ·by_cases h2:32≤k
   ·simp [h1,h2]
    exact ⟨by rw [if_neg (by omega)],Ext.refl h⟩
   ·obtain ⟨w,g,e1,rfl,x1⟩:=(shapes53_ok h).elim
    obtain ⟨n,rfl⟩:∃ n:Nat,k=n:=⟨k.toNat,by omega⟩
    have hn:n < 32:=by omega
    have hix:ixN 32 3 (.agg shV) (.int .i64 (n:Int))=some (.agg [.int .i64 (cx n),.int .i64 (vl n),.bool (stp n)]):=by
      simp only [ixN,Int.toNat_natCast]
      rw [if_pos ⟨by omega,by omega⟩,if_pos (by rw [shV_len];omega),shV_at hn]
    obtain ⟨g2,hg2⟩:∃ g2,g2=(g.new (.cells [.int .i64 0,.int .i64 0,.bool false] 69 false)).put g.n (.cells [.int .i64 (cx n),.int .i64 (vl n),.bool (stp n)] 69 false):=⟨_,rfl⟩
    have r2:g2.get g.n=some (.cells [.int .i64 (cx n),.int .i64 (vl n),.bool (stp n)] 69 false):=by rw [hg2,get_put_same (by rw [H.n_new];omega)]
    simp [h1,h2,show ¬ 32≤n by omega,e1,hix,nw,wrN_of (o:=0) get_new_same,splice,← hg2,rd1_of r2]
    exact ⟨by rw [if_pos (by omega)],by rw [hg2];exact (x1.new _).put x1.n _⟩
theorem shape68_ok (k:Int) (h:H):RT (fun w h'=>w=(if 0≤k∧k < 32 then .tup [.int .i64 (cx k.toNat),.int .i64 (vl k.toNat),.int .i64 0] else .tup [.int .i64 0,.int .i64 0,.int .i64 41])∧Ext h h') (KW 73 [.int .i64 k] h):=by
  rw [w73,f73,s73]
  by_cases h1:k < 0
  ·simp [h1,gl_t]
   exact ⟨by rw [if_neg (by omega)],Ext.refl h⟩
  ·by_cases h2:32≤k
   ·simp [h1,h2]
    exact ⟨by rw [if_neg (by omega)],Ext.refl h⟩
   ·obtain ⟨n,rfl⟩:∃ n:Nat,k=n:=⟨k.toNat,by omega⟩
    have hn:n < 32:=by omega
    have e1:=rows48_ok h
    obtain ⟨g,hg⟩:∃ g,g=h.new (.cells rowV 81 false):=⟨_,rfl⟩
    have x1:Ext h g:=by rw [hg];exact (Ext.refl h).new _
    have g0:g.get h.n=some (.cells rowV 81 false):=by rw [hg,get_new_same]
    rw [← hg] at e1
    have hrd:g.rdN h.n (n*3) 3=some [.int .i64 (cx n),.int .i64 (vl n),.int .i64 (if stp n then 1 else 0)]:=by
      rw [rdN_of g0 (by rw [rowV_len];omega),rowV_at hn]
    obtain ⟨y,hy⟩:∃ y:Int,y=(if stp n then 1 else 0):=⟨_,rfl⟩
    rw [← hy] at hrd
    obtain ⟨g2,hg2⟩:∃ g2,g2=(g.new (.cells [.int .i64 0,.int .i64 0,.int .i64 0] 81 false)).put g.n (.cells [.int .i64 (cx n),.int .i64 (vl n),.int .i64 y] 81 false):=⟨_,rfl⟩
    have r2:g2.get g.n=some (.cells [.int .i64 (cx n),.int .i64 (vl n),.int .i64 y] 81 false):=by rw [hg2,get_put_same (by rw [H.n_new];omega)]
    simp [h1,h2,show ¬ 32≤n by omega,e1,show (n:Int) < 32 by omega,hrd,nw,wrN_of (o:=0) get_new_same,splice,← hg2,rd1_of r2]
    exact ⟨rfl,by rw [hg2];exact (x1.new _).put x1.n _⟩
open Go.Zf (wi64)
def SetOk (S:List (List Tb)):Prop:=S.length=32∧∀ (k:Nat) (r:List Tb),S[k]?=some r→r.length=cx k∧∀ (i:Nat) (t:Tb),r[i]?=some t→t.c.length=vl k∧TabOk t
noncomputable instance (S:List (List Tb)):Decidable (SetOk S):=Classical.propDecidable _
def defT (k:Nat):Tb:=if stp k then steepP (vl k) else flatP (vl k)
def defR (k:Nat):List Tb:=List.replicate (cx k) (defT k)
def defS:List (List Tb):=(List.range 32).map defR
theorem tabN_nth (f:Nat→Nat) {m i:Nat} (h:i < m):nth (tabN f m) i=f i:=by
  rw [nth_of (by rw [tabN_length];exact h)];simp [tabN]
theorem flatP_ok {n:Nat} (h2:2≤n) (h16:n≤16):TabOk (flatP n):=by
  refine ⟨by simp only [flatP,tabN_length];omega,by simp [flatP],?_,?_⟩
  ·intro i hi
   simp only [flatP,tabN_length] at hi ⊢
   rw [tabN_nth _ (by omega),tabN_nth _ hi]
   exact Nat.div_le_div_right (Nat.mul_le_mul_left _ (by omega))
  ·simp only [flatP,tabN_length]
   rw [tabN_nth _ (by omega),flF,show n - 1+1=n by omega,Nat.mul_div_cancel _ (by omega)]
theorem steepP_ok {n:Nat} (h2:2≤n) (h16:n≤16):TabOk (steepP n):=by
  refine ⟨by simp only [steepP,tabN_length];omega,by simp [steepP],?_,?_⟩
  ·intro i hi
   simp only [steepP,tabN_length] at hi ⊢
   rw [tabN_nth _ (by omega),tabN_nth _ hi]
   have h1:=stF_le n i
   unfold stF at h1 ⊢
   rw [if_neg (by omega)] at h1 ⊢
   split
   ·exact h1
   ·have:32768 / pw (i+1+1)≤32768 / pw (i+1):=by
      rw [← half_div (i+1) (by omega)];exact Nat.div_le_self _ _
    exact Nat.sub_le_sub_left this _
  ·simp only [steepP,tabN_length]
   rw [tabN_nth _ (by omega),stF,if_pos (by omega)]
theorem defT_ok {k:Nat} (hk:k < 32):TabOk (defT k)∧(defT k).c.length=vl k:=by
  have:=vl_le hk
  unfold defT
  split
  ·exact ⟨steepP_ok this.1 this.2,by simp [steepP,tabN_length]⟩
  ·exact ⟨flatP_ok this.1 this.2,by simp [flatP,tabN_length]⟩
theorem defS_len:defS.length=32:=by simp [defS]
theorem defS_get {k:Nat} (hk:k < 32):defS[k]?=some (defR k):=by simp [defS,hk]
theorem defS_ok:SetOk defS:=by
  refine ⟨defS_len,fun k r hr=>?_⟩
  have hk:k < 32:=by
   by_cases e:k < 32
   ·exact e
   ·rw [List.getElem?_eq_none (by rw [defS_len];omega)] at hr;cases hr
  rw [defS_get hk] at hr
  cases hr
  refine ⟨by simp [defR],fun i t ht=>?_⟩
  have:t=defT k:=by
   unfold defR at ht
   rw [List.getElem?_replicate] at ht
   split at ht
   ·cases ht;rfl
   ·cases ht
  subst this
  exact ⟨(defT_ok hk).2,(defT_ok hk).1⟩
def RowW (D:Nat→Prop) (h:H) (v:V) (b:Nat) (r:List Tb):Prop :=
  (v=.nils∧r=[])∨∃ k c,v=.sl b 0 r.length k∧h.get b=some (.cells c tT false)∧c.length=r.length*2∧D b∧Els D h c r∧CapOk 2 r.length k
def RowsW (D:Nat→Prop) (h:H) (cs:List V) (S:List (List Tb)) (B:Nat→Nat):Prop :=
  (∀ (k:Nat) (r:List Tb),S[k]?=some r→∃ vr,cs[k]?=some vr∧RowW D h vr (B k) r)∧∀ i j,i < j→j < S.length→B i < B j
def SetW (D:Nat→Prop) (h:H) (v:V) (S:List (List Tb)):Prop :=
  ∃ cs B,((v=.nils∧S=[]∧cs=[])∨∃ b k,v=.sl b 0 S.length k∧h.get b=some (.cells cs tR false)∧cs.length=S.length∧D b∧CapOk 1 S.length k)∧RowsW D h cs S B
section setw
variable {D E:Nat→Prop} {h h':H} {v:V}
theorem RowW.rowR {b:Nat} {r:List Tb} (a:RowW D h v b r):RowR D h v r:=by
  rcases a with ⟨rfl,rfl⟩ | ⟨k,c,h1,h2,h3,h4,h5,h6⟩
  ·exact ⟨[],SlR.nil _ _ _ _,Els.nil _ _⟩
  ·exact ⟨c,by rw [h1];exact SlR.of h2 h3 h4 h6,h5⟩
theorem RowW.keep {b:Nat} {r:List Tb} (a:RowW D h v b r) (hk:∀ b c t,D b→t=tU∨t=tT→h.get b=some (.cells c t false)→h'.get b=h.get b):RowW D h' v b r:=by
  rcases a with a | ⟨k,c,h1,h2,h3,h4,h5,h6⟩
  ·exact .inl a
  ·exact .inr ⟨k,c,h1,by rw [hk b c tT h4 (.inr rfl) h2,h2],h3,h4,h5.keep (fun b c hd hb=>hk b c tU hd (.inl rfl) hb),h6⟩
theorem RowW.mono {b:Nat} {r:List Tb} (a:RowW D h v b r) (hd:∀ b,b < h.n→D b→E b):RowW E h v b r:=by
  rcases a with a | ⟨k,c,h1,h2,h3,h4,h5,h6⟩
  ·exact .inl a
  ·exact .inr ⟨k,c,h1,h2,h3,hd _ (H.get_lt h2) h4,h5.mono hd,h6⟩
theorem RowsW.keep {cs:List V} {S:List (List Tb)} {B:Nat→Nat} (a:RowsW D h cs S B) (hk:∀ b c t,D b→t=tU∨t=tT→h.get b=some (.cells c t false)→h'.get b=h.get b):RowsW D h' cs S B :=
  ⟨fun k r hr=>by obtain ⟨vr,h1,h2⟩:=a.1 k r hr;exact ⟨vr,h1,h2.keep hk⟩,a.2⟩
theorem RowsW.mono {cs:List V} {S:List (List Tb)} {B:Nat→Nat} (a:RowsW D h cs S B) (hd:∀ b,b < h.n→D b→E b):RowsW E h cs S B :=
  ⟨fun k r hr=>by obtain ⟨vr,h1,h2⟩:=a.1 k r hr;exact ⟨vr,h1,h2.mono hd⟩,a.2⟩
theorem SetW.keep {S:List (List Tb)} (a:SetW D h v S) (hk:∀ b,D b→b < h.n→h'.get b=h.get b):SetW D h' v S:=by
  obtain ⟨cs,B,h1,h2⟩:=a
  refine ⟨cs,B,?_,h2.keep fun b c t hd _ hb=>hk b hd (H.get_lt hb)⟩
  rcases h1 with a | ⟨b,k,a1,a2,a3,a4,a5⟩
  ·exact .inl a
  ·exact .inr ⟨b,k,a1,by rw [hk b a4 (H.get_lt a2),a2],a3,a4,a5⟩
theorem SetW.ext {S:List (List Tb)} (a:SetW D h v S) (x:Ext h h'):SetW D h' v S:=a.keep fun b _ hb=>x.get b hb
theorem SetW.mono {S:List (List Tb)} (a:SetW D h v S) (hd:∀ b,b < h.n→D b→E b):SetW E h v S:=by
  obtain ⟨cs,B,h1,h2⟩:=a
  refine ⟨cs,B,?_,h2.mono hd⟩
  rcases h1 with a | ⟨b,k,a1,a2,a3,a4,a5⟩
  ·exact .inl a
  ·exact .inr ⟨b,k,a1,a2,a3,hd _ (H.get_lt a2) a4,a5⟩
theorem SetW.setR {S:List (List Tb)} (a:SetW D h v S):SetR D h v S:=by
  obtain ⟨cs,B,h1,h2⟩:=a
  refine ⟨cs,?_,fun k r hr=>by obtain ⟨vr,k1,k2⟩:=h2.1 k r hr;exact ⟨vr,k1,k2.rowR⟩⟩
  rcases h1 with ⟨rfl,rfl,rfl⟩ | ⟨b,k,rfl,a2,a3,a4,a5⟩
  ·exact SlR.nil _ _ _ _
  ·exact SlR.of a2 (by omega) a4 a5
theorem pushT {p:Nat} {g:H} {cs:List V} {r:List Tb} {vc:V} {t:Tb} (G:GrowV p g v tT 2 cs r.length) (e:Els D g cs r) (u:U16 D g vc t.c) (hp:p≤g.n) (hl:r.length < 1000) :
   ∃ v' g',apZ 76 2 32 (g.new (.cells [vc,.int .i64 t.n] 76 false)) v (.sl g.n 0 1 (.ex 1))=some (v',g')∧GrowV p g' v' tT 2 (cs ++ [vc,.int .i64 t.n]) (r ++ [t]).length∧Els D g' (cs ++ [vc,.int .i64 t.n]) (r ++ [t])∧g.n≤g'.n∧(∀ c,c < g.n→(∀ o n k,v ≠ .sl c o n k)→g'.get c=g.get c):=by
  have g1:=G.ext ((Ext.refl g).new (.cells [vc,.int .i64 t.n] 76 false))
  obtain ⟨v',h',k1,k2,k3,k4,k5⟩:=apZ_grow (y:=.sl g.n 0 1 (.ex 1)) (m:=1) (new:=[vc,.int .i64 t.n]) (bytes:=32) g1 (by rw [H.n_new];omega) rfl (by
   show H.rdN _ _ _ _=_
   rw [rdN_of get_new_same (by simp)];rfl) (by simp) (by omega)
  have hcs:cs.length=r.length*2:=by
   rcases G with ⟨_,h2,rfl⟩ | ⟨b,_,_,h3,_⟩
   ·simp [h2]
   ·exact h3
  have hkeep:∀ c,c < g.n→(∀ o n k,v ≠ .sl c o n k)→h'.get c=g.get c:=fun c hc hv=>by rw [k4 c (by rw [H.n_new];omega) hv,get_new_lt hc]
  refine ⟨v',h',k1,by rw [List.length_append];exact k2,(e.snoc hcs u).keep fun b c hd hb=>hkeep b (H.get_lt hb) ?_,by rw [H.n_new] at k3;omega,hkeep⟩
  intro o n k ev
  rcases G with ⟨h1,_,_⟩ | ⟨b',h1,h2,_⟩
  ·rw [h1] at ev;cases ev
  ·rw [h1] at ev;cases ev;rw [h2] at hb;cases hb
theorem pushR {p q:Nat} {g:H} {cs:List V} {S:List (List Tb)} {B:Nat→Nat} {vr:V} {r:List Tb} (G:GrowV p g v tR 1 cs S.length) (e:RowsW D g cs S B) (hB:∀ i,i < S.length→B i < q) (R:∃ bb,RowW D g vr bb r∧q≤bb∧bb≤g.n) (hp:p≤g.n) (hq:q≤g.n) (hl:S.length < 1000) :
   ∃ v' g' B',apZ 73 1 24 (g.new (.cells [vr] 73 false)) v (.sl g.n 0 1 (.ex 1))=some (v',g')∧GrowV p g' v' tR 1 (cs ++ [vr]) (S ++ [r]).length∧RowsW D g' (cs ++ [vr]) (S ++ [r]) B'∧(∀ i,i < (S ++ [r]).length→B' i < g'.n)∧g.n≤g'.n∧(∀ c,c < g.n→(∀ o n k,v ≠ .sl c o n k)→g'.get c=g.get c):=by
  have g1:=G.ext ((Ext.refl g).new (.cells [vr] 73 false))
  obtain ⟨v',g',k1,k2,k3,k4',k5⟩:=apZ_grow (y:=.sl g.n 0 1 (.ex 1)) (m:=1) (new:=[vr]) (bytes:=24) g1 (by rw [H.n_new];omega) rfl (by
   show H.rdN _ _ _ _=_
   rw [rdN_of get_new_same (by simp)];rfl) (by simp) (by omega)
  have k4:∀ c,c < g.n→(∀ o n k,v ≠ .sl c o n k)→g'.get c=g.get c:=fun c hc hv=>by rw [k4' c (by rw [H.n_new];omega) hv,get_new_lt hc]
  rw [H.n_new] at k3
  have hcs:cs.length=S.length:=by
   rcases G with ⟨_,h2,rfl⟩ | ⟨b,_,_,h3,_⟩
   ·simp [h2]
   ·omega
  have hty:∀ b c t,D b→t=tU∨t=tT→g.get b=some (.cells c t false)→g'.get b=g.get b:=by
   intro b c t hd ht hb
   refine k4 b (H.get_lt hb) ?_
   intro o n k ev
   rcases G with ⟨h1,_,_⟩ | ⟨b',h1,h2,_⟩
   ·rw [h1] at ev;cases ev
   ·rw [h1] at ev;cases ev;rw [h2] at hb
    simp only [Option.some.injEq,Blk.cells.injEq] at hb
    rcases ht with rfl | rfl <;> (obtain ⟨_,hb,_⟩:=hb;cases hb)
  obtain ⟨bb,hbb,hbq,hbn⟩:∃ bb,RowW D g vr bb r∧q≤bb∧bb < g'.n:=by
   obtain ⟨bb,a1,a2,a3⟩:=R
   exact ⟨bb,a1,a2,by omega⟩
  refine ⟨v',g',fun i=>if i=S.length then bb else B i,k1,by rw [List.length_append];exact k2,⟨fun k r' hr=>?_,fun i j hij hj=>?_⟩,fun i hi=>?_,by omega,k4⟩
  ·by_cases ek:k < S.length
   ·rw [List.getElem?_append_left ek] at hr
    obtain ⟨vr',j1,j2⟩:=e.1 k r' hr
    refine ⟨vr',by rw [List.getElem?_append_left (by omega),j1],?_⟩
    simp only [if_neg (show k ≠ S.length by omega)]
    exact j2.keep hty
   ·have ek2:k=S.length:=by
      by_cases e2:k=S.length
      ·exact e2
      ·rw [List.getElem?_eq_none (by simp;omega)] at hr;cases hr
    subst ek2
    simp at hr
    subst hr
    refine ⟨vr,by rw [List.getElem?_append_right (by omega),hcs];simp,?_⟩
    simp only [if_true]
    exact hbb.keep hty
  ·simp only [List.length_append,List.length_cons,List.length_nil] at hj
   by_cases ej:j=S.length
   ·simp only [if_neg (show i ≠ S.length by omega),if_pos ej]
    have:=hB i (by omega);omega
   ·simp only [if_neg (show i ≠ S.length by omega),if_neg ej]
    exact e.2 i j hij (by omega)
  ·simp only [List.length_append,List.length_cons,List.length_nil] at hi
   by_cases ei:i=S.length
   ·simp only [if_pos ei];exact hbn
   ·simp only [if_neg ei]
    have:=hB i (by omega);omega
theorem growW {q:Nat} {g:H} {v:V} {rs:List V} {r:List Tb} (R:GrowV q g v tT 2 rs r.length) (re:Els D g rs r) (hD:∀ b,q≤b→D b) (hq:q≤g.n):∃ bb,RowW D g v bb r∧q≤bb∧bb≤g.n:=by
  rcases R with ⟨h1,h2,h3⟩ | ⟨b,h1,h2,h3,h4⟩
  ·exact ⟨q,.inl ⟨h1,List.length_eq_zero_iff.mp h2⟩,Nat.le_refl _,hq⟩
  ·exact ⟨b,.inr ⟨_,rs,h1,h2,h3,hD b h4,re,rfl⟩,h4,by have:=H.get_lt h2;omega⟩
theorem splice_get {cs:List V} {o j:Nat} {x y:V} (hl:o+2≤cs.length):(splice cs o [x,y])[j]?=if j=o then some x else if j=o+1 then some y else cs[j]?:=by
  unfold splice
  by_cases h1:j < o
  ·rw [List.getElem?_append_left (by rw [List.length_take];omega),List.getElem?_take,if_pos h1,if_neg (by omega),if_neg (by omega)]
  ·rw [List.getElem?_append_right (by rw [List.length_take];omega),List.length_take,Nat.min_eq_left (by omega)]
   by_cases h2:j=o
   ·rw [if_pos h2,h2,Nat.sub_self];rfl
   ·by_cases h3:j=o+1
    · rw [if_neg h2,if_pos h3,h3,Nat.add_sub_cancel_left];rfl
    · rw [if_neg h2,if_neg h3,List.getElem?_append_right (by simp;omega),List.getElem?_drop]
      congr 1
      simp;omega
theorem splice_len {cs:List V} {o:Nat} {vs:List V} (hl:o+vs.length≤cs.length):(splice cs o vs).length=cs.length:=by
  unfold splice;simp;omega
theorem Els.set {cs:List V} {r:List Tb} {i:Nat} {vc:V} {t:Tb} (a:Els D h cs r) (hl:cs.length=r.length*2) (hi:i < r.length) (u:U16 D h vc t.c):Els D h (splice cs (i*2) [vc,.int .i64 t.n]) (r.set i t):=by
  intro j s hj
  rw [List.getElem?_set] at hj
  rw [splice_get (by omega),splice_get (by omega)]
  by_cases e:i=j
  ·subst e
   rw [if_pos rfl,if_pos hi] at hj
   cases hj
   exact ⟨vc,by rw [if_pos (by omega)],by rw [if_neg (by omega),if_pos (by omega)],u⟩
  ·rw [if_neg e] at hj
   obtain ⟨v,h1,h2,h3⟩:=a j s hj
   exact ⟨v,by rw [if_neg (by omega),if_neg (by omega),h1],by rw [if_neg (by omega),if_neg (by omega),h2],h3⟩
end setw
open Go.Zf (wi64)
def RowG (q:Nat) (g:H) (v:V) (r:List Tb):Prop:=∃ cs,GrowV q g v tT 2 cs r.length∧Els (fun b=>q≤b) g cs r
theorem RowG.nil (q:Nat) (g:H):RowG q g .nils []:=⟨[],GrowV.nil _ _ _ _,Els.nil _ _⟩
theorem RowG.ext {q:Nat} {g g':H} {v:V} {r:List Tb} (a:RowG q g v r) (x:Ext g g'):RowG q g' v r:=by
  obtain ⟨cs,h1,h2⟩:=a;exact ⟨cs,h1.ext x,h2.ext x⟩
theorem RowG.len {q:Nat} {g:H} {v:V} {r:List Tb} (a:RowG q g v r):lnS v=some (.int .i64 r.length):=by
  obtain ⟨cs,h1,h2⟩:=a;exact h1.len
theorem RowG.push {q:Nat} {g:H} {v vc:V} {r:List Tb} {t:Tb} (a:RowG q g v r) (u:U16 (fun b=>q≤b) g vc t.c) (hq:q≤g.n) (hl:r.length < 1000) :
   ∃ v' g',apZ 76 2 32 (g.new (.cells [vc,.int .i64 t.n] 76 false)) v (.sl g.n 0 1 (.ex 1))=some (v',g')∧RowG q g' v' (r ++ [t])∧g.n≤g'.n∧∀ c,c < q→g'.get c=g.get c:=by
  obtain ⟨cs,h1,h2⟩:=a
  obtain ⟨v',g',k1,k2,k3,k4,k5⟩:=pushT h1 h2 u hq hl
  exact ⟨v',g',k1,⟨_,k2,k3⟩,k4,fun c hc=>k5 c (by omega) (h1.fresh.ne hc)⟩
structure I24 (h0:H) (k q R:Nat) (p2 p3:Nat) (n:Nat) (e:E) (g:H):Prop where
  hn:n≤cx k
  x:∀ c,c < q→g.get c=h0.get c
  gn:q≤g.n
  r:∃ v,e.s [0,1,2,3,4,5,6] 4=v∧RowG q g v (List.replicate (cx k - n) (defT k))
  e0:e.s [0,1,2,3,4,5,6] 0=.ptr p2 0
  e1:e.s [0,1,2,3,4,5,6] 1=.ptr p3 0
  e2:e.s [0,1,2,3,4,5,6] 2=.sl R 0 32 (.ex 32)
  e3:e.s [0,1,2,3,4,5,6] 3=.int .i64 k
  e5:e.s [0,1,2,3,4,5,6] 5=.int .i64 ((cx k - n:Nat):Int)
theorem rowV_at3 {k j:Nat} (h:k < 32) (hj:j < 3):rowV[k*3+j]?=[V.int .i64 (cx k),.int .i64 (vl k),.int .i64 (if stp k then 1 else 0)][j]?:=by
  have:=rowV_at h
  rw [← this,List.getElem?_take,if_pos hj,List.getElem?_drop]
theorem loopD24 {h0:H} {k q R p2 p3:Nat} (hk:k < 32) (hR:h0.get R=some (.cells rowV 81 false)) (hRq:R < q) {e:E} {g:H} (hi:I24 h0 k q R p2 p3 (cx k) e g) :
   ∃ e' g',loopZ (l9_0 KW loopZ) e g=some ⟨.ex 2,e',g'⟩∧I24 h0 k q R p2 p3 0 e' g':=by
  have hv:=vl_le hk
  have hc14:=cx_le hk
  have loop:=loop_run (body:=l9_0 KW loopZ) (I24 h0 k q R p2 p3) (fun s=>s.x=.ex 2∧I24 h0 k q R p2 p3 0 s.e s.h)
   (fun n e g hi=>by
    obtain ⟨hn,x,gn,⟨v,e4,G⟩,e0,e1,e2,e3,e5⟩:=hi
    have hRg:g.get R=some (.cells rowV 81 false):=by rw [x R hRq,hR]
    have q0:=rowV_at3 hk (show 0 < 3 by omega)
    have q1:=rowV_at3 hk (show 1 < 3 by omega)
    have q2:=rowV_at3 hk (show 2 < 3 by omega)
    simp at q0 q1 q2
    cases n with
    | zero =>
      simp [l9_0,e2,e3,hk,show (k:Int) < 32 by omega,rd1_of hRg,q0,e5]
      exact ⟨rfl,hn,x,gn,⟨v,by simp [e4],G⟩,by simp [e0],by simp [e1],by simp [e2],by simp [e3],by simp [e5]⟩
    | succ n =>
      obtain ⟨c,hc⟩:∃ c,c=cx k - (n+1):=⟨_,rfl⟩
      have hc2:cx k - n=c+1:=by omega
      rw [← hc] at e5 G
      have z1:IntKind.i64.wrap ((c:Int)+1)=c+1:=wi64 (by omega) (by omega)
      obtain ⟨w,g1,a1,vt,rfl,⟨vc,rfl,U⟩,x1⟩:=(flat49_ok hv.1 hv.2 g).elim
      obtain ⟨g2,hg2⟩:∃ g2,g2=(g1.new (.cells [.nils,.int .i64 0] 76 false)).put g1.n (.cells [vc,.int .i64 0] 76 false):=⟨_,rfl⟩
      have x2:Ext g1 g2:=by rw [hg2];exact ((Ext.refl g1).new _).put (Nat.le_refl _) _
      have n2:g2.n=g1.n+1:=by rw [hg2,H.n_put,H.n_new]
      have b2:g2.get g1.n=some (.cells [vc,.int .i64 0] 76 false):=by rw [hg2,get_put_same (by rw [H.n_new];omega)]
      have hRg2:g2.get R=_:=(x2.get _ (by have:=H.get_lt hRg;have:=x1.n;omega)).trans ((x1.get _ (H.get_lt hRg)).trans hRg)
      have n1:=x1.n
      cases hs:stp k with
      | false =>
       rw [hs] at q2
       simp at q2
       have hT:defT k=flatP (vl k):=by rw [defT,hs];rfl
       have U2:U16 (fun b=>q≤b) g2 vc (defT k).c:=by rw [hT];exact (U.ext x2).mono fun b _ hb=>Nat.le_trans gn hb
       obtain ⟨v',g3,c1,c2,c3,c4⟩:=((G.ext x1).ext x2).push U2 (by omega) (by simp;omega)
       rw [show (defT k).n=0 by rw [hT];rfl] at c1
       simp [l9_0,e2,e3,hk,show (k:Int) < 32 by omega,rd1_of hRg,q0,e5,show c < cx k by omega,show (c:Int) < cx k by omega,q1,a1,nw,wrN_of (o:=0) get_new_same,splice,flatP,← hg2,rd1_of hRg2,q2,rdN_of (o:=0) (n:=2) b2 (by simp),bs,fillW,e4,c1,z1]
       exact ⟨n,Nat.lt_succ_self n,by omega,fun b hb=>by rw [c4 b hb,x2.get b (by omega),x1.get b (by omega),x b hb],by omega,⟨v',by simp,by rw [hc2,List.replicate_succ'];exact c2⟩,by simp [e0],by simp [e1],by simp [e2],by simp [e3],by simp [hc2]⟩
      | true =>
       rw [hs] at q2
       simp at q2
       have hT:defT k=steepP (vl k):=by rw [defT,hs];rfl
       obtain ⟨w,g4,a4,vt,rfl,⟨vc4,rfl,U4⟩,x4⟩:=(steep50_ok hv.1 hv.2 g2).elim
       have b4:g4.get g1.n=_:=(x4.get _ (H.get_lt b2)).trans b2
       obtain ⟨g5,hg5⟩:∃ g5,g5=g4.put g1.n (.cells [vc4,.int .i64 0] 76 false):=⟨_,rfl⟩
       have b5:g5.get g1.n=some (.cells [vc4,.int .i64 0] 76 false):=by rw [hg5,get_put_same (H.get_lt b4)]
       have n4:=x4.n
       have n5:g5.n=g4.n:=by rw [hg5,H.n_put]
       have U5:U16 (fun b=>q≤b) g5 vc4 (defT k).c:=by
        rw [hT]
        refine (U4.keep fun b c hb hbc=>?_).mono fun b _ hb=>Nat.le_trans gn (by omega)
        rw [hg5,get_put_ne];omega
       have G5:RowG q g5 v (List.replicate c (defT k)):=by
        obtain ⟨cs,G1,G2⟩:=((G.ext x1).ext x2).ext x4
        have hvu:=G.elim fun cs hh=>hh.1.under
        refine ⟨cs,G1.keep fun c o m k' ev=>?_,G2.keep fun b c hb hbc=>?_⟩
        ·rw [hg5,get_put_ne];have:=hvu _ _ _ _ ev;omega
        ·rw [hg5,get_put_ne];intro e;subst e;rw [b4] at hbc;cases hbc
       obtain ⟨v',g3,c1,c2,c3,c4⟩:=G5.push U5 (by omega) (by simp;omega)
       rw [show (defT k).n=0 by rw [hT];rfl] at c1
       simp [l9_0,e2,e3,hk,show (k:Int) < 32 by omega,rd1_of hRg,q0,e5,show c < cx k by omega,show (c:Int) < cx k by omega,q1,a1,nw,wrN_of (o:=0) get_new_same,splice,flatP,← hg2,rd1_of hRg2,q2,a4,steepP,wrN_of (o:=0) b4,← hg5,rdN_of (o:=0) (n:=2) b5 (by simp),bs,fillW,e4,c1,z1]
       exact ⟨n,Nat.lt_succ_self n,by omega,fun b hb=>by rw [c4 b hb,hg5,get_put_ne (by omega),x4.get b (by omega),x2.get b (by omega),x1.get b (by omega),x b hb],by omega,⟨v',by simp,by rw [hc2,List.replicate_succ'];exact c2⟩,by simp [e0],by simp [e1],by simp [e2],by simp [e3],by simp [hc2]⟩)
  obtain ⟨⟨x,e',g'⟩,r1,r2,r3⟩:=loop (cx k) e g hi
  simp only at r2 r3
  subst r2
  exact ⟨e',g',r1,r3⟩
def defK (k:Nat):List (List Tb):=(List.range k).map defR
theorem defK_len (k:Nat):(defK k).length=k:=by simp [defK]
theorem defK_succ (k:Nat):defK (k+1)=defK k ++ [defR k]:=by simp [defK,List.range_succ]
def SetG (p Q:Nat) (g:H) (S:List (List Tb)):Prop :=
  ∃ ov cs B,g.get Q=some (.cells [ov] 29 false)∧GrowV p g ov tR 1 cs S.length∧RowsW (fun b=>p≤b) g cs S B∧∀ i,i < S.length→B i < g.n
theorem SetG.keep {p Q:Nat} {g g':H} {S:List (List Tb)} (a:SetG p Q g S) (hQ:Q < p) (hn:g.n≤g'.n) (hk:∀ c,c < g.n→g'.get c=g.get c):SetG p Q g' S:=by
  obtain ⟨ov,cs,B,h1,h2,h3,h4⟩:=a
  exact ⟨ov,cs,B,by rw [hk _ (H.get_lt h1),h1],h2.keep fun c o m k e=>hk c (h2.under _ _ _ _ e),h3.keep fun b c t _ _ hb=>hk b (H.get_lt hb),fun i hi=>by have:=h4 i hi;omega⟩
theorem SetG.push {p Q:Nat} {g g':H} {S:List (List Tb)} {v:V} {r:List Tb} (a:SetG p Q g S) (hQ:Q < p) (hg:∀ c,c < g.n→g'.get c=g.get c) (hn:g.n≤g'.n) (hp:p≤g.n) (R:∃ bb,RowW (fun b=>p≤b) g' v bb r∧g.n≤bb∧bb≤g'.n) (hl:S.length < 1000) :
   ∃ ov v' g1 g2,g'.get Q=some (.cells [ov] 29 false)∧apZ 73 1 24 (g'.new (.cells [v] 73 false)) ov (.sl g'.n 0 1 (.ex 1))=some (v',g1)∧g1.wr1 Q 0 v'=some g2∧(∀ h b o,stZ 1 h (.ptr b o) v'=(h.wr1 b o v').bind fun h'=>some (.und,h'))∧SetG p Q g2 (S ++ [r])∧(∀ c,c < p→c ≠ Q→g2.get c=g.get c)∧g'.n≤g2.n∧(∀ {β:Type} (k:Option β),ck (some ov) ov k=k):=by
  obtain ⟨ov,cs,B,h1,h2,h3,h4⟩:=a
  replace h2:GrowV p g' ov tR 1 cs S.length:=h2.keep fun c o m k e=>hg c (h2.under _ _ _ _ e)
  replace h3:RowsW (fun b=>p≤b) g' cs S B:=h3.keep fun b c t _ _ hb=>hg b (H.get_lt hb)
  replace h1:g'.get Q=some (.cells [ov] 29 false):=by rw [hg _ (H.get_lt h1),h1]
  obtain ⟨v',g1,B',k1,k2,k3,k4,k5,k6⟩:=pushR (q:=g.n) h2 h3 h4 R (by omega) hn hl
  have hQ1:g1.get Q=some (.cells [ov] 29 false):=by rw [k6 Q (by omega) (h2.fresh.ne hQ),h1]
  obtain ⟨g2,hg2⟩:∃ g2,g2=g1.put Q (.cells [v'] 29 false):=⟨_,rfl⟩
  have n2:g2.n=g1.n:=by rw [hg2,H.n_put]
  refine ⟨ov,v',g1,g2,h1,k1,by rw [wr1_of hQ1 (by simp),hg2];rfl,k2.stZ,⟨v',cs ++ [v],B',by rw [hg2,get_put_same (H.get_lt hQ1)],?_,?_,fun i hi=>by have:=k4 i hi;omega⟩,fun c hc hcq=>by rw [hg2,get_put_ne hcq,k6 c (by omega) (h2.fresh.ne hc),hg c (by omega)],by omega,fun k=>by simp [ck,h2.same]⟩
  ·rw [hg2];exact k2.put (k2.fresh.ne hQ)
  ·refine k3.keep fun b c t hb ht hbc=>?_
   rw [hg2,get_put_ne];rintro rfl;have hb:p≤b:=hb;omega
theorem RowG.cells {q:Nat} {g:H} {v:V} {r:List Tb} (a:RowG q g v r):V.cells v=some [v]:=by
  obtain ⟨cs,h1,h2⟩:=a;exact h1.cells
theorem RowG.rowW {q:Nat} {D:Nat→Prop} {g:H} {v:V} {r:List Tb} (a:RowG q g v r) (hq:q≤g.n) (hD:∀ b,q≤b→D b):∃ bb,RowW D g v bb r∧q≤bb∧bb≤g.n:=by
  obtain ⟨cs,h1,h2⟩:=a;exact growW h1 (h2.mono fun b _ hb=>hD b hb) hD hq
theorem SetG.nil {p Q:Nat} {g:H} (h:g.get Q=some (.cells [.nils] 29 false)):SetG p Q g [] :=
  ⟨.nils,[],fun _=>0,h,GrowV.nil _ _ _ _,⟨fun k r hr=>by simp at hr,fun i j _ hj=>by simp at hj⟩,fun i hi=>by simp at hi⟩
theorem SetG.setW {p Q:Nat} {g:H} {S:List (List Tb)} (a:SetG p Q g S):∃ v,g.get Q=some (.cells [v] 29 false)∧SetW (fun b=>p≤b) g v S:=by
  obtain ⟨ov,cs,B,h1,h2,h3,h4⟩:=a
  refine ⟨ov,h1,cs,B,?_,h3⟩
  rcases h2 with ⟨e1,e2,e3⟩ | ⟨b,e1,e2,e3,e4⟩
  ·exact .inl ⟨e1,List.length_eq_zero_iff.mp e2,e3⟩
  ·exact .inr ⟨b,_,e1,e2,by omega,e4,rfl⟩
structure O24 (h0:H) (P Q R:Nat) (n:Nat) (e:E) (g:H):Prop where
  hn:n≤32
  x:∀ c,c < h0.n→c ≠ Q→g.get c=h0.get c
  gn:h0.n≤g.n
  b:SetG h0.n Q g (defK (32 - n))
  e0:e.s [0,1,2,3,4,5,6] 0=.ptr P 0
  e1:e.s [0,1,2,3,4,5,6] 1=.ptr Q 0
  e2:e.s [0,1,2,3,4,5,6] 2=.sl R 0 32 (.ex 32)
  e3:e.s [0,1,2,3,4,5,6] 3=.int .i64 ((32 - n:Nat):Int)
theorem default24_ok (h:H):RT (fun w h'=>∃ v,w=.agg [v]∧SetW (fun b=>h.n≤b) h' v defS∧Ext h h') (KW 9 [] h):=by
  obtain ⟨h1,hh1⟩:∃ g,g=h.new (.cells [.nils] 29 false):=⟨_,rfl⟩
  obtain ⟨h2,hh2⟩:∃ g,g=h1.new (.cells [.nils] 29 false):=⟨_,rfl⟩
  obtain ⟨h3,hh3⟩:∃ g,g=h2.new (.cells rowV 81 false):=⟨_,rfl⟩
  have x1:Ext h h1:=by rw [hh1];exact (Ext.refl h).new _
  have x2:Ext h1 h2:=by rw [hh2];exact (Ext.refl h1).new _
  have x3:Ext h2 h3:=by rw [hh3];exact (Ext.refl h2).new _
  have n1:h1.n=h.n+1:=by rw [hh1,H.n_new]
  have n2:h2.n=h1.n+1:=by rw [hh2,H.n_new]
  have n3:h3.n=h2.n+1:=by rw [hh3,H.n_new]
  have gP:h3.get h.n=some (.cells [.nils] 29 false):=by rw [x3.get _ (by omega),x2.get _ (by omega),hh1,get_new_same]
  have gQ:h3.get h1.n=some (.cells [.nils] 29 false):=by rw [x3.get _ (by omega),hh2,get_new_same]
  have gR:h3.get h2.n=some (.cells rowV 81 false):=by rw [hh3,get_new_same]
  have e48:=rows48_ok h2
  rw [← hh3] at e48
  have loop:=loop_run (body:=l9_1 KW loopZ) (O24 h3 h.n h1.n h2.n) (fun s=>s.x=.ex 0∧O24 h3 h.n h1.n h2.n 0 s.e s.h)
   (fun n e g hi=>by
    obtain ⟨hn,x,gn,b,e0,e1,e2,e3⟩:=hi
    cases n with
    | zero =>
      simp [l9_1,e2,e3]
      exact ⟨rfl,hn,x,gn,b,by simp [e0],by simp [e1],by simp [e2],by simp [e3]⟩
    | succ n =>
      obtain ⟨k,hk⟩:∃ k,k=32 - (n+1):=⟨_,rfl⟩
      have hk2:32 - n=k+1:=by omega
      have hkl:k < 32:=by omega
      rw [← hk] at e3 b
      have z1:IntKind.i64.wrap ((k:Int)+1)=k+1:=wi64 (by omega) (by omega)
      have gRg:g.get h2.n=some (.cells rowV 81 false):=by rw [x _ (by omega) (by omega),gR]
      obtain ⟨f,g1,j1,I⟩:=loopD24 (h0:=g) (k:=k) (q:=g.n) (R:=h2.n) (p2:=h.n) (p3:=h1.n) hkl gRg (by omega) (e:=⟨[.ptr h.n 0,.ptr h1.n 0,.sl h2.n 0 32 (.ex 32),.int .i64 k,.nils,.int .i64 0,e.s [0,1,2,3,4,5,6] 6],5,.int .i64 0⟩) (g:=g)
       ⟨Nat.le_refl _,fun _ _=>rfl,Nat.le_refl _,⟨.nils,by simp,by rw [Nat.sub_self];exact RowG.nil _ _⟩,by simp,by simp,by simp,by simp,by simp⟩
      obtain ⟨_,x',gn',⟨v,f4,G⟩,f0,f1,f2,f3,f5⟩:=I
      rw [Nat.sub_zero] at G
      obtain ⟨ov,v',g2,g3,c1,c2,c3,c4,c5,c6,c7,c8⟩:=b.push (by omega) x' gn' gn (G.rowW gn' fun b hb=>Nat.le_trans gn hb) (by rw [defK_len];omega)
      simp [l9_1,e2,e3,show (k:Int) < 32 by omega,hkl,e0,e1,j1,f1,rd1_of c1,f4,bs,fillW,G.cells,splice,c2,c4,c3,f3,z1]
      exact ⟨n,Nat.lt_succ_self n,by omega,fun c hc hcq=>by rw [c6 c hc hcq,x c hc hcq],by omega,by rw [hk2,defK_succ];exact c5,by simp [f0],by simp [f1],by simp [f2],by simp [hk2]⟩)
  obtain ⟨⟨sx,se,sh⟩,q1,q2,I⟩:=loop 32 ⟨[.ptr h.n 0,.ptr h1.n 0,.sl h2.n 0 32 (.ex 32),.int .i64 0,.tup [],.tup [],.tup []],3,.int .i64 0⟩ h3 ⟨Nat.le_refl _,fun _ _ _=>rfl,Nat.le_refl _,SetG.nil gQ,by simp,by simp,by simp,by simp⟩
  simp only at q2 I
  subst q2
  obtain ⟨_,x,gn,b,e0,e1,e2,e3⟩:=I
  obtain ⟨v,sQ,W⟩:=b.setW
  have sP:sh.get h.n=some (.cells [.nils] 29 false):=by rw [x _ (by omega) (by omega),gP]
  obtain ⟨h8,hh8⟩:∃ g,g=sh.put h.n (.cells [v] 29 false):=⟨_,rfl⟩
  have r8:h8.get h.n=some (.cells [v] 29 false):=by rw [hh8,get_put_same (H.get_lt sP)]
  rw [w9,f9,s9]
  simp [nw,← hh1,← hh2,e48,q1,e1,rdN_of (o:=0) (n:=1) sQ (by simp),e0,wrN_of (o:=0) sP,splice,← hh8,rdN_of (o:=0) (n:=1) r8 (by simp)]
  refine ⟨v,rfl,?_,?_⟩
  ·have W8:SetW (fun b=>h3.n≤b) h8 v (defK (32 - 0)):=W.keep fun b hb _=>by rw [hh8,get_put_ne];have hb:h3.n≤b:=hb;omega
   exact W8.mono fun b _ hb=>by have hb:h3.n≤b:=hb;show h.n≤b;omega
  ·refine ⟨by rw [hh8,H.n_put];omega,fun c hc=>?_⟩
   rw [hh8,get_put_ne (by omega),x c (by omega) (by omega),x3.get c (by omega),x2.get c (by omega),x1.get c hc]
open Go.Zf (wi64)
theorem reps_len (n:Nat) (l:List V):(reps n l).length=n*l.length:=by
  induction n with
  | zero=>simp [reps]
  | succ n ih=>simp [reps,ih,Nat.add_mul];omega
theorem Els.zeros (D:Nat→Prop) (h:H):∀ n:Nat,Els D h (reps n [V.nils,V.int .i64 0]) (List.replicate n ⟨[],0⟩)
  | 0=>fun i t hi=>by simp at hi
  | n+1=>fun i t hi=>by
   have ih:=Els.zeros D h n
   cases i with
   | zero =>
    simp [List.replicate_succ] at hi
    subst hi
    exact ⟨.nils,rfl,rfl,SlR.nil _ _ _ _,fun x hx=>by simp at hx⟩
   | succ i =>
    rw [List.replicate_succ] at hi
    obtain ⟨vc,h1,h2,h3⟩:=ih i t (by simpa using hi)
    refine ⟨vc,?_,?_,h3⟩
    · show (V.nils :: V.int .i64 0 :: reps n _)[2*(i+1)]?=_
      rw [show 2*(i+1)=2*i+1+1 by omega];simpa using h1
    · show (V.nils :: V.int .i64 0 :: reps n _)[2*(i+1)+1]?=_
      rw [show 2*(i+1)+1=2*i+1+1+1 by omega];simpa using h2
def rowK (k c:Nat):List Tb:=(List.range (cx k)).map fun i=>if i < c then defT k else ⟨[],0⟩
theorem rowK_len (k c:Nat):(rowK k c).length=cx k:=by simp [rowK]
theorem rowK_zero (k:Nat):rowK k 0=List.replicate (cx k) ⟨[],0⟩:=by
  apply List.ext_getElem
  ·simp [rowK]
  ·intro i h1 h2;simp [rowK]
theorem rowK_all (k:Nat):rowK k (cx k)=defR k:=by
  apply List.ext_getElem
  ·simp [rowK,defR]
  ·intro i h1 h2
   have:i < cx k:=by simpa [rowK] using h1
   simp [rowK,defR,this]
theorem rowK_set (k c:Nat):(rowK k c).set c (defT k)=rowK k (c+1):=by
  apply List.ext_getElem
  ·simp [rowK]
  ·intro i h1 h2
   rw [List.getElem_set]
   simp only [rowK,List.getElem_map,List.getElem_range]
   by_cases e:c=i
   ·subst e;simp
   ·simp only [e,if_false]
    by_cases h:i < c
    · simp [h,Nat.lt_succ_of_lt h]
    · rw [if_neg h,if_neg (by omega)]
structure I27 (h0:H) (q k b sp:Nat) (n:Nat) (e:E) (g:H) (e0:E):Prop where
  hn:n≤cx k
  x:∀ c,c < h0.n→c ≠ b→g.get c=h0.get c
  gn:h0.n≤g.n
  r:∃ cs,g.get b=some (.cells cs tT false)∧cs.length=cx k*2∧Els (fun c=>q≤c) g cs (rowK k (cx k - n))
  e3:e.s [0,1,3,4,5,6,7,8,17,18] 3=.ptr sp 0
  e4:e.s [0,1,3,4,5,6,7,8,17,18] 4=.fn (.func (if stp k then 31 else 30)) [] []
  e5:e.s [0,1,3,4,5,6,7,8,17,18] 5=.sl b 0 (cx k) (.ex (cx k))
  e17:e.s [0,1,3,4,5,6,7,8,17,18] 17=.int .i64 (cx k)
  e18:e.s [0,1,3,4,5,6,7,8,17,18] 18=.int .i64 ((cx k - n:Nat):Int)
  ke:Keeps [0,1,3,4,5,6,7,8,17,18] [0,1,7,8] e e0
theorem both_ok {k:Nat} (hk:k < 32) (h:H):RT (fun w h'=>∃ vt,w=.tup [vt,.int .i64 0]∧NewT h.n h' vt (defT k)∧Ext h h') (KW (if stp k then 31 else 30) [.int .i64 (vl k)] h):=by
  have hv:=vl_le hk
  unfold defT
  cases stp k with
  | false=>exact flat54_ok hv.1 hv.2 h
  | true=>exact steep55_ok hv.1 hv.2 h
theorem defT_n (k:Nat):(defT k).n=0:=by unfold defT;cases stp k <;> rfl
theorem loop27 {h0:H} {q k b sp:Nat} {y:V} (hk:k < 32) (hsp:h0.get sp=some (.cells [.int .i64 (cx k),.int .i64 (vl k),y] 69 false)) (hsb:sp ≠ b) (hb:b < h0.n) (hq:q≤h0.n) {e e0:E} {g:H} (hi:I27 h0 q k b sp (cx k) e g e0) :
   ∃ e' g',loopZ (l7_0 KW loopZ) e g=some ⟨.ex 2,e',g'⟩∧I27 h0 q k b sp 0 e' g' e0:=by
  have hv:=vl_le hk
  have hc14:=cx_le hk
  have loop:=loop_run (body:=l7_0 KW loopZ) (fun n e g=>I27 h0 q k b sp n e g e0) (fun s=>s.x=.ex 2∧I27 h0 q k b sp 0 s.e s.h e0)
   (fun n e g hi=>by
    obtain ⟨hn,x,gn,⟨cs,B,L,G⟩,e3,e4,e5,e17,e18,ke⟩:=hi
    have i0:=ke 0 (by simp);have i1:=ke 1 (by simp);have i7:=ke 7 (by simp);have i8:=ke 8 (by simp)
    cases n with
    | zero =>
      simp [l7_0,e17,e18]
      exact ⟨rfl,hn,x,gn,⟨cs,B,L,G⟩,by simp [e3],by simp [e4],by simp [e5],by simp [e17],by simp [e18],fun i hm=>by
       simp only [List.mem_cons,List.not_mem_nil,or_false] at hm
       rcases hm with rfl | rfl | rfl | rfl <;> simp [i0,i1,i7,i8]⟩
    | succ n =>
      obtain ⟨c,hc⟩:∃ c,c=cx k - (n+1):=⟨_,rfl⟩
      have hc2:cx k - n=c+1:=by omega
      rw [← hc] at e18 G
      have z1:IntKind.i64.wrap ((c:Int)+1)=c+1:=wi64 (by omega) (by omega)
      have gsp:g.get sp=_:=(x sp (H.get_lt hsp) hsb).trans hsp
      obtain ⟨w,g1,a1,vt,rfl,⟨vc,rfl,U⟩,x1⟩:=(both_ok hk g).elim
      rw [defT_n] at a1
      have B1:g1.get b=_:=(x1.get _ (H.get_lt B)).trans B
      have G1:=(G.ext x1).set (i:=c) (vc:=vc) (t:=defT k) (by rw [L,rowK_len]) (by rw [rowK_len];omega) (U.mono fun d _ hd=>Nat.le_trans (Nat.le_trans hq gn) hd)
      rw [rowK_set,defT_n] at G1
      obtain ⟨g2,hg2⟩:∃ g2,g2=g1.put b (.cells (splice cs (c*2) [vc,.int .i64 0]) 76 false):=⟨_,rfl⟩
      have hw:g1.wrN b (c*2) [vc,.int .i64 0]=some g2:=by rw [wrN_of B1 (by simp;omega),hg2]
      have G2:Els (fun c=>q≤c) g2 (splice cs (c*2) [vc,.int .i64 0]) (rowK k (c+1)):=G1.keep fun d cd _ hd=>by
       rw [hg2,get_put_ne];rintro rfl;rw [B1] at hd;cases hd
      have n1:=x1.n
      simp [l7_0,e17,e18,show c < cx k by omega,show (c:Int) < cx k by omega,e3,rd1_of gsp,e4,cdy_fn,a1,e5,hw,z1]
      exact ⟨n,Nat.lt_succ_self n,by omega,fun d hd hdb=>by rw [hg2,get_put_ne hdb,x1.get d (by omega),x d hd hdb],by rw [hg2,H.n_put];omega,⟨_,by rw [hg2,get_put_same (H.get_lt B1)],by rw [splice_len (by simp;omega),L],by rw [hc2];exact G2⟩,by simp [e3],by simp [e4],by simp [e5],by simp [e17],by simp [hc2],fun i hm=>by
       simp only [List.mem_cons,List.not_mem_nil,or_false] at hm
       rcases hm with rfl | rfl | rfl | rfl <;> simp [i0,i1,i7,i8]⟩)
  obtain ⟨⟨x,e',g'⟩,r1,r2,r3⟩:=loop (cx k) e g hi
  simp only at r2 r3
  subst r2
  exact ⟨e',g',r1,r3⟩
structure O27 (h0:H) (P Q:Nat) (n:Nat) (e:E) (g:H):Prop where
  hn:n≤32
  x:∀ c,c < h0.n→c ≠ Q→g.get c=h0.get c
  gn:h0.n≤g.n
  b:SetG h0.n Q g (defK (32 - n))
  e0:e.s [0,1,3,4,5,6,7,8,17,18] 0=.ptr P 0
  e1:e.s [0,1,3,4,5,6,7,8,17,18] 1=.ptr Q 0
  e7:e.s [0,1,3,4,5,6,7,8,17,18] 7=.agg shV
  e8:e.s [0,1,3,4,5,6,7,8,17,18] 8=.int .i64 ((32 - n:Nat):Int)
theorem shV_ix {n:Nat} (hn:n < 32):ixN 32 3 (.agg shV) (.int .i64 (n:Int))=some (.agg [.int .i64 (cx n),.int .i64 (vl n),.bool (stp n)]):=by
  simp only [ixN,Int.toNat_natCast]
  rw [if_pos ⟨by omega,by omega⟩,if_pos (by rw [shV_len];omega),shV_at hn]
theorem default27_ok (h:H):RT (fun w h'=>∃ v,w=.agg [v]∧SetW (fun b=>h.n≤b) h' v defS∧Ext h h') (KW 7 [] h):=by
  obtain ⟨h1,hh1⟩:∃ g,g=h.new (.cells [.nils] 29 false):=⟨_,rfl⟩
  obtain ⟨h2,hh2⟩:∃ g,g=h1.new (.cells [.nils] 29 false):=⟨_,rfl⟩
  have x1:Ext h h1:=by rw [hh1];exact (Ext.refl h).new _
  have x2:Ext h1 h2:=by rw [hh2];exact (Ext.refl h1).new _
  have n1:h1.n=h.n+1:=by rw [hh1,H.n_new]
  have n2:h2.n=h1.n+1:=by rw [hh2,H.n_new]
  obtain ⟨w,h3,e53,rfl,x3⟩:=(shapes53_ok h2).elim
  have n3:=x3.n
  have gP:h3.get h.n=some (.cells [.nils] 29 false):=by rw [x3.get _ (by omega),x2.get _ (by omega),hh1,get_new_same]
  have gQ:h3.get h1.n=some (.cells [.nils] 29 false):=by rw [x3.get _ (by omega),hh2,get_new_same]
  have loop:=loop_run (body:=l7_1 KW loopZ) (O27 h3 h.n h1.n) (fun s=>s.x=.ex 0∧O27 h3 h.n h1.n 0 s.e s.h)
   (fun n e g hi=>by
    obtain ⟨hn,x,gn,b,e0,e1,e7,e8⟩:=hi
    cases n with
    | zero =>
      simp [l7_1,e8]
      exact ⟨rfl,hn,x,gn,b,by simp [e0],by simp [e1],by simp [e7],by simp [e8]⟩
    | succ n =>
      obtain ⟨k,hk⟩:∃ k,k=32 - (n+1):=⟨_,rfl⟩
      have hk2:32 - n=k+1:=by omega
      have hkl:k < 32:=by omega
      rw [← hk] at e8 b
      have hc14:=cx_le hkl
      have z1:IntKind.i64.wrap ((k:Int)+1)=k+1:=wi64 (by omega) (by omega)
      obtain ⟨g1,hg1⟩:∃ g1,g1=(g.new (.cells [.int .i64 0,.int .i64 0,.bool false] 69 false)).put g.n (.cells [.int .i64 (cx k),.int .i64 (vl k),.bool (stp k)] 69 false):=⟨_,rfl⟩
      have y1:Ext g g1:=by rw [hg1];exact ((Ext.refl g).new _).put (Nat.le_refl _) _
      have m1:g1.n=g.n+1:=by rw [hg1,H.n_put,H.n_new]
      have r1:g1.get g.n=some (.cells [.int .i64 (cx k),.int .i64 (vl k),.bool (stp k)] 69 false):=by rw [hg1,get_put_same (by rw [H.n_new];omega)]
      obtain ⟨g2,hg2⟩:∃ g2,g2=g1.new (.cells (reps (cx k) [.nils,.int .i64 0]) 76 false):=⟨_,rfl⟩
      have y2:Ext g1 g2:=by rw [hg2];exact (Ext.refl g1).new _
      have m2:g2.n=g1.n+1:=by rw [hg2,H.n_new]
      have r2:g2.get g1.n=some (.cells (reps (cx k) [.nils,.int .i64 0]) 76 false):=by rw [hg2,get_new_same]
      have r1':g2.get g.n=_:=(y2.get _ (H.get_lt r1)).trans r1
      have hms:ms g1 76 32 [.nils,.int .i64 0] (.int .i64 (cx k)) (.int .i64 (cx k))=some (.sl g1.n 0 (cx k) (.ex (cx k)),g2):=by
       simp only [ms]
       rw [if_pos ⟨by omega,by omega,by omega,by omega,trivial⟩,Int.toNat_natCast,← hg2]
      obtain ⟨f,g3,j1,I⟩:=loop27 (h0:=g2) (q:=g.n) (k:=k) (b:=g1.n) (sp:=g.n) (y:=.bool (stp k)) hkl r1' (by omega) (by omega) (by omega)
       (e0:=⟨[.ptr h.n 0,.ptr h1.n 0,.ptr g.n 0,.fn (.func (if stp k then 31 else 30)) [] [],.sl g1.n 0 (cx k) (.ex (cx k)),e.s [0,1,3,4,5,6,7,8,17,18] 6,.agg shV,.int .i64 k,.int .i64 (cx k),.int .i64 0],18,.int .i64 0⟩)
       (e:=⟨[.ptr h.n 0,.ptr h1.n 0,.ptr g.n 0,.fn (.func (if stp k then 31 else 30)) [] [],.sl g1.n 0 (cx k) (.ex (cx k)),e.s [0,1,3,4,5,6,7,8,17,18] 6,.agg shV,.int .i64 k,.int .i64 (cx k),.int .i64 0],18,.int .i64 0⟩) (g:=g2)
       ⟨Nat.le_refl _,fun _ _ _=>rfl,Nat.le_refl _,⟨_,r2,by rw [reps_len];rfl,by rw [Nat.sub_self,rowK_zero];exact Els.zeros _ _ _⟩,by simp,by simp,by simp,by simp,by simp,fun i _=>rfl⟩
      obtain ⟨_,x',gn',⟨cs,B,L,G⟩,f3,f4,f5,f17,f18,ke⟩:=I
      have i0:=ke 0 (by simp);have i1:=ke 1 (by simp);have i7:=ke 7 (by simp);have i8:=ke 8 (by simp)
      simp at i0 i1 i7 i8
      rw [Nat.sub_zero,rowK_all] at G
      have hRW:∃ bb,RowW (fun b=>h3.n≤b) g3 (.sl g1.n 0 (cx k) (.ex (cx k))) bb (defR k)∧g.n≤bb∧bb≤g3.n :=
       ⟨g1.n,.inr ⟨.ex (cx k),cs,by simp [defR],B,by rw [L];simp [defR],(show h3.n≤g1.n by omega),G.mono (fun b _ hb=>Nat.le_trans gn hb),by simp [CapOk,defR]⟩,by omega,by omega⟩
      obtain ⟨ov,v',g4,g5,c1,c2,c3,c4,c5,c6,c7,c8⟩:=b.push (g':=g3) (by omega) (fun c hc=>by rw [x' c (by omega) (by omega),y2.get c (by omega),y1.get c hc]) (by omega) gn hRW (by rw [defK_len];omega)
      cases hs:stp k with
      | false =>
       rw [hs] at j1 hg1 r1
       simp only [Bool.false_eq_true,if_false] at j1
       simp [l7_1,e8,hkl,show (k:Int) < 32 by omega,e7,shV_ix hkl,hs,nw,wrN_of (o:=0) get_new_same,splice,← hg1,rd1_of r1,hms,e0,e1,j1,i1,rd1_of c1,f5,bs,fillW,c2,c4,c3,i8,z1]
       exact ⟨n,Nat.lt_succ_self n,by omega,fun c hc hcq=>by rw [c6 c hc hcq,x c hc hcq],by omega,by rw [hk2,defK_succ];exact c5,by simp [i0],by simp [i1],by simp [i7],by simp [hk2]⟩
      | true =>
       rw [hs] at j1 hg1 r1
       simp only [if_true] at j1
       simp [l7_1,e8,hkl,show (k:Int) < 32 by omega,e7,shV_ix hkl,hs,nw,wrN_of (o:=0) get_new_same,splice,← hg1,rd1_of r1,hms,e0,e1,j1,i1,rd1_of c1,f5,bs,fillW,c2,c4,c3,i8,z1]
       exact ⟨n,Nat.lt_succ_self n,by omega,fun c hc hcq=>by rw [c6 c hc hcq,x c hc hcq],by omega,by rw [hk2,defK_succ];exact c5,by simp [i0],by simp [i1],by simp [i7],by simp [hk2]⟩)
  obtain ⟨⟨sx,se,sh⟩,q1,q2,I⟩:=loop 32 ⟨[.ptr h.n 0,.ptr h1.n 0,.tup [],.tup [],.tup [],.tup [],.agg shV,.int .i64 0,.tup [],.tup []],8,.int .i64 0⟩ h3 ⟨Nat.le_refl _,fun _ _ _=>rfl,Nat.le_refl _,SetG.nil gQ,by simp,by simp,by simp,by simp⟩
  simp only at q2 I
  subst q2
  obtain ⟨_,x,gn,b,e0,e1,e7,e8⟩:=I
  obtain ⟨v,sQ,W⟩:=b.setW
  have sP:sh.get h.n=some (.cells [.nils] 29 false):=by rw [x _ (by omega) (by omega),gP]
  obtain ⟨h8,hh8⟩:∃ g,g=sh.put h.n (.cells [v] 29 false):=⟨_,rfl⟩
  have r8:h8.get h.n=some (.cells [v] 29 false):=by rw [hh8,get_put_same (H.get_lt sP)]
  rw [w7,f7,s7]
  simp [nw,← hh1,← hh2,e53,q1,e1,rdN_of (o:=0) (n:=1) sQ (by simp),e0,wrN_of (o:=0) sP,splice,← hh8,rdN_of (o:=0) (n:=1) r8 (by simp)]
  refine ⟨v,rfl,?_,?_⟩
  ·have W8:SetW (fun b=>h3.n≤b) h8 v (defK (32 - 0)):=W.keep fun b hb _=>by rw [hh8,get_put_ne];have hb:h3.n≤b:=hb;omega
   exact W8.mono fun b _ hb=>by have hb:h3.n≤b:=hb;show h.n≤b;omega
  ·refine ⟨by rw [hh8,H.n_put];omega,fun c hc=>?_⟩
   rw [hh8,get_put_ne (by omega),x c (by omega) (by omega),x3.get c (by omega),x2.get c (by omega),x1.get c hc]
open Go.Zf (wi64)
def Small (S:List (List Tb)):Prop:=S.length < 1000∧∀ (k:Nat) (r:List Tb),S[k]?=some r→r.length < 1000∧∀ (i:Nat) (t:Tb),r[i]?=some t→t.c.length < 1000
theorem SetOk.small {S:List (List Tb)} (a:SetOk S):Small S:=by
  refine ⟨by rw [a.1];omega,fun k r hr=>?_⟩
  have hk:k < 32:=by
   by_cases e:k < S.length
   ·rw [a.1] at e;exact e
   ·rw [List.getElem?_eq_none (by omega)] at hr;cases hr
  have:=a.2 k r hr
  refine ⟨by rw [this.1];have:=cx_le hk;omega,fun i t ht=>?_⟩
  rw [(this.2 i t ht).1];have:=vl_le hk;omega
def TabsOk (k:Nat) (r:List Tb):Prop:=∀ (i:Nat) (t:Tb),r[i]?=some t→t.c.length=vl k∧TabOk t
theorem box25 {D:Nat→Prop} {h:H} {v:V} {S:List (List Tb)} (u:SetR D h v S):∃ h1,bx h 29 (.agg [v])=some (.ptr h.n 0,h1)∧Ext h h1∧h1.get h.n=some (.cells [v] 29 false)∧h1.n=h.n+1∧SetR D h1 v S :=
  ⟨h.new (.cells [v] 29 false),rfl,(Ext.refl h).new _,get_new_same,H.n_new _ _,u.ext ((Ext.refl h).new _)⟩
theorem SetR.len {D:Nat→Prop} {h:H} {v:V} {S:List (List Tb)} (u:SetR D h v S):lnS v=some (.int .i64 S.length):=by
  obtain ⟨cs,h1,h2⟩:=u;exact h1.len
theorem SetR.ckv {D:Nat→Prop} {h:H} {v:V} {S:List (List Tb)} (u:SetR D h v S) {β:Type} (k:Option β):ck (some v) v k=k:=by
  obtain ⟨cs,h1,h2⟩:=u;exact h1.ck k
theorem RowR.len {D:Nat→Prop} {h:H} {v:V} {r:List Tb} (u:RowR D h v r):lnS v=some (.int .i64 r.length):=by
  obtain ⟨cs,h1,h2⟩:=u;exact h1.len
theorem RowR.ckv {D:Nat→Prop} {h:H} {v:V} {r:List Tb} (u:RowR D h v r) {β:Type} (k:Option β):ck (some v) v k=k:=by
  obtain ⟨cs,h1,h2⟩:=u;exact h1.ck k
theorem RowR.ext {D:Nat→Prop} {h h':H} {v:V} {r:List Tb} (u:RowR D h v r) (x:Ext h h'):RowR D h' v r:=u.keep fun b _ hb=>x.get b hb
end Go.Proofs.YtbajipmhnoakeaaGreat
