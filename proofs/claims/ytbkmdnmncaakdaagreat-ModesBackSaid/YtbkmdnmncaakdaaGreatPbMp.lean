import Derived.Test.YtbkmdnmncaakdaaGreatPbMa
set_option linter.unusedVariables false
set_option linter.unusedSimpArgs false
set_option maxRecDepth 20000
namespace Go.Proofs.YtbkmdnmncaakdaaGreat
open Go Go.Zf
open Go.Zf (wi64)
def u32 (n:Int):V:=.int .u32 n
def u64 (n:Int):V:=.int .u64 n
def i64 (n:Int):V:=.int .i64 n
theorem wrap32 {n:Int} (h0:0≤n) (h1:n < 4294967296):IntKind.u32.wrap n=n:=by
 unfold IntKind.wrap;simp [IntKind.bits,IntKind.signed];omega
theorem wrap64 {n:Int} (h0:0≤n) (h1:n < 18446744073709551616):IntKind.u64.wrap n=n:=by
 unfold IntKind.wrap;simp [IntKind.bits,IntKind.signed];omega
theorem narrow_ok (rng lo hi:Int) (hr0:0≤rng) (hr:rng < 4294967296) (hl:0≤lo) (hlh:lo < hi) (hh:hi≤32768) (h:H) :
   KW 165 [u32 rng,u32 lo,u32 hi] h=some (.ret (.tup [u32 (rng / 32768*lo),u32 (if hi=32768 then rng - rng / 32768*lo else rng / 32768*(hi - lo))]),h):=by
 have e1:(rng.fdiv (2 ^ (min 15 IntKind.u32.bits)))=rng / 32768:=by
   rw [Int.fdiv_eq_ediv_of_nonneg _ (by decide)];rfl
 have hq:rng / 32768 < 131072:=by omega
 have hq0:0≤rng / 32768:=by omega
 generalize hR:rng / 32768=r at *
 have m1:r*lo≤r*32768:=Int.mul_le_mul_of_nonneg_left (by omega) hq0
 have m0:0≤r*lo:=Int.mul_nonneg hq0 hl
 have m2:r*(hi - lo)≤r*32768:=Int.mul_le_mul_of_nonneg_left (by omega) hq0
 have m3:0≤r*(hi - lo):=Int.mul_nonneg hq0 (by omega)
 rw [w165,f165,s165]
 simp only [u32]
 by_cases hc:hi=32768
 · subst hc
   simp [e1,wrap32 m0 (by omega),wrap32 (n:=rng - r*lo) (by omega) (by omega)]
 · simp [e1,hc,wrap32 m0 (by omega),wrap32 (n:=hi - lo) (by omega) (by omega),wrap32 m3 (by omega)]
attribute [simp] Go.Zf.bytesV_length
def Upd (h:H) (b:Nat) (x:Blk) (h':H):Prop:=h'.n=h.n∧∀ c,h'.get c=if c=b then some x else h.get c
theorem upd_put {h:H} {b:Nat} (hb:b < h.n) (x:Blk):Upd h b x (h.put b x) :=
 ⟨rfl,fun c=>by simp [H.get_put,hb]⟩
theorem Upd.trans {h h1 h2:H} {b:Nat} {x y:Blk} (a:Upd h b x h1) (c:Upd h1 b y h2):Upd h b y h2 :=
 ⟨c.1.trans a.1,fun d=>by rw [c.2,a.2];split <;> rfl⟩
theorem Upd.refl {h:H} {b:Nat} {x:Blk} (a:h.get b=some x):Upd h b x h:=⟨rfl,fun d=>by split <;> simp_all⟩
def incR:List Nat→List Nat
 | []=>[]
 | b :: r=>if b=255 then 0 :: incR r else (b+1) :: r
def inc (l:List Nat):List Nat:=(incR l.reverse).reverse
theorem inc_nil:inc []=[]:=rfl
theorem inc_snoc (l:List Nat) (b:Nat):inc (l ++ [b])=if b=255 then inc l ++ [0] else l ++ [b+1]:=by
 simp only [inc,List.reverse_append,List.reverse_cons,List.reverse_nil,List.nil_append,List.singleton_append,incR]
 split <;> simp
theorem inc_length (l:List Nat):(inc l).length=l.length:=by
 unfold inc
 rw [List.length_reverse]
 have e:l.length=l.reverse.length:=by simp
 rw [e]
 generalize l.reverse=r
 induction r with
 | nil=>rfl
 | cons b r ih=>simp only [incR];split <;> simp [ih]
theorem incR_byte:∀ {l:List Nat},(∀ x ∈ l,x < 256)→∀ x ∈ incR l,x < 256
 | [],_,x,hx=>by simp [incR] at hx
 | b :: r,h,x,hx=>by
   have hb:=h b (by simp)
   have hr:∀ x ∈ r,x < 256:=fun x hx=>h x (by simp [hx])
   simp only [incR] at hx
   split at hx
   ·rcases List.mem_cons.mp hx with rfl | hx
    ·omega
    ·exact incR_byte hr x hx
   ·rcases List.mem_cons.mp hx with rfl | hx
    ·omega
    ·exact hr x hx
theorem inc_byte {l:List Nat} (h:∀ x ∈ l,x < 256):∀ x ∈ inc l,x < 256:=by
 intro x hx
 exact incR_byte (l:=l.reverse) (fun x hx=>h x (by simpa using hx)) x (by simpa [inc] using hx)
theorem wrap8 {n:Int}:IntKind.u8.wrap n=n % 256:=by
 unfold IntKind.wrap;simp [IntKind.bits,IntKind.signed]
theorem loop36 (p b:Nat) (t tb:TypeId) (c1 c2:V) (len:Nat):∀ (k:Nat) (pre suf:List Nat) (h:H) (e:E),pre.length=k→(∀ x ∈ pre,x < 256)→(pre ++ suf).length=len→len < 1099511627776 →
   h.get p=some (.cells [.sl b 0 len (.op 1),c1,c2] t false)→h.get b=some (.cells (bytesV (pre ++ suf)) tb false)→p ≠ b →
   e.s [0,2,28] 0=.ptr p 0→e.s [0,2,28] 2=.int .i64 ((k:Int) - 1) →
   ∃ e' h',loopZ (l147_0 KW loopZ) e h=some ⟨.ex 0,e',h'⟩∧e'.s [0,2,28] 0=.ptr p 0∧Upd h b (.cells (bytesV (inc pre ++ suf)) tb false) h'
 | 0,pre,suf,h,e,hk,hp,hl,hs,hgp,hgb,hn,he0,he2=>by
   have:pre=[]:=List.length_eq_zero_iff.mp hk
   subst this
   rw [loopZ_eq]
   simp [l147_0,he0,he2]
   exact ⟨_,_,⟨rfl,rfl⟩,by simp,Upd.refl hgb⟩
 | k+1,pre,suf,h,e,hk,hp,hl,hs,hgp,hgb,hn,he0,he2=>by
   obtain ⟨pr,x,rfl⟩:∃ pr x,pre=pr ++ [x]:=by
    rcases List.eq_nil_or_concat pre with h0 | ⟨a,b,h0⟩
    ·subst h0;simp at hk
    ·exact ⟨a,b,by simpa using h0⟩
   have hk':pr.length=k:=by simpa using hk
   have hx:x < 256:=hp x (by simp)
   have hlk:k < len:=by simp at hl;omega
   have hix:(bytesV (pr ++ [x] ++ suf))[k]?=some (.int .u8 x):=by
    simp [bytesV,← hk']
   have hset:∀ y:Nat,(bytesV (pr ++ [x] ++ suf)).set k (.int .u8 y)=bytesV (pr ++ [y] ++ suf):=by
    intro y;simp [bytesV,← hk']
   have hbl:=H.get_lt hgb
   have hpl:=H.get_lt hgp
   have hgb0:=hgb
   obtain ⟨c,hc⟩:∃ c,c=bytesV (pr ++ [x] ++ suf):=⟨_,rfl⟩
   have hcl:c.length=len:=by rw [hc];simpa using hl
   rw [← hc] at hgb hix hset
   have hw:=fun v=>wr1_of hgb (o:=k) (by omega) v
   have hpb:∀ v,(h.put b v).get p=h.get p:=fun v=>get_put_ne hn
   by_cases hx5:x=255
   ·subst hx5
    have hz:c.set k (.int .u8 0)=bytesV (pr ++ [0] ++ suf):=hset 0
    have hg2:(h.put b (.cells (bytesV (pr ++ [0] ++ suf)) tb false)).get b=some (.cells (bytesV (pr ++ [0] ++ suf)) tb false):=get_put_same hbl
    have hz2:(bytesV (pr ++ [0] ++ suf))[k]?=some (.int .u8 0):=by simp [bytesV,← hk']
    obtain ⟨c',hc'⟩:∃ c',c'=bytesV (pr ++ [0] ++ suf):=⟨_,rfl⟩
    obtain ⟨h1,hh1⟩:∃ h1,h1=h.put b (.cells c' tb false):=⟨_,rfl⟩
    have hgp1:h1.get p=some (.cells [.sl b 0 len (.op 1),c1,c2] t false):=by rw [hh1,hpb,hgp]
    rw [← hc'] at hz hg2 hz2
    rw [← hh1] at hg2
    rw [loopZ_eq]
    simp [l147_0,he0,he2,rd1_of hgp,rd1_of hgb,hix,hlk,hw,hz,wrap8,← hh1,rd1_of hgp1,rd1_of hg2,hz2]
    rw [wi64 (by omega) (by omega)]
    obtain ⟨e',h',i1,i2,i3⟩:=loop36 p b t tb c1 c2 len k pr (0 :: suf) h1 ⟨[V.ptr p 0,V.int IntKind.i64 ((k:Int) - 1),V.int IntKind.u8 0],2,V.int IntKind.i64 ((k:Int) - 1)⟩ hk' (fun x hx=>hp x (by simp [hx]))
     (by simpa using hl) hs hgp1 (by rw [hg2,hc'];simp) hn (by simp) (by simp)
    refine ⟨e',h',i1,i2,?_⟩
    have hu:Upd h b (.cells c' tb false) h1:=by rw [hh1];exact upd_put hbl _
    rw [inc_snoc]
    simpa using hu.trans i3
   ·rw [loopZ_eq]
    have hz:c.set k (.int .u8 ((x:Int)+1))=bytesV (pr ++ [x+1] ++ suf):=hset (x+1)
    have hg2:(h.put b (.cells (bytesV (pr ++ [x+1] ++ suf)) tb false)).get b=some (.cells (bytesV (pr ++ [x+1] ++ suf)) tb false):=get_put_same hbl
    have hz2:(bytesV (pr ++ [x+1] ++ suf))[k]?=some (.int .u8 ((x:Int)+1)):=by simp [bytesV,← hk']
    obtain ⟨c',hc'⟩:∃ c',c'=bytesV (pr ++ [x+1] ++ suf):=⟨_,rfl⟩
    obtain ⟨h1,hh1⟩:∃ h1,h1=h.put b (.cells c' tb false):=⟨_,rfl⟩
    have hgp1:h1.get p=some (.cells [.sl b 0 len (.op 1),c1,c2] t false):=by rw [hh1,hpb,hgp]
    rw [← hc'] at hz hg2 hz2
    rw [← hh1] at hg2
    have hm:((x:Int)+1) % 256=(x:Int)+1:=by omega
    have hne:¬ ((x:Int)+1=0):=by omega
    simp [l147_0,he0,he2,rd1_of hgp,rd1_of hgb,hix,hlk,hw,wrap8,hm,hz,← hh1,rd1_of hgp1,rd1_of hg2,hz2,hne]
    have hu:Upd h b (.cells c' tb false) h1:=by rw [hh1];exact upd_put hbl _
    refine ⟨_,_,⟨rfl,rfl⟩,by simp,?_⟩
    rw [inc_snoc,if_neg hx5,← hc']
    exact hu
def Grow (h:H) (v:V) (l:List Nat):Prop :=
 (v=.nils∧l=[])∨∃ b,v=.sl b 0 l.length (.op 1)∧l ≠ []∧h.get b=some (.cells (bytesV l) 5 false)
structure EncAt (h:H) (p:Nat) (t:TypeId) (v:V) (out:List Nat) (low:Nat) (rng:V):Prop where
 cell:h.get p=some (.cells [v,.int .u64 low,rng] t false)
 grow:Grow h v out
 byte:∀ x ∈ out,x < 256
 low64:low < 18446744073709551616
def fp (p:Nat) (v:V) (c:Nat):Prop:=c=p∨∃ o n k,v=.sl c o n k
def Fram (h h':H) (S:Nat→Prop):Prop:=h.n≤h'.n∧∀ c,c < h.n→¬ S c→h'.get c=h.get c
theorem and32 {n:Nat} (hn:n < 18446744073709551616):IntKind.u64.wrap ((n % 2 ^ IntKind.u64.bits &&& 4294967295 % 2 ^ IntKind.u64.bits:Nat):Int)=(n:Int) % 4294967296:=by
 rw [show IntKind.u64.bits=64 from rfl,Nat.mod_eq_of_lt (show n < 2 ^ 64 by omega),Nat.mod_eq_of_lt (show 4294967295 < 2 ^ 64 by omega)]
 rw [show (4294967295:Nat)=2 ^ 32 - 1 from rfl,Nat.and_two_pow_sub_one_eq_mod]
 rw [wrap64 (by omega) (by omega)]
 omega
theorem sl_ne {h:H} {p b:Nat} {t tb:TypeId} {v x y:V} {l:List Nat} (hp:h.get p=some (.cells [v,x,y] t false)) (hb:h.get b=some (.cells (bytesV l) tb false)) (hv:∀ k n,v ≠ .int k n):p ≠ b:=by
 intro e;subst e;rw [hp] at hb;simp only [Option.some.injEq,Blk.cells.injEq] at hb
 obtain ⟨h1,_⟩:=hb
 cases l with
 | nil=>simp [bytesV] at h1
 | cons a l=>simp [bytesV] at h1;exact hv _ _ h1.1
theorem carry_ok {h:H} {p:Nat} {t:TypeId} {v rng:V} {out:List Nat} {low:Nat} (a:EncAt h p t v out low rng) (hlen:out.length < 1099511627776) :
   ∃ h',KW 147 [.ptr p 0] h=some (.ret (.tup []),h')∧EncAt h' p t v (inc out) (low % 4294967296) rng∧Fram h h' (fp p v)∧h'.n=h.n:=by
 have hpl:=H.get_lt a.cell
 have hl64:=a.low64
 rcases a.grow with ⟨rfl,rfl⟩ | ⟨b,rfl,hne,hb⟩
 · have hw:=fun v=>wr1_of a.cell (o:=1) (by simp) v
   have hlp:loopZ (l147_0 KW loopZ) ⟨[.ptr p 0,.int .i64 (-1),V.tup []],2,.int .i64 (-1)⟩ h=some ⟨.ex 0,⟨[.ptr p 0,.int .i64 (-1),V.tup []],10,.bool false⟩,h⟩:=by
    rw [loopZ_eq]
    simp [l147_0]
   rw [w147,f147,s147]
   simp [rd1_of a.cell]
   rw [wi64 (by omega) (by omega)]
   simp [hlp,hw,rd1_of a.cell,and32 a.low64]
   refine ⟨⟨get_put_same hpl,.inl ⟨rfl,rfl⟩,by simp [inc_nil],by omega⟩,⟨Nat.le_refl _,fun c hc hs=>get_put_ne fun e=>hs (.inl e)⟩,rfl⟩
 · have hn:=sl_ne a.cell hb (by simp)
   have hll:out.length ≠ 0:=by simpa using hne
   rw [w147,f147,s147]
   simp [rd1_of a.cell]
   obtain ⟨e',h',i1,i2,i3⟩:=loop36 p b t 5 (.int .u64 low) rng out.length out.length out [] h ⟨[.ptr p 0,.int .i64 ((out.length:Int) - 1),V.und],2,.int .i64 ((out.length:Int) - 1)⟩ rfl a.byte (by simp) hlen a.cell (by simpa using hb) hn (by simp) (by simp)
   have hc':h'.get p=some (.cells [.sl b 0 out.length (.op 1),.int .u64 low,rng] t false):=by rw [i3.2,if_neg hn,a.cell]
   have hw:=fun v=>wr1_of hc' (o:=1) (by simp) v
   rw [wi64 (by omega) (by omega)]
   simp at i1
   simp [i1,i2,rd1_of hc',hw,and32 a.low64]
   have hpl':p < h'.n:=by rw [i3.1];exact hpl
   refine ⟨⟨get_put_same hpl',.inr ⟨b,by rw [inc_length],?_,?_⟩,?_,by omega⟩,⟨by rw [H.n_put,i3.1];exact Nat.le_refl _,fun c hc hs=>?_⟩,i3.1⟩
   ·intro e;have:=inc_length out;rw [e] at this;simp at this;exact hll this.symm
   ·rw [get_put_ne (Ne.symm hn),i3.2,if_pos rfl];simp
   ·exact inc_byte a.byte
   ·rw [get_put_ne fun e=>hs (.inl e),i3.2,if_neg fun e=>hs (.inr ⟨_,_,_,by rw [e]⟩)]
theorem append_ok {h:H} {v:V} {out l:List Nat} (g:Grow h v out) {q o n:Nat} {cp:Cap} (hr:h.rdN q o n=some (bytesV l)) (hl:l.length=n) (hn:n ≠ 0) (hlen:out.length+n < 1099511627777) :
   ∃ h2,apZ 5 1 1 h v (.sl q o n cp)=some (.sl h.n 0 (out.length+n) (.op 1),h2)∧h2.n=h.n+1∧h2.get h.n=some (.cells (bytesV (out ++ l)) 5 false) ∧
    ∀ c,c < h.n→(∀ o n k,v ≠ .sl c o n k)→h2.get c=h.get c:=by
 rcases g with ⟨rfl,rfl⟩ | ⟨b,rfl,hne,hb⟩
 · refine ⟨h.new (.cells (bytesV l) 5 false),?_,rfl,?_,?_⟩
   ·simp [apZ,lenOf,firstV,hr,apN,hn]
    simp at hlen;omega
   ·simp [get_new_same]
   ·intro c hc hv;exact get_new_lt hc
 · have hbl:=H.get_lt hb
   refine ⟨((h.put b .dead).new (.cells (bytesV out ++ bytesV l) 5 false)),?_,rfl,?_,?_⟩
   ·have:List.take out.length (bytesV out)=bytesV out:=List.take_of_length_le (by simp)
    simp [apZ,lenOf,firstV,hr,apN,hn,hb,this,H.n_put]
    omega
   ·rw [show h.n=(h.put b .dead).n from rfl,get_new_same,bytesV_append]
   ·intro c hc hv
    rw [get_new_lt (by simpa [H.n_put] using hc),get_put_ne (fun e=>hv _ _ _ (by rw [e]))]
def emit (out:List Nat) (low:Nat):List Nat × Nat :=
 let q:=if 4294967296≤low then (inc out,low % 4294967296) else (out,low)
 (q.1 ++ [q.2 / 16777216],q.2 % 16777216*256)
theorem emit_length (out:List Nat) (low:Nat):(emit out low).1.length=out.length+1:=by
 unfold emit;split <;> simp [inc_length]
theorem emit_lt (out:List Nat) (low:Nat):(emit out low).2 < 4294967296:=by
 unfold emit;split <;> simp <;> omega
theorem shift_ok {h:H} {p:Nat} {t:TypeId} {v rng:V} {out:List Nat} {low:Nat} (a:EncAt h p t v out low rng) (hlen:out.length < 1099511627775) (hlow:low < 8589934592) :
   ∃ h' v',KW 110 [.ptr p 0] h=some (.ret (.tup []),h')∧EncAt h' p t v' (emit out low).1 (emit out low).2 rng∧Fram h h' (fp p v)∧∀ c o n k,v'=.sl c o n k→h.n≤c:=by
 have hpl:=H.get_lt a.cell
 -- behind the carry
 obtain ⟨h1,o1,l1,hif,a1,hl1,hol,hq,f1,hn1⟩:∃ h1 o1 l1,(4294967295 < low→KW 147 [.ptr p 0] h=some (.ret (.tup []),h1))∧EncAt h1 p t v o1 l1 rng∧l1 < 4294967296∧o1.length=out.length ∧
    emit out low=(o1 ++ [l1 / 16777216],l1 % 16777216*256)∧Fram h h1 (fp p v)∧h1.n=h.n∧(¬ 4294967295 < low→h1=h):=by
   by_cases hc:4294967295 < low
   ·obtain ⟨h1,k1,k2,k3,k4⟩:=carry_ok a (by omega)
    exact ⟨h1,inc out,low % 4294967296,fun _=>k1,k2,by omega,inc_length out,by simp [emit,show 4294967296≤low by omega],k3,k4,fun h=>absurd hc h⟩
   ·exact ⟨h,out,low,fun h=>absurd h hc,a,by omega,rfl,by simp [emit,show ¬ 4294967296≤low by omega],⟨Nat.le_refl _,fun _ _ _=>rfl⟩,rfl,fun _=>rfl⟩
 have hpl1:p < h1.n:=by omega
 obtain ⟨x,hx⟩:∃ x,x=l1 / 16777216:=⟨_,rfl⟩
 obtain ⟨hn,hhn⟩:∃ hn,hn=h1.new (.cells [.int .u8 (x:Int)] 5 false):=⟨_,rfl⟩
 have hnn:hn.n=h1.n+1:=by rw [hhn,H.n_new]
 have hnew:hn.rdN h1.n 0 1=some (bytesV [x]):=by
   rw [hhn];simp [H.rdN,get_new_same,bytesV]
 have hg1:Grow hn v o1:=by
   rcases a1.grow with ⟨e1,e2⟩ | ⟨b,e1,e2,e3⟩
   ·exact .inl ⟨e1,e2⟩
   ·exact .inr ⟨b,e1,e2,by rw [hhn,get_new_lt (H.get_lt e3),e3]⟩
 obtain ⟨h2,ha,hn2,hs2,hf2⟩:=append_ok hg1 (cp:=.ex 1) hnew rfl (by decide) (by omega)
 have hp2:h2.get p=some (.cells [v,.int .u64 l1,rng] t false):=by
   rw [hf2 p (by omega),hhn,get_new_lt hpl1,a1.cell]
   intro o n k e
   rcases a1.grow with ⟨e1,e2⟩ | ⟨b,e1,e2,e3⟩
   ·rw [e1] at e;cases e
   ·rw [e1] at e;cases e;exact sl_ne a1.cell e3 (by simp [e1]) rfl
 have e1:(l1:Int).fdiv (2 ^ (min 24 IntKind.u64.bits))=(x:Int):=by
   rw [Int.fdiv_eq_ediv_of_nonneg _ (by decide),hx];rfl
 have e2:IntKind.u8.wrap (x:Int)=(x:Int):=by rw [wrap8];omega
 have hck:∀ {β:Type} (y:Option β),ck (some v) v y=y:=by
   intro β y
   rcases a1.grow with ⟨e1,e2⟩ | ⟨b,e1,e2,e3⟩ <;> rw [e1] <;> simp
 have w1:=fun x=>wr1_of hp2 (o:=0) (by simp) x
 obtain ⟨h3,hh3⟩:∃ h3,h3=h2.put p (.cells [.sl hn.n 0 (o1.length+1) (.op 1),.int .u64 l1,rng] t false):=⟨_,rfl⟩
 have hp3:h3.get p=some (.cells [.sl hn.n 0 (o1.length+1) (.op 1),.int .u64 l1,rng] t false):=by rw [hh3];exact get_put_same (by omega)
 have w3:=fun x=>wr1_of hp3 (o:=1) (by simp) x
 have fin:Fram h (h3.put p (.cells [.sl hn.n 0 (o1.length+1) (.op 1),.int .u64 ((l1 % 16777216*256:Nat):Int),rng] t false)) (fp p v):=by
   refine ⟨by rw [H.n_put,hh3,H.n_put];omega,fun c hc hs=>?_⟩
   have hcp:c ≠ p:=fun e=>hs (.inl e)
   rw [get_put_ne hcp,hh3,get_put_ne hcp,hf2 c (by omega) (fun o n k e=>hs (.inr ⟨o,n,k,e⟩)),hhn,get_new_lt (by omega),f1.2 c hc hs]
 have enc:EncAt (h3.put p (.cells [.sl hn.n 0 (o1.length+1) (.op 1),.int .u64 ((l1 % 16777216*256:Nat):Int),rng] t false)) p t (.sl hn.n 0 (o1.length+1) (.op 1)) (emit out low).1 (emit out low).2 rng:=by
   rw [hq]
   refine ⟨get_put_same (by rw [hh3,H.n_put];omega),.inr ⟨hn.n,by simp,by simp,?_⟩,?_,by show _ < _;omega⟩
   ·rw [get_put_ne (by omega),hh3,get_put_ne (by omega),hs2,hx]
   ·intro y hy
    rcases List.mem_append.mp hy with hy | hy
    ·exact a1.byte y hy
    ·simp at hy;omega
 have m1:IntKind.u64.wrap (IntKind.u64.wrap ((l1 % 2 ^ IntKind.u64.bits &&& 16777215 % 2 ^ IntKind.u64.bits:Nat):Int)*2 ^ (min 8 IntKind.u64.bits))=(l1:Int) % 16777216*256:=by
   rw [show IntKind.u64.bits=64 from rfl,Nat.mod_eq_of_lt (show l1 < 2 ^ 64 by omega),Nat.mod_eq_of_lt (show 16777215 < 2 ^ 64 by omega)]
   rw [show (16777215:Nat)=2 ^ 24 - 1 from rfl,Nat.and_two_pow_sub_one_eq_mod]
   rw [wrap64 (n:=((l1 % 2 ^ 24:Nat):Int)) (by omega) (by omega),wrap64 (by simp;omega) (by simp;omega)]
   simp
 refine ⟨_,_,?_,enc,fin,fun c o n k e=>by cases e;omega⟩
 rw [w110,f110,s110]
 by_cases hc:4294967295 < low
 · simp [rd1_of a.cell,show (4294967295:Int) < low by omega,hif hc,rd1_of a1.cell,bs,fillW,e1,e2,V.cells,splice,← hhn,ha,w1,hck,← hh3,rd1_of hp3,w3,m1]
 · have h1e:=hn1.2 hc
   subst h1e
   have hll:low=l1:=by have e:=a.cell.symm.trans a1.cell;simp at e;omega
   rw [hll] at a hc
   simp [rd1_of a.cell,show ¬ (4294967295:Int) < l1 by omega,rd1_of a1.cell,bs,fillW,e1,e2,V.cells,splice,← hhn,ha,w1,hck,← hh3,rd1_of hp3,w3,m1]
structure Own (h h':H) (p:Nat) (v v':V):Prop where
 fr:Fram h h' (fp p v)
 nw:v'=v∨∀ c o n k,v'=.sl c o n k→h.n≤c
theorem Own.refl (h:H) (p:Nat) (v:V):Own h h p v v:=⟨⟨Nat.le_refl _,fun _ _ _=>rfl⟩,.inl rfl⟩
theorem Own.trans {h h1 h2:H} {p:Nat} {v v1 v2:V} (a:Own h h1 p v v1) (b:Own h1 h2 p v1 v2):Own h h2 p v v2:=by
 refine ⟨⟨Nat.le_trans a.fr.1 b.fr.1,fun c hc hs=>?_⟩,?_⟩
 · have h1n:=a.fr.1
   rw [b.fr.2 c (by omega) ?_,a.fr.2 c hc hs]
   rintro (e | ⟨o,n,k,e⟩)
   ·exact hs (.inl e)
   ·rcases a.nw with e1 | e1
    ·exact hs (.inr ⟨o,n,k,by rw [← e1,e]⟩)
    ·have:=e1 c o n k e;omega
 · have h1n:=a.fr.1
   rcases b.nw with e | e
   ·rw [e];exact a.nw
   ·exact .inr fun c o n k e1=>by have:=e c o n k e1;omega
def renorm:Nat→List Nat→Nat→Nat→List Nat × Nat × Nat
 | 0,out,low,wide=>(out,low,wide)
 | n+1,out,low,wide=>if wide < 16777216 then renorm n (emit out low).1 (emit out low).2 (wide*256) else (out,low,wide)
theorem loop12 (p:Nat) (t:TypeId) (rng:V):∀ (n:Nat) (h:H) (v:V) (out:List Nat) (low wide:Nat) (e:E),EncAt h p t v out low rng→low < 8589934592→16777216≤wide*256 ^ n→wide < 4294967296→out.length+n < 1099511627775 →
   e.s [0,1,2,6,7,8] 0=.ptr p 0→e.s [0,1,2,6,7,8] 8=.int .u32 wide →
   ∃ e' h' v',loopZ (l137_0 KW loopZ) e h=some ⟨.ex 1,e',h'⟩∧e'.s [0,1,2,6,7,8] 0=.ptr p 0∧e'.s [0,1,2,6,7,8] 8=.int .u32 (renorm n out low wide).2.2 ∧
    EncAt h' p t v' (renorm n out low wide).1 (renorm n out low wide).2.1 rng∧Own h h' p v v'
 | n,h,v,out,low,wide,e,a,hlow,hw,hw32,hlen,he0,he8=>by
   by_cases hc:wide < 16777216
   ·cases n with
    | zero=>simp at hw;omega
    | succ n =>
     obtain ⟨h1,v1,k1,k2,k3,k4⟩:=shift_ok a (by omega) hlow
     have hm:IntKind.u32.wrap ((wide:Int)*2 ^ (min 8 IntKind.u32.bits))=((wide*256:Nat):Int):=by
      rw [show IntKind.u32.bits=32 from rfl,wrap32 (by simp;omega) (by simp;omega)];simp
     rw [loopZ_eq]
     simp [l137_0,he0,he8,show (wide:Int)≤16777215 by omega,k1]
     rw [hm]
     obtain ⟨e',h',v',i1,i2,i3,i4,i5⟩:=loop12 p t rng n h1 v1 _ _ (wide*256) ⟨[.ptr p 0,e.s [0,1,2,6,7,8] 1,e.s [0,1,2,6,7,8] 2,e.s [0,1,2,6,7,8] 6,e.s [0,1,2,6,7,8] 7,.int .u32 ((wide*256:Nat):Int)],8,.int .u32 ((wide*256:Nat):Int)⟩ k2
      (by have:=emit_lt out low;omega) (by rw [Nat.mul_assoc,← Nat.pow_succ'];exact hw) (by omega) (by rw [emit_length];omega) (by simp) (by simp)
     simp only [renorm,if_pos hc]
     exact ⟨e',h',i1,i2,i3,v',i4,(Own.trans ⟨k3,.inr k4⟩ i5)⟩
   ·rw [loopZ_eq]
    simp [l137_0,he0,he8,show ¬ (wide:Int)≤16777215 by omega]
    have hr:renorm n out low wide=(out,low,wide):=by cases n <;> simp [renorm,hc]
    rw [hr]
    exact ⟨_,_,⟨rfl,rfl⟩,by simp,by simp,v,a,Own.refl _ _ _⟩
def part (rng lo hi:Nat):Nat × Nat:=(rng / 32768*lo,if hi=32768 then rng - rng / 32768*lo else rng / 32768*(hi - lo))
theorem part_bounds {rng lo hi:Nat} (h0:16777216≤rng) (h1:rng < 4294967296) (h2:lo < hi) (h3:hi≤32768) :
   (part rng lo hi).1+(part rng lo hi).2≤rng∧512≤(part rng lo hi).2:=by
 unfold part
 have hq:512≤rng / 32768:=by omega
 have hq2:rng / 32768*32768≤rng:=by omega
 generalize rng / 32768=q at *
 have m1:q*lo+q*(hi - lo)≤q*32768:=by rw [← Nat.mul_add];exact Nat.mul_le_mul_left _ (by omega)
 have m2:q*1≤q*(hi - lo):=Nat.mul_le_mul_left _ (by omega)
 split
 · subst_vars;constructor <;> simp only <;> omega
 · constructor <;> simp only <;> omega
def EInv (low rng:Nat):Prop:=16777216≤rng∧rng < 4294967296∧low+rng < 8589934592
theorem renorm_inv:∀ {n:Nat} {out:List Nat} {low wide:Nat},16777216≤wide*256 ^ n→wide < 4294967296→low+wide < 8589934592 →
   EInv (renorm n out low wide).2.1 (renorm n out low wide).2.2∧(renorm n out low wide).1.length≤out.length+n
 | 0,out,low,wide,h1,h2,h3=>⟨⟨by simpa [renorm] using h1,h2,h3⟩,Nat.le_refl _⟩
 | n+1,out,low,wide,h1,h2,h3=>by
   unfold renorm
   split
   ·have hl:(emit out low).2≤4294967040:=by unfold emit;split <;> simp <;> omega
    have:=renorm_inv (n:=n) (out:=(emit out low).1) (low:=(emit out low).2) (wide:=wide*256) (by rw [Nat.mul_assoc,← Nat.pow_succ'];exact h1) (by omega) (by omega)
    refine ⟨this.1,?_⟩
    have:=this.2;rw [emit_length] at this;omega
   ·rename_i hc
    exact ⟨⟨by show _≤wide;omega,h2,h3⟩,by simp⟩
def put (out:List Nat) (low rng lo hi:Nat):List Nat × Nat × Nat:=renorm 3 out (low+(part rng lo hi).1) (part rng lo hi).2
theorem put_inv {out:List Nat} {low rng lo hi:Nat} (hi0:EInv low rng) (h2:lo < hi) (h3:hi≤32768) :
   EInv (put out low rng lo hi).2.1 (put out low rng lo hi).2.2∧(put out low rng lo hi).1.length≤out.length+3:=by
 obtain ⟨a,b,c⟩:=hi0
 obtain ⟨m1,m2⟩:=part_bounds a b h2 h3
 exact renorm_inv (by omega) (by omega) (by omega)
theorem put12_ok {h:H} {p:Nat} {t:TypeId} {v:V} {out:List Nat} {low rng lo hi:Nat} (a:EncAt h p t v out low (.int .u32 rng)) (inv:EInv low rng) (hlen:out.length < 1099511627000) (h2:lo < hi) (h3:hi≤32768) :
   ∃ h' v',KW 137 [.ptr p 0,.int .u32 lo,.int .u32 hi] h=some (.ret (.int .i64 0),h') ∧
    EncAt h' p t v' (put out low rng lo hi).1 (put out low rng lo hi).2.1 (.int .u32 (put out low rng lo hi).2.2)∧Own h h' p v v':=by
 obtain ⟨i1,i2,i3⟩:=inv
 obtain ⟨m1,m2⟩:=part_bounds i1 i2 h2 h3
 have hpl:=H.get_lt a.cell
 have hna:=narrow_ok rng lo hi (by omega) (by omega) (by omega) (by omega) (by omega) h
 obtain ⟨at_,hat⟩:∃ x,x=(part rng lo hi).1:=⟨_,rfl⟩
 obtain ⟨wd,hwd⟩:∃ x,x=(part rng lo hi).2:=⟨_,rfl⟩
 have e1:(rng:Int) / 32768*lo=(at_:Int):=by rw [hat,part];simp
 have e2:(if (hi:Int)=32768 then (rng:Int) - rng / 32768*lo else rng / 32768*(hi - lo))=(wd:Int):=by
   rw [hwd,part]
   have:=m1;rw [part] at this
   by_cases hc:hi=32768
   ·have hc':(hi:Int)=32768:=by omega
    simp only [if_pos hc,if_pos hc'] at *
    rw [Int.natCast_sub (by omega)];simp
   ·have hc':¬ (hi:Int)=32768:=by omega
    simp only [if_neg hc,if_neg hc']
    rw [Int.natCast_mul,Int.natCast_sub (by omega)];simp
 rw [← hat,← hwd] at m1
 rw [← hwd] at m2
 rw [e2,e1] at hna
 have hw1:=fun v=>wr1_of a.cell (o:=1) (by simp) v
 obtain ⟨h1,hh1⟩:∃ h1,h1=h.put p (.cells [v,.int .u64 ((low:Int)+at_),.int .u32 rng] t false):=⟨_,rfl⟩
 have a1:EncAt h1 p t v out (low+at_) (.int .u32 rng):=by
   refine ⟨by rw [hh1,get_put_same hpl];simp,?_,a.byte,by omega⟩
   rcases a.grow with g | ⟨b,g1,g2,g3⟩
   ·exact .inl g
   ·exact .inr ⟨b,g1,g2,by rw [hh1,get_put_ne (fun e=>sl_ne a.cell g3 (by simp [g1]) e.symm),g3]⟩
 have o1:Own h h1 p v v:=⟨⟨by rw [hh1,H.n_put];exact Nat.le_refl _,fun c hc hs=>by rw [hh1,get_put_ne fun e=>hs (.inl e)]⟩,.inl rfl⟩
 have ml:IntKind.u64.wrap ((low:Int)+at_)=(low:Int)+at_:=wrap64 (by omega) (by omega)
 have ma:IntKind.u64.wrap (at_:Int)=at_:=wrap64 (by omega) (by omega)
 obtain ⟨e',h',v',k1,k2,k3,k4,k5⟩:=loop12 p t (.int .u32 rng) 3 h1 v out (low+at_) wd ⟨[.ptr p 0,.int .u32 lo,.int .u32 hi,.int .i64 0,.int .u32 at_,.int .u32 wd],0,.ptr p 0⟩ a1 (by omega) (by omega) (by omega) (by omega) (by simp) (by simp)
 have hput:put out low rng lo hi=renorm 3 out (low+at_) wd:=by rw [put,← hat,← hwd]
 rw [hput]
 have hpl':=H.get_lt k4.cell
 obtain ⟨r,hr⟩:∃ r,r=renorm 3 out (low+at_) wd:=⟨_,rfl⟩
 rw [← hr] at k3 k4 ⊢
 have hw3:=fun v=>wr1_of k4.cell (o:=2) (by simp) v
 refine ⟨h'.put p (.cells [v',.int .u64 r.2.1,.int .u32 r.2.2] t false),v',?_,⟨get_put_same hpl',?_,k4.byte,k4.low64⟩,o1.trans (k5.trans ⟨⟨by rw [H.n_put];exact Nat.le_refl _,fun c hc hs=>by rw [get_put_ne fun e=>hs (.inl e)]⟩,.inl rfl⟩)⟩
 · rw [w137,f137,s137]
   simp only [u32] at hna
   have hz:¬ (rng=0):=by omega
   have hz':¬ (hi≤lo):=by omega
   have hz'':¬ (32768 < hi):=by omega
   have hz1:¬ ((hi:Int)≤lo):=by omega
   have hz2:¬ ((32768:Int) < hi):=by omega
   simp [rd1_of a.cell,hz,hz1,hz2,hz',hz'',hna,hw1,ma,ml,← hh1,k1,k2,k3,hw3]
 · rcases k4.grow with g | ⟨b,g1,g2,g3⟩
   ·exact .inl g
   ·exact .inr ⟨b,g1,g2,by rw [get_put_ne (fun e=>sl_ne k4.cell g3 (by simp [g1]) e.symm),g3]⟩
theorem new10_ok (h:H):∃ h',KW 34 [] h=some (.ret (.ptr h.n 0),h')∧EncAt h' h.n 144 .nils [] 0 (.int .u32 (4294967295:Nat))∧h'.n=h.n+1∧∀ c,c < h.n→h'.get c=h.get c:=by
 refine ⟨h.new (.cells [.nils,.int .u64 0,.int .u32 4294967295] 144 false),?_,⟨get_new_same,.inl ⟨rfl,rfl⟩,by simp,by omega⟩,rfl,fun c hc=>get_new_lt hc⟩
 rw [w34,f34,s34]
 simp [bl,fillW,bx,V.cells,splice]
theorem clone_ok {h:H} {v:V} {out:List Nat} (g:Grow h v out) (hlen:out.length < 1099511627776) :
   ∃ h' v',KW 109 [v] h=some (.ret v',h')∧Grow h' v' out∧h.n≤h'.n∧(∀ c,c < h.n→h'.get c=h.get c)∧∀ c o n k,v'=.sl c o n k→h.n≤c:=by
 rcases g with ⟨rfl,rfl⟩ | ⟨b,rfl,hne,hb⟩
 · refine ⟨h,.nils,?_,.inl ⟨rfl,rfl⟩,Nat.le_refl _,fun _ _=>rfl,fun c o n k e=>by cases e⟩
   rw [w109,f109,s109]
   simp
 · have hbl:=H.get_lt hb
   have hll:out.length ≠ 0:=by simpa using hne
   obtain ⟨h1,hh1⟩:∃ h1,h1=h.new (.cells [] 5 false):=⟨_,rfl⟩
   have hb1:h1.get b=some (.cells (bytesV out) 5 false):=by rw [hh1,get_new_lt hbl,hb]
   have hk:List.take out.length (bytesV out)=bytesV out:=List.take_of_length_le (by simp)
   refine ⟨h1.new (.cells (bytesV out) 5 false),.sl h1.n 0 out.length (.op 1),?_,.inr ⟨h1.n,rfl,hne,get_new_same⟩,by rw [H.n_new,hh1,H.n_new];omega,fun c hc=>?_,fun c o n k e=>?_⟩
   ·have hr0:h1.get h.n=some (.cells [] 5 false):=by rw [hh1];exact get_new_same
    rw [w109,f109,s109]
    simp [bs,fillW,← hh1,apZ,lenOf,firstV,H.rdN,hb1,apN,hr0,hk,hll,show out.length≤140737488355328 by omega]
   ·rw [get_new_lt (by rw [hh1,H.n_new];omega),hh1,get_new_lt hc]
   ·cases e;rw [hh1,H.n_new];omega
def emits:Nat→List Nat→Nat→List Nat × Nat
 | 0,out,low=>(out,low)
 | n+1,out,low=>emits n (emit out low).1 (emit out low).2
theorem loop14 (p:Nat) (t:TypeId) (rng:V):∀ (n:Nat) (h:H) (v:V) (out:List Nat) (low:Nat) (e:E),EncAt h p t v out low rng→low < 8589934592→n≤4→out.length+n < 1099511627775 →
   e.s [0,2,3,4,24] 3=.ptr p 0→e.s [0,2,3,4,24] 24=.int .i64 (4 - (n:Int)) →
   ∃ e' h' v',loopZ (l62_0 KW loopZ) e h=some ⟨.ex 0,e',h'⟩∧e'.s [0,2,3,4,24] 3=.ptr p 0 ∧
    EncAt h' p t v' (emits n out low).1 (emits n out low).2 rng∧Own h h' p v v'
 | 0,h,v,out,low,e,a,hlow,hn,hlen,he0,he1=>by
   rw [loopZ_eq]
   simp [l62_0,he0,he1]
   exact ⟨_,_,⟨rfl,rfl⟩,by simp,v,a,Own.refl _ _ _⟩
 | n+1,h,v,out,low,e,a,hlow,hn,hlen,he0,he1=>by
   obtain ⟨h1,v1,k1,k2,k3,k4⟩:=shift_ok a (by omega) hlow
   rw [loopZ_eq]
   simp [l62_0,he0,he1,show (4:Int) - (n+1) < 4 by omega,k1]
   have hw:IntKind.i64.wrap ((4:Int) - (n+1)+1)=4 - (n:Int):=by rw [wi64 (by omega) (by omega)];omega
   rw [hw]
   obtain ⟨e',h',v',i1,i2,i4,i5⟩:=loop14 p t rng n h1 v1 _ _ ⟨[e.s [0,2,3,4,24] 0,e.s [0,2,3,4,24] 2,.ptr p 0,e.s [0,2,3,4,24] 4,.int .i64 (4 - (n:Int))],24,.int .i64 (4 - (n:Int))⟩ k2
    (by have:=emit_lt out low;omega) (by omega) (by rw [emit_length];omega) (by simp) (by simp)
   exact ⟨e',h',i1,i2,v',i4,Own.trans ⟨k3,.inr k4⟩ i5⟩
def trimN (out:List Nat):Nat→Nat
 | 0=>0
 | k+1=>if out[k]?=some 0 then trimN out k else k+1
theorem trimN_le (out:List Nat):∀ k,trimN out k≤k
 | 0=>Nat.le_refl _
 | k+1=>by unfold trimN;split;exact Nat.le_succ_of_le (trimN_le out k);exact Nat.le_refl _
theorem trim14 (p b:Nat) (t:TypeId) (c1 c2:V) (out:List Nat) (h:H) (hc:h.get p=some (.cells [.sl b 0 out.length (.op 1),c1,c2] t false)) (hb:h.get b=some (.cells (bytesV out) 5 false)) (hlen:out.length < 1099511627776):∀ (k:Nat) (e:E),k≤out.length →
   e.s [0,2,3,4,24] 3=.ptr p 0→e.s [0,2,3,4,24] 4=.int .i64 k →
   ∃ e',loopZ (l62_1 KW loopZ) e h=some ⟨.ex 2,e',h⟩∧e'.s [0,2,3,4,24] 3=.ptr p 0∧e'.s [0,2,3,4,24] 4=.int .i64 (trimN out k)
 | 0,e,hk,he0,he1=>by
   rw [loopZ_eq]
   simp [l62_1,he0,he1,trimN]
 | k+1,e,hk,he0,he1=>by
   obtain ⟨x,hx⟩:∃ x,out[k]?=some x:=⟨out[k],by simp⟩
   have hbx:(bytesV out)[k]?=some (.int .u8 x):=by simp [bytesV,hx]
   have hw:IntKind.i64.wrap (((k+1:Nat):Int) - 1)=k:=by rw [wi64 (by omega) (by omega)];omega
   have hw':IntKind.i64.wrap ((k:Int))=k:=wi64 (by omega) (by omega)
   have hkl:k < out.length:=by omega
   obtain ⟨c,hcc⟩:∃ c,c=bytesV out:=⟨_,rfl⟩
   have hb0:=hb
   rw [← hcc] at hb hbx
   rw [loopZ_eq]
   by_cases h0:x=0
   ·subst h0
    simp [l62_1,he0,he1,rd1_of hc,rd1_of hb,hbx,hw,hw',show (0:Int) < (k:Int)+1 by omega,hkl]
    obtain ⟨e',i1,i2,i3⟩:=trim14 p b t c1 c2 out h hc hb0 hlen k ⟨[e.s [0,2,3,4,24] 0,e.s [0,2,3,4,24] 2,.ptr p 0,.int .i64 k,e.s [0,2,3,4,24] 24],4,.int .i64 k⟩ (by omega) (by simp) (by simp)
    refine ⟨e',i1,i2,?_⟩
    rw [i3,trimN,hx];simp
   ·have ht:trimN out (k+1)=k+1:=by rw [trimN,hx];simp [h0]
    simp [l62_1,he0,he1,rd1_of hc,rd1_of hb,hbx,hw,hw',show (0:Int) < (k:Int)+1 by omega,hkl,h0,ht]
theorem emits_length:∀ (n:Nat) (out:List Nat) (low:Nat),(emits n out low).1.length=out.length+n
 | 0,_,_=>rfl
 | n+1,out,low=>by rw [emits,emits_length n,emit_length];omega
def bytes (out:List Nat) (low:Nat):List Nat:=(emits 4 out low).1.take (trimN (emits 4 out low).1 (out.length+4))
theorem grow_ck {h:H} {v:V} {out:List Nat} (g:Grow h v out) {β:Type} (y:Option β):ck (some v) v y=y:=by
 rcases g with ⟨e1,e2⟩ | ⟨b,e1,e2,e3⟩ <;> rw [e1] <;> simp
theorem grow_cells {h:H} {v:V} {out:List Nat} (g:Grow h v out):v.cells=some [v]:=by
 rcases g with ⟨e1,e2⟩ | ⟨b,e1,e2,e3⟩ <;> rw [e1] <;> simp [V.cells,V.isCell]
theorem cells_int (k:IntKind) (n:Int):(V.int k n).cells=some [.int k n]:=rfl
theorem bytes14_ok {h:H} {p:Nat} {t:TypeId} {v:V} {out:List Nat} {low rng:Nat} (a:EncAt h p t v out low (.int .u32 rng)) (inv:EInv low rng) (hlen:out.length < 1099511627000) :
   ∃ h' b,KW 62 [.ptr p 0] h=some (.ret (.sl b 0 (trimN (emits 4 out low).1 (out.length+4)) (.ex (trimN (emits 4 out low).1 (out.length+4)))),h') ∧
    h'.get b=some (.cells (bytesV (emits 4 out low).1) 5 false)∧(∀ x ∈ (emits 4 out low).1,x < 256)∧h.n≤b∧h.n≤h'.n∧∀ c,c < h.n→h'.get c=h.get c:=by
 obtain ⟨i1,i2,i3⟩:=inv
 have hpl:=H.get_lt a.cell
 obtain ⟨h1,v1,k1,k2,k3,k4,k5⟩:=clone_ok a.grow (by omega)
 have hp1:h1.get p=some (.cells [v,.int .u64 low,.int .u32 rng] t false):=by rw [k4 p hpl,a.cell]
 have hz:¬ (rng=0):=by omega
 have hbl:bl [.nils,.int .u64 0,.int .u32 0] [(some (0,1),v1),(some (1,1),.int .u64 low)]=some (.agg [v1,.int .u64 low,.int .u32 0]):=by
   simp [bl,fillW,grow_cells k2,cells_int,splice]
 obtain ⟨h2,hh2⟩:∃ h2,h2=h1.new (.cells [.nils,.int .u64 0,.int .u32 0] 144 false):=⟨_,rfl⟩
 have hq2:h2.get h1.n=some (.cells [.nils,.int .u64 0,.int .u32 0] 144 false):=by rw [hh2];exact get_new_same
 obtain ⟨h3,hh3⟩:∃ h3,h3=h2.put h1.n (.cells [v1,.int .u64 low,.int .u32 0] 144 false):=⟨_,rfl⟩
 have hst:stZ 3 h2 (.ptr h1.n 0) (.agg [v1,.int .u64 low,.int .u32 0])=some (.tup [],h3):=by
   rw [hh3];simp [stZ,H.wrN,hq2,splice]
 have a3:EncAt h3 h1.n 144 v1 out low (.int .u32 0):=by
   refine ⟨by rw [hh3,get_put_same (H.get_lt hq2)],?_,a.byte,a.low64⟩
   rcases k2 with g | ⟨b,g1,g2,g3⟩
   ·exact .inl g
   ·have:=H.get_lt g3
    exact .inr ⟨b,g1,g2,by rw [hh3,get_put_ne (by omega),hh2,get_new_lt this,g3]⟩
 obtain ⟨e',h4,v4,j1,j2,j3,j4⟩:=loop14 h1.n 144 (.int .u32 0) 4 h3 v1 out low ⟨[.ptr p 0,.nils,.ptr h1.n 0,.tup [],.int .i64 0],24,.int .i64 0⟩ a3 (by omega) (by omega) (by omega) (by simp) (by simp)
 have hn2:h2.n=h1.n+1:=by rw [hh2,H.n_new]
 have hn3:h3.n=h1.n+1:=by rw [hh3,H.n_put,hn2]
 have hel:=emits_length 4 out low
 rcases j3.grow with ⟨g1,g2⟩ | ⟨b,rfl,g2,g3⟩
 · rw [g2] at hel;simp at hel
 · obtain ⟨e2,m1,m2,m3⟩:=trim14 h1.n b 144 (.int .u64 (emits 4 out low).2) (.int .u32 0) _ h4 j3.cell g3 (by omega) _ ⟨[e'.s [0,2,3,4,24] 0,e'.s [0,2,3,4,24] 2,.ptr h1.n 0,.int .i64 (emits 4 out low).1.length,e'.s [0,2,3,4,24] 24],4,.int .i64 (emits 4 out low).1.length⟩ (Nat.le_refl _) (by simp) (by simp)
   have hle:=trimN_le (emits 4 out low).1 (emits 4 out low).1.length
   rw [← hel]
   obtain ⟨n,hn⟩:∃ n,n=trimN (emits 4 out low).1 (emits 4 out low).1.length:=⟨_,rfl⟩
   rw [← hn] at m3 hle ⊢
   have hsl:slS 1 (.sl b 0 (emits 4 out low).1.length (.op 1)) none (some (.int .i64 n)) (some (.int .i64 n))=some (.sl b 0 n (.ex n)):=by
    have hle':n≤(emits 4 out low).1.length:=hle
    simp [slS,sbV,optB,hle']
   refine ⟨h4,b,?_,g3,j3.byte,?_,by have:=j4.fr.1;omega,fun c hc=>?_⟩
   ·rw [w62,f62,s62]
    simp [rd1_of a.cell,hz,k1,rd1_of hp1,hbl,nw,← hh2,hst,grow_ck a.grow,j1,j2,rd1_of j3.cell,m1,m2,m3,hsl]
   ·rcases j4.nw with e | e
    ·have:=k5 b;rw [← e] at this;have:=this _ _ _ rfl;omega
    ·have:=e b _ _ _ rfl;omega
   ·rw [j4.fr.2 c (by omega) ?_,hh3,get_put_ne (by omega),hh2,get_new_lt (by omega),k4 c hc]
    rintro (e | ⟨o,n,k,e⟩)
    ·omega
    ·have:=k5 _ _ _ _ e;omega
def SlAt (h:H) (v:V) (l:List Nat):Prop :=
 (v=.nils∧l=[])∨∃ b o k c e ro,v=.sl b o l.length k∧h.get b=some (.cells c e ro)∧∀ i,i < l.length→c[o+i]?=(bytesV l)[i]?
def Only (h h':H) (p:Nat):Prop:=h'.n=h.n∧∀ c,c ≠ p→h'.get c=h.get c
theorem Only.refl (h:H) (p:Nat):Only h h p:=⟨rfl,fun _ _=>rfl⟩
theorem Only.trans {h h1 h2:H} {p:Nat} (a:Only h h1 p) (b:Only h1 h2 p):Only h h2 p :=
 ⟨b.1.trans a.1,fun c hc=>by rw [b.2 c hc,a.2 c hc]⟩
theorem Only.put (h:H) (p:Nat) (x:Blk):Only h (h.put p x) p:=⟨H.n_put _ _ _,fun c hc=>get_put_ne hc⟩
def OSl (h:H) (X:Nat→Prop) (v:V) (l:List Nat):Prop :=
 (v=.nils∧l=[])∨(∃ b o k,v=.sl b o 0 k∧l=[]) ∨
 ∃ b o c e ro,v=.sl b o l.length (.op 1)∧¬ X b∧h.get b=some (.cells c e ro)∧∀ i,i < l.length→c[o+i]?=(bytesV l)[i]?
theorem OSl.only {h h':H} {X:Nat→Prop} {p:Nat} {v:V} {l:List Nat} (a:OSl h X v l) (o:Only h h' p) (hX:X p):OSl h' X v l:=by
 rcases a with a | a | ⟨b,o',c,e,ro,h1,h2,h3,h4⟩
 · exact .inl a
 · exact .inr (.inl a)
 · exact .inr (.inr ⟨b,o',c,e,ro,h1,h2,by rw [o.2 b (fun e=>h2 (e ▸ hX)),h3],h4⟩)
structure DecAt (h:H) (X:Nat→Prop) (p:Nat) (v:V) (rest:List Nat) (code rng:Nat):Prop where
 cell:h.get p=some (.cells [v,.int .u32 code,.int .u32 rng] 171 false)
 own:X p
 sl:OSl h X v rest
 byte:∀ x ∈ rest,x < 256
def DInv (code rng:Nat):Prop:=16777216≤rng∧rng < 4294967296∧code < rng
def value (code rng:Nat):Nat:=min (code / (rng / 32768)) 32767
theorem value35_ok {h:H} {X:Nat→Prop} {p:Nat} {v:V} {rest:List Nat} {code rng:Nat} (a:DecAt h X p v rest code rng) (inv:DInv code rng) :
   KW 163 [.ptr p 0] h=some (.ret (.int .u32 (value code rng)),h):=by
 obtain ⟨i1,i2,i3⟩:=inv
 have e1:(rng:Int).fdiv (2 ^ (min 15 IntKind.u32.bits))=((rng / 32768:Nat):Int):=by
   rw [Int.fdiv_eq_ediv_of_nonneg _ (by decide)];rfl
 obtain ⟨q,hq⟩:∃ q,q=rng / 32768:=⟨_,rfl⟩
 have hq0:¬ (q=0):=by omega
 have e2:(code:Int).tdiv (q:Int)=((code / q:Nat):Int):=by rw [Int.tdiv_eq_ediv_of_nonneg (by omega)];rfl
 have hle:code / q≤code:=Nat.div_le_self _ _
 rw [← hq] at e1
 rw [value,← hq]
 obtain ⟨x,hx⟩:∃ x,x=code / q:=⟨_,rfl⟩
 rw [← hx] at e2 hle ⊢
 have e3:IntKind.u32.wrap (x:Int)=x:=wrap32 (by omega) (by omega)
 have e4:minV [.int .u32 (x:Int),.int .u32 32767]=some (.int .u32 ((min x 32767:Nat):Int)):=by
   simp [minV,foldV,min2V]
   split <;> omega
 rw [w163,f163,s163]
 simp [rd1_of a.cell,e1,hq0,e2,e3,e4]
theorem shift33_ok {h:H} {X:Nat→Prop} {p:Nat} {v:V} {rest:List Nat} {code rng:Nat} (a:DecAt h X p v rest code rng) (hc:code < 16777216) :
   ∃ h' v',KW 111 [.ptr p 0] h=some (.ret (.tup []),h')∧DecAt h' X p v' rest.tail (code*256+rest.headD 0) rng∧Only h h' p:=by
 have hpl:=H.get_lt a.cell
 obtain ⟨d,hd⟩:∃ d,d=code*256:=⟨_,rfl⟩
 have m1:IntKind.u32.wrap ((code:Int)*2 ^ (min 8 IntKind.u32.bits))=(d:Int):=by
   rw [show IntKind.u32.bits=32 from rfl,wrap32 (by simp;omega) (by simp;omega),hd];simp
 have hw1:=fun x=>wr1_of a.cell (o:=1) (by simp) x
 obtain ⟨h1,hh1⟩:∃ h1,h1=h.put p (.cells [v,.int .u32 (d:Int),.int .u32 rng] 171 false):=⟨_,rfl⟩
 have hp1:h1.get p=some (.cells [v,.int .u32 (d:Int),.int .u32 rng] 171 false):=by rw [hh1];exact get_put_same hpl
 have o1:Only h h1 p:=by rw [hh1];exact Only.put _ _ _
 rw [← hd]
 rcases a.sl with ⟨rfl,rfl⟩ | ⟨b,o,k,rfl,rfl⟩ | ⟨b,o,c,e,ro,rfl,hbX,hb,hcs⟩
 · refine ⟨h1,.nils,?_,⟨by simpa using hp1,a.own,.inl ⟨rfl,rfl⟩,by simp⟩,o1⟩
   rw [w111,f111,s111]
   simp [rd1_of a.cell,hw1,m1,← hh1,rd1_of hp1]
 · refine ⟨h1,.sl b o 0 k,?_,⟨by simpa using hp1,a.own,.inr (.inl ⟨b,o,k,rfl,rfl⟩),by simp⟩,o1⟩
   rw [w111,f111,s111]
   simp [rd1_of a.cell,hw1,m1,← hh1,rd1_of hp1]
 · cases rest with
   | nil =>
    simp only [List.length_nil] at hh1 hp1
    refine ⟨h1,.sl b o 0 (.op 1),?_,⟨by simpa using hp1,a.own,.inr (.inl ⟨b,o,_,rfl,rfl⟩),by simp⟩,o1⟩
    rw [w111,f111,s111]
    simp [rd1_of a.cell,hw1,m1,← hh1,rd1_of hp1]
   | cons x r =>
    have hbp:b ≠ p:=fun e=>hbX (e ▸ a.own)
    have hx:x < 256:=a.byte x (by simp)
    have hcx:c[o]?=some (.int .u8 x):=by have:=hcs 0 (by simp);simpa [bytesV] using this
    have hb1:h1.get b=some (.cells c e ro):=by rw [o1.2 b hbp,hb]
    have ho:IntKind.u32.wrap ((d % 2 ^ IntKind.u32.bits ||| x % 2 ^ IntKind.u32.bits:Nat):Int)=((d+x:Nat):Int):=by
     rw [show IntKind.u32.bits=32 from rfl,Nat.mod_eq_of_lt (show d < 2 ^ 32 by omega),Nat.mod_eq_of_lt (show x < 2 ^ 32 by omega)]
     have e1:d ||| x=d+x:=by
      rw [hd,Nat.mul_comm,show (256:Nat)=2 ^ 8 from rfl,Nat.two_pow_add_eq_or_of_lt (by omega)]
     rw [e1,wrap32 (by omega) (by omega)]
    have mx:IntKind.u32.wrap (x:Int)=x:=wrap32 (by omega) (by omega)
    have hw2:=fun x=>wr1_of hp1 (o:=1) (by simp) x
    obtain ⟨w,hw⟩:∃ w,w=d+x:=⟨_,rfl⟩
    rw [← hw] at ho
    obtain ⟨h2,hh2⟩:∃ h2,h2=h1.put p (.cells [.sl b o (x :: r).length (.op 1),.int .u32 (w:Int),.int .u32 rng] 171 false):=⟨_,rfl⟩
    have hp2:h2.get p=some (.cells [.sl b o (x :: r).length (.op 1),.int .u32 (w:Int),.int .u32 rng] 171 false):=by rw [hh2];exact get_put_same (H.get_lt hp1)
    have o2:Only h1 h2 p:=by rw [hh2];exact Only.put _ _ _
    have hw3:=fun x=>wr1_of hp2 (o:=0) (by simp) x
    have hsl:slS 1 (.sl b o (r.length+1) (.op 1)) (some (.int .i64 1)) none none=some (.sl b (o+1) r.length (.op 1)):=by
     simp [slS,sbV,optB,show (1:Int)≤(r.length:Int)+1 by omega]
    obtain ⟨h3,hh3⟩:∃ h3,h3=h2.put p (.cells [.sl b (o+1) r.length (.op 1),.int .u32 (w:Int),.int .u32 rng] 171 false):=⟨_,rfl⟩
    have o3:Only h2 h3 p:=by rw [hh3];exact Only.put _ _ _
    have hp3:h3.get p=some (.cells [.sl b (o+1) r.length (.op 1),.int .u32 (w:Int),.int .u32 rng] 171 false):=by rw [hh3];exact get_put_same (H.get_lt hp2)
    simp only [List.length_cons] at hh1 hp1 hh2 hp2
    refine ⟨h3,.sl b (o+1) r.length (.op 1),?_,⟨by simpa [← hw] using hp3,a.own,.inr (.inr ⟨b,o+1,c,e,ro,rfl,hbX,by rw [o3.2 b hbp,o2.2 b hbp,hb1],fun i hi=>?_⟩),fun y hy=>a.byte y (by simp at hy;simp [hy])⟩,o1.trans (o2.trans o3)⟩
    ·rw [w111,f111,s111]
     simp [rd1_of a.cell,hw1,m1,← hh1,rd1_of hp1,rd1_of hb1,hcx,mx,ho,hw2,← hh2,rd1_of hp2,hw3,hsl,← hh3]
    ·have:=hcs (i+1) (by simp at hi ⊢;omega)
     simp [bytesV] at this ⊢
     rw [show o+1+i=o+(i+1) by omega,this]
def drenorm:Nat→List Nat→Nat→Nat→List Nat × Nat × Nat
 | 0,rest,code,wide=>(rest,code,wide)
 | n+1,rest,code,wide=>if wide < 16777216 then drenorm n rest.tail (code*256+rest.headD 0) (wide*256) else (rest,code,wide)
theorem headD_lt {l:List Nat} (h:∀ x ∈ l,x < 256):l.headD 0 < 256:=by
 cases l with
 | nil=>simp
 | cons a l=>exact h a (by simp)
theorem loop24 (X:Nat→Prop) (p:Nat) (rng:Nat):∀ (n:Nat) (h:H) (v:V) (rest:List Nat) (code wide:Nat) (e:E),DecAt h X p v rest code rng→code < wide→16777216≤wide*256 ^ n→wide < 4294967296 →
   e.s [0,1,2,6,7,8,9] 0=.ptr p 0→e.s [0,1,2,6,7,8,9] 9=.int .u32 wide →
   ∃ e' h' v',loopZ (l138_0 KW loopZ) e h=some ⟨.ex 0,e',h'⟩∧e'.s [0,1,2,6,7,8,9] 0=.ptr p 0∧e'.s [0,1,2,6,7,8,9] 9=.int .u32 (drenorm n rest code wide).2.2 ∧
    DecAt h' X p v' (drenorm n rest code wide).1 (drenorm n rest code wide).2.1 rng∧Only h h' p
 | n,h,v,rest,code,wide,e,a,hcw,hw,hw32,he0,he9=>by
   by_cases hc:wide < 16777216
   ·cases n with
    | zero=>simp at hw;omega
    | succ n =>
     obtain ⟨h1,v1,k1,k2,k3⟩:=shift33_ok a (by omega)
     have hm:IntKind.u32.wrap ((wide:Int)*2 ^ (min 8 IntKind.u32.bits))=((wide*256:Nat):Int):=by
      rw [show IntKind.u32.bits=32 from rfl,wrap32 (by simp;omega) (by simp;omega)];simp
     have hb:=headD_lt a.byte
     rw [loopZ_eq]
     simp [l138_0,he0,he9,show (wide:Int)≤16777215 by omega,k1]
     rw [hm]
     obtain ⟨e',h',v',i1,i2,i3,i4,i5⟩:=loop24 X p rng n h1 v1 _ _ (wide*256) ⟨[.ptr p 0,e.s [0,1,2,6,7,8,9] 1,e.s [0,1,2,6,7,8,9] 2,e.s [0,1,2,6,7,8,9] 6,e.s [0,1,2,6,7,8,9] 7,e.s [0,1,2,6,7,8,9] 8,.int .u32 ((wide*256:Nat):Int)],9,.int .u32 ((wide*256:Nat):Int)⟩ k2
      (by omega) (by rw [Nat.mul_assoc,← Nat.pow_succ'];exact hw) (by omega) (by simp) (by simp)
     simp only [drenorm,if_pos hc]
     exact ⟨e',h',i1,i2,i3,⟨v',i4⟩,k3.trans i5⟩
   ·rw [loopZ_eq]
    simp [l138_0,he0,he9,show ¬ (wide:Int)≤16777215 by omega]
    have hr:drenorm n rest code wide=(rest,code,wide):=by cases n <;> simp [drenorm,hc]
    rw [hr]
    exact ⟨_,_,⟨rfl,rfl⟩,by simp,by simp,⟨v,a⟩,Only.refl _ _⟩
theorem value21_ok {h:H} {X:Nat→Prop} {p:Nat} {v:V} {rest:List Nat} {code rng:Nat} (a:DecAt h X p v rest code rng) (inv:DInv code rng) :
   KW 134 [.ptr p 0] h=some (.ret (.tup [.int .u32 (value code rng),.int .i64 0]),h):=by
 have h1:=value35_ok a inv
 have hz:¬ (rng=0):=by have:=inv.1;omega
 rw [w134,f134,s134]
 simp [rd1_of a.cell,hz,h1]
def take (rest:List Nat) (code rng lo hi:Nat):List Nat × Nat × Nat:=drenorm 3 rest (code - (part rng lo hi).1) (part rng lo hi).2
theorem take_part {code rng lo hi:Nat} (inv:DInv code rng) (h1:lo≤value code rng) (h2:value code rng < hi) (h3:hi≤32768) :
   (part rng lo hi).1≤code∧code - (part rng lo hi).1 < (part rng lo hi).2:=by
 obtain ⟨i1,i2,i3⟩:=inv
 unfold value at h1 h2
 unfold part
 have hq:512≤rng / 32768:=by omega
 have hq2:rng / 32768*32768≤rng:=by omega
 generalize rng / 32768=q at *
 have d1:q*(code / q)≤code:=Nat.mul_div_le _ _
 have d2:q*lo≤q*(code / q):=Nat.mul_le_mul_left _ (by omega)
 refine ⟨by simp only;omega,?_⟩
 simp only
 split
 · omega
 · have h4:code / q < hi:=by omega
   have d3:code < q*hi:=by rw [Nat.mul_comm];exact (Nat.div_lt_iff_lt_mul (by omega)).mp h4
   rw [Nat.mul_sub]
   omega
theorem drenorm_inv:∀ {n:Nat} {rest:List Nat} {code wide:Nat},16777216≤wide*256 ^ n→wide < 4294967296→code < wide→(∀ x ∈ rest,x < 256) →
   DInv (drenorm n rest code wide).2.1 (drenorm n rest code wide).2.2∧∀ x ∈ (drenorm n rest code wide).1,x < 256
 | 0,rest,code,wide,h1,h2,h3,h4=>⟨⟨by simpa [drenorm] using h1,h2,h3⟩,h4⟩
 | n+1,rest,code,wide,h1,h2,h3,h4=>by
   unfold drenorm
   split
   ·have:=headD_lt h4
    exact drenorm_inv (by rw [Nat.mul_assoc,← Nat.pow_succ'];exact h1) (by omega) (by omega) fun x hx=>h4 x (List.mem_of_mem_tail hx)
   ·exact ⟨⟨by simp only;omega,h2,h3⟩,h4⟩
theorem take_inv {rest:List Nat} {code rng lo hi:Nat} (inv:DInv code rng) (h1:lo≤value code rng) (h2:value code rng < hi) (h3:hi≤32768) (hb:∀ x ∈ rest,x < 256) :
   DInv (take rest code rng lo hi).2.1 (take rest code rng lo hi).2.2∧∀ x ∈ (take rest code rng lo hi).1,x < 256:=by
 obtain ⟨m1,m2⟩:=part_bounds inv.1 inv.2.1 (by omega:lo < hi) h3
 have:=inv.2.1
 exact drenorm_inv (by omega) (by omega) (take_part inv h1 h2 h3).2 hb
theorem take24_ok {h:H} {X:Nat→Prop} {p:Nat} {v:V} {rest:List Nat} {code rng lo hi:Nat} (a:DecAt h X p v rest code rng) (inv:DInv code rng) (h1:lo≤value code rng) (h2:value code rng < hi) (h3:hi≤32768) :
   ∃ h' v',KW 138 [.ptr p 0,.int .u32 lo,.int .u32 hi] h=some (.ret (.int .i64 0),h') ∧
    DecAt h' X p v' (take rest code rng lo hi).1 (take rest code rng lo hi).2.1 (take rest code rng lo hi).2.2∧Only h h' p:=by
 have hv:=value35_ok a inv
 obtain ⟨t1,t2⟩:=take_part inv h1 h2 h3
 obtain ⟨i1,i2,i3⟩:=inv
 obtain ⟨m1,m2⟩:=part_bounds i1 i2 (by omega:lo < hi) h3
 have hna:=narrow_ok rng lo hi (by omega) (by omega) (by omega) (by omega) (by omega) h
 obtain ⟨vl,hvl⟩:∃ x,x=value code rng:=⟨_,rfl⟩
 rw [← hvl] at hv h1 h2
 obtain ⟨at_,hat⟩:∃ x,x=(part rng lo hi).1:=⟨_,rfl⟩
 obtain ⟨wd,hwd⟩:∃ x,x=(part rng lo hi).2:=⟨_,rfl⟩
 have e1:(rng:Int) / 32768*lo=(at_:Int):=by rw [hat,part];simp
 have e2:(if (hi:Int)=32768 then (rng:Int) - rng / 32768*lo else rng / 32768*(hi - lo))=(wd:Int):=by
   rw [hwd,part]
   have:=m1;rw [part] at this
   by_cases hc:hi=32768
   ·have hc':(hi:Int)=32768:=by omega
    simp only [if_pos hc,if_pos hc'] at *
    rw [Int.natCast_sub (by omega)];simp
   ·have hc':¬ (hi:Int)=32768:=by omega
    simp only [if_neg hc,if_neg hc']
    rw [Int.natCast_mul,Int.natCast_sub (by omega)];simp
 rw [← hat,← hwd] at m1 t2
 rw [← hwd] at m2
 rw [← hat] at t1
 rw [e2,e1] at hna
 have htk:take rest code rng lo hi=drenorm 3 rest (code - at_) wd:=by rw [take,← hat,← hwd]
 obtain ⟨cd,hcd⟩:∃ x,x=code - at_:=⟨_,rfl⟩
 rw [← hcd] at t2 htk
 have mc:IntKind.u32.wrap ((code:Int) - at_)=(cd:Int):=by rw [wrap32 (by omega) (by omega)];omega
 have hw1:=fun v=>wr1_of a.cell (o:=1) (by simp) v
 obtain ⟨h1',hh1⟩:∃ h1,h1=h.put p (.cells [v,.int .u32 (cd:Int),.int .u32 rng] 171 false):=⟨_,rfl⟩
 have o1:Only h h1' p:=by rw [hh1];exact Only.put _ _ _
 have a1:DecAt h1' X p v rest cd rng:=⟨by rw [hh1];exact get_put_same (H.get_lt a.cell),a.own,a.sl.only o1 a.own,a.byte⟩
 obtain ⟨e',h',v',k1,k2,k3,k4,k5⟩:=loop24 X p rng 3 h1' v rest cd wd ⟨[.ptr p 0,.int .u32 lo,.int .u32 hi,.int .i64 0,.int .u32 vl,.int .u32 at_,.int .u32 wd],0,.ptr p 0⟩ a1 (by omega) (by omega) (by omega) (by simp) (by simp)
 rw [htk]
 obtain ⟨r,hr⟩:∃ r,r=drenorm 3 rest cd wd:=⟨_,rfl⟩
 rw [← hr] at k3 k4 ⊢
 have hw3:=fun v=>wr1_of k4.cell (o:=2) (by simp) v
 have o3:=Only.put h' p (.cells [v',.int .u32 r.2.1,.int .u32 r.2.2] 171 false)
 refine ⟨h'.put p (.cells [v',.int .u32 r.2.1,.int .u32 r.2.2] 171 false),v',?_,⟨get_put_same (H.get_lt k4.cell),k4.own,k4.sl.only o3 k4.own,k4.byte⟩,o1.trans (k5.trans o3)⟩
 rw [w138,f138,s138]
 simp only [u32] at hna
 have hz:¬ (rng=0):=by omega
 have z1:¬ ((vl:Int) < lo):=by omega
 have z1':¬ (vl < lo):=by omega
 have z2:¬ ((hi:Int)≤vl):=by omega
 have z2':¬ (hi≤vl):=by omega
 have z3:¬ ((32768:Int) < hi):=by omega
 have z3':¬ (32768 < hi):=by omega
 simp [rd1_of a.cell,hz,hv,z1,z1',z2,z2',z3,z3',hna,hw1,mc,← hh1,k1,k2,k3,hw3]
def SlB (h:H) (v:V) (l:List Nat):Prop :=
 (v=.nils∧l=[])∨∃ b o k c e ro,v=.sl b o l.length k∧h.get b=some (.cells c e ro)∧o+l.length≤c.length∧(c.drop o).take l.length=bytesV l
def Frs (h:H) (n:Nat) (v:V) (l:List Nat):Prop :=
 (v=.nils∧l=[])∨(∃ b k,v=.sl b 0 0 k∧l=[]∧n≤b∧∃ c e ro,h.get b=some (.cells c e ro))∨∃ b,v=.sl b 0 l.length (.op 1)∧n≤b∧l ≠ []∧h.get b=some (.cells (bytesV l) 5 false)
theorem OSl.mono {h:H} {X Y:Nat→Prop} {v:V} {l:List Nat} (a:OSl h X v l) (hXY:∀ b,b < h.n→¬ X b→¬ Y b):OSl h Y v l:=by
 rcases a with a | a | ⟨b,o,c,e,ro,a1,a2,a3,a4⟩
 · exact .inl a
 · exact .inr (.inl a)
 · exact .inr (.inr ⟨b,o,c,e,ro,a1,hXY b (H.get_lt a3) a2,a3,a4⟩)
theorem OSl.keep {h h':H} {X:Nat→Prop} {v:V} {l:List Nat} (a:OSl h X v l) (hk:∀ b,b < h.n→¬ X b→h'.get b=h.get b):OSl h' X v l:=by
 rcases a with a | a | ⟨b,o,c,e,ro,a1,a2,a3,a4⟩
 · exact .inl a
 · exact .inr (.inl a)
 · exact .inr (.inr ⟨b,o,c,e,ro,a1,a2,by rw [hk b (H.get_lt a3) a2,a3],a4⟩)
theorem SlB.at {h:H} {v:V} {l:List Nat} (a:SlB h v l):SlAt h v l:=by
 rcases a with a | ⟨b,o,k,c,e,ro,a1,a2,a3,a4⟩
 · exact .inl a
 · refine .inr ⟨b,o,k,c,e,ro,a1,a2,fun i hi=>?_⟩
   rw [← a4,List.getElem?_take,if_pos hi,List.getElem?_drop]
theorem SlB.len {h:H} {v:V} {l:List Nat} (a:SlB h v l):lenOf v=some l.length:=by
 rcases a with ⟨rfl,rfl⟩ | ⟨b,o,k,c,e,ro,rfl,a2,a3,a4⟩ <;> simp [lenOf]
theorem SlB.first {h:H} {v:V} {l:List Nat} (a:SlB h v l):firstV h 1 l.length v=some (bytesV l):=by
 rcases a with ⟨rfl,rfl⟩ | ⟨b,o,k,c,e,ro,rfl,a2,a3,a4⟩
 · simp [firstV,bytesV]
 · simp [firstV,H.rdN,a2,a3,a4]
theorem SlB.keep {h h':H} {v:V} {l:List Nat} (a:SlB h v l) (hk:∀ c,c < h.n→h'.get c=h.get c):SlB h' v l:=by
 rcases a with a | ⟨b,o,k,c,e,ro,a1,a2,a3,a4⟩
 · exact .inl a
 · exact .inr ⟨b,o,k,c,e,ro,a1,by rw [hk b (H.get_lt a2),a2],a3,a4⟩
theorem clone_slb {h:H} {v:V} {l:List Nat} (g:SlB h v l) (hlen:l.length < 140737488355329) :
   ∃ h' v',KW 109 [v] h=some (.ret v',h')∧Frs h' h.n v' l∧h.n≤h'.n∧∀ c,c < h.n→h'.get c=h.get c:=by
 rcases g with ⟨rfl,rfl⟩ | ⟨b,o,k,c,e,ro,rfl,hb,hol,hcs⟩
 · refine ⟨h,.nils,?_,.inl ⟨rfl,rfl⟩,Nat.le_refl _,fun _ _=>rfl⟩
   rw [w109,f109,s109]
   simp
 · have hbl:=H.get_lt hb
   obtain ⟨h1,hh1⟩:∃ h1,h1=h.new (.cells [] 5 false):=⟨_,rfl⟩
   have hb1:h1.get b=some (.cells c e ro):=by rw [hh1,get_new_lt hbl,hb]
   have hr0:h1.get h.n=some (.cells [] 5 false):=by rw [hh1];exact get_new_same
   by_cases hl:l=[]
   ·subst hl
    simp only [List.length_nil] at hol
    have hf:(c.drop o).take 0=[]:=rfl
    have hw0:=wrN_of hr0 (o:=0) (vs:=[]) (by simp)
    refine ⟨h1.put h.n (.cells (splice [] 0 []) 5 false),.sl h.n 0 0 (.ex 0),?_,.inr (.inl ⟨_,_,rfl,rfl,Nat.le_refl _,_,_,_,get_put_same (H.get_lt hr0)⟩),by rw [H.n_put,hh1,H.n_new];omega,fun c hc=>by rw [get_put_ne (by omega),hh1,get_new_lt hc]⟩
    rw [w109,f109,s109]
    simp at hol
    simp [bs,fillW,← hh1,apZ,lenOf,firstV,H.rdN,hb1,apN,hol,hw0]
   ·have hll:l.length ≠ 0:=by simpa using hl
    refine ⟨h1.new (.cells (bytesV l) 5 false),.sl h1.n 0 l.length (.op 1),?_,.inr (.inr ⟨h1.n,rfl,by rw [hh1,H.n_new];omega,hl,get_new_same⟩),by rw [H.n_new,hh1,H.n_new];omega,fun c hc=>?_⟩
    ·rw [w109,f109,s109]
     simp [bs,fillW,← hh1,apZ,lenOf,firstV,H.rdN,hb1,apN,hr0,hcs,hll,hol,show l.length≤140737488355328 by omega]
    ·rw [get_new_lt (by rw [hh1,H.n_new];omega),hh1,get_new_lt hc]
def dsh:Nat→List Nat→Nat→List Nat × Nat
 | 0,r,c=>(r,c)
 | n+1,r,c=>dsh n r.tail (c*256+r.headD 0)
def dread (l:List Nat):List Nat × Nat:=((dsh 4 l 0).1,min (dsh 4 l 0).2 4294967294)
theorem loop19 (X:Nat→Prop) (p rng:Nat):∀ (n:Nat) (h:H) (v:V) (rest:List Nat) (code:Nat) (e:E),DecAt h X p v rest code rng→code < 256 ^ (4 - n)→n≤4 →
   e.s [0,2,3,8] 3=.ptr p 0→e.s [0,2,3,8] 8=.int .i64 (4 - n:Nat) →
   ∃ e' h' v',loopZ (l63_0 KW loopZ) e h=some ⟨.ex 0,e',h'⟩∧e'.s [0,2,3,8] 3=.ptr p 0∧DecAt h' X p v' (dsh n rest code).1 (dsh n rest code).2 rng∧(dsh n rest code).2 < 4294967296∧Only h h' p
 | 0,h,v,rest,code,e,a,hc,hn,he3,he8=>by
   rw [loopZ_eq]
   simp [l63_0,he3,he8]
   exact ⟨_,_,⟨rfl,rfl⟩,by simp [he3],⟨v,a⟩,by simpa [dsh] using hc,Only.refl _ _⟩
 | n+1,h,v,rest,code,e,a,hc,hn,he3,he8=>by
   have hc3:256 ^ (4 - (n+1))≤256 ^ 3:=Nat.pow_le_pow_right (by decide) (by omega)
   obtain ⟨h1,v1,k1,k2,k3⟩:=shift33_ok a (by omega)
   have hb:=headD_lt a.byte
   have hlt:((4 - (n+1):Nat):Int) < 4:=by omega
   have hm:IntKind.i64.wrap (((4 - (n+1):Nat):Int)+1)=((4 - n:Nat):Int):=by rw [wi64 (by omega) (by omega)];omega
   have hc':code*256+rest.headD 0 < 256 ^ (4 - n):=by
    rw [show 4 - n=(4 - (n+1))+1 by omega,Nat.pow_succ];omega
   obtain ⟨j,hj⟩:∃ j,j=4 - (n+1):=⟨_,rfl⟩
   obtain ⟨j1,hj1⟩:∃ j,j=4 - n:=⟨_,rfl⟩
   rw [← hj] at hlt he8
   rw [← hj,← hj1] at hm
   have hlt':j < 4:=by omega
   rw [loopZ_eq]
   simp [l63_0,he3,he8,hlt,hlt',k1]
   rw [hm]
   obtain ⟨e',h',v',i1,i2,i3,i4,i5⟩:=loop19 X p rng n h1 v1 rest.tail _ ⟨[e.s [0,2,3,8] 0,e.s [0,2,3,8] 2,.ptr p 0,.int .i64 (j1:Int)],8,.int .i64 (j1:Int)⟩ k2 hc' (by omega) (by simp) (by simp [hj1])
   exact ⟨e',h',i1,i2,⟨v',i3⟩,i4,k3.trans i5⟩
theorem read19_ok {h:H} {v:V} {l:List Nat} (g:SlB h v l) (hlen:l.length < 140737488355329) (hb:∀ x ∈ l,x < 256) :
   ∃ h' p v',KW 63 [v] h=some (.ret (.ptr p 0),h')∧(∀ X:Nat→Prop,X p→(∀ c,h.n≤c→c < h'.n→c ≠ p→¬ X c)→DecAt h' X p v' (dread l).1 (dread l).2 4294967295)∧h.n≤p∧p < h'.n∧(∀ c,c < h.n→h'.get c=h.get c):=by
 obtain ⟨h1,v1,k1,k2,k3,k4⟩:=clone_slb g hlen
 obtain ⟨h2,hh2⟩:∃ h2,h2=h1.new (.cells [v1,.int .u32 (0:Nat),.int .u32 (4294967295:Nat)] 171 false):=⟨_,rfl⟩
 have hp2:h2.get h1.n=some (.cells [v1,.int .u32 (0:Nat),.int .u32 (4294967295:Nat)] 171 false):=by rw [hh2];exact get_new_same
 have hos:OSl h2 (fun c=>¬ (h.n≤c∧c < h1.n)) v1 l:=by
   rcases k2 with a | ⟨b,k,a1,a2,a3,a4⟩ | ⟨b,a1,a2,a3,a4⟩
   ·exact .inl a
   ·exact .inr (.inl ⟨b,0,k,a1,a2⟩)
   ·have:=H.get_lt a4
    exact .inr (.inr ⟨b,0,_,_,_,a1,by omega,by rw [hh2,get_new_lt this,a4],fun i hi=>by simp⟩)
 obtain ⟨e',h',v',i1,i2,i3,i4,i5⟩:=loop19 (fun c=>¬ (h.n≤c∧c < h1.n)) h1.n 4294967295 4 h2 v1 l 0 ⟨[v,.nilp,.ptr h1.n 0,.int .i64 0],8,.int .i64 0⟩ ⟨hp2,by omega,hos,hb⟩ (by decide) (by omega) (by simp) (by simp)
 have hw1:=fun v=>wr1_of i3.cell (o:=1) (by simp) v
 obtain ⟨r,hr⟩:∃ r,r=dsh 4 l 0:=⟨_,rfl⟩
 have hdr:dread l=(r.1,min r.2 4294967294):=by rw [dread,hr]
 rw [← hr] at i3 i4 hw1
 have e4:minV [.int .u32 (r.2:Int),.int .u32 4294967294]=some (.int .u32 ((min r.2 4294967294:Nat):Int)):=by
   simp [minV,foldV,min2V]
   split <;> omega
 obtain ⟨y,hy⟩:∃ y,y=min r.2 4294967294:=⟨_,rfl⟩
 rw [← hy] at e4 hdr
 rw [hdr]
 have o3:=Only.put h' h1.n (.cells [v',.int .u32 y,.int .u32 (4294967295:Nat)] 171 false)
 have hv1:bl [.nils,.int .u32 0,.int .u32 0] [(some (0,1),v1),(some (2,1),.int .u32 4294967295)]=some (.agg [v1,.int .u32 0,.int .u32 4294967295]):=by
   rcases k2 with ⟨rfl,_⟩ | ⟨b,k,rfl,_⟩ | ⟨b,rfl,_⟩ <;> simp [bl,fillW,V.cells,splice]
 refine ⟨h'.put h1.n (.cells [v',.int .u32 y,.int .u32 (4294967295:Nat)] 171 false),h1.n,v',?_,fun X hX hf=>⟨get_put_same (H.get_lt i3.cell),hX,(i3.sl.only o3 i3.own).mono fun b hb hb'=>hf b (by omega) hb (by omega),i3.byte⟩,k3,by rw [H.n_put,i5.1,hh2,H.n_new];omega,fun c hc=>?_⟩
 · rw [w63,f63,s63]
   simp at hh2
   simp at hw1 i3
   simp [k1,hv1,bx,V.cells,← hh2,i1,i2,rd1_of i3.cell,e4,hw1]
 · rw [o3.2 c (by omega),i5.2 c (by omega),hh2,get_new_lt (by omega),k4 c hc]
theorem dsh_lt:∀ (n:Nat) {m:Nat} {rest:List Nat} {code:Nat},(∀ x ∈ rest,x < 256)→code < 256 ^ m→(dsh n rest code).2 < 256 ^ (m+n)∧∀ x ∈ (dsh n rest code).1,x < 256
 | 0,m,rest,code,hb,hc=>⟨by simpa [dsh] using hc,hb⟩
 | n+1,m,rest,code,hb,hc=>by
   have h1:=headD_lt hb
   have:=dsh_lt n (m:=m+1) (rest:=rest.tail) (code:=code*256+rest.headD 0) (fun x hx=>hb x (List.mem_of_mem_tail hx)) (by rw [Nat.pow_succ];omega)
   rw [show m+(n+1)=m+1+n by omega]
   exact this
theorem dread_inv {l:List Nat} (hb:∀ x ∈ l,x < 256):DInv (dread l).2 4294967295∧∀ x ∈ (dread l).1,x < 256 :=
 ⟨⟨by decide,by decide,by simp only [dread];omega⟩,(dsh_lt 4 (m:=0) (code:=0) hb (by decide)).2⟩
def Wr (h:H) (n:Nat) (v:V) (l:List Nat):Prop :=
 ∃ b k L,v=.sl b 0 l.length k∧n≤b∧h.get b=some (.cells (bytesV L) 5 false)∧l.length≤L.length∧L.take l.length=l∧∀ x ∈ L,x < 256
theorem Wr.byte {h:H} {n:Nat} {v:V} {l:List Nat} (a:Wr h n v l):∀ x ∈ l,x < 256:=by
 obtain ⟨b,k,L,h1,h2,h3,h4,h5,h6⟩:=a
 intro x hx;rw [← h5] at hx;exact h6 x (List.mem_of_mem_take hx)
theorem bytes_len (out:List Nat) (low:Nat):(bytes out low).length=trimN (emits 4 out low).1 (out.length+4):=by
 unfold bytes
 rw [List.length_take,emits_length]
 exact Nat.min_eq_left (trimN_le _ _)
theorem bytes14_wr {h:H} {p:Nat} {t:TypeId} {v:V} {out:List Nat} {low rng:Nat} (a:EncAt h p t v out low (.int .u32 rng)) (inv:EInv low rng) (hlen:out.length < 1099511627000) :
   ∃ h' v',KW 62 [.ptr p 0] h=some (.ret v',h')∧Wr h' h.n v' (bytes out low)∧h.n≤h'.n∧∀ c,c < h.n→h'.get c=h.get c:=by
 obtain ⟨h',b,k1,k2,k3,k4,k5,k6⟩:=bytes14_ok a inv hlen
 refine ⟨h',_,k1,⟨b,_,(emits 4 out low).1,by rw [bytes_len],k4,k2,?_,?_,k3⟩,k5,k6⟩
 · rw [bytes_len,emits_length];exact trimN_le _ _
 · rw [bytes_len];rfl
theorem Own.keep {h h':H} {p n:Nat} {v v':V} (a:Own h h' p v v') (hp:n≤p) (hv:∀ c o m k,v=.sl c o m k→n≤c) (hn:n≤h.n):n≤h'.n∧(∀ c,c < n→h'.get c=h.get c)∧∀ c o m k,v'=.sl c o m k→n≤c:=by
 refine ⟨by have:=a.fr.1;omega,fun c hc=>a.fr.2 c (by omega) ?_,?_⟩
 · rintro (e | ⟨o,m,k,e⟩)
   ·omega
   ·have:=hv _ _ _ _ e;omega
 · rcases a.nw with e | e
   ·rw [e];exact hv
   ·intro c o m k e1;have:=e c o m k e1;omega
abbrev tU:TypeId:=137
abbrev tT:TypeId:=101
abbrev tR:TypeId:=98
theorem cell72 (h:H) (b o:Nat):ldV Tryz.prog 101 h (.ptr b o)=ldn 2 h (.ptr b o):=by
 have h1:isAggT Tryz.prog 101=some true:=by kernel_rfl
 have h2:szT Tryz.prog 101=some 2:=by kernel_rfl
 simp [ldV,h1,h2]
theorem cell25 (h:H) (b o:Nat):ldV Tryz.prog 30 h (.ptr b o)=ldn 1 h (.ptr b o):=by
 have h1:isAggT Tryz.prog 30=some true:=by kernel_rfl
 have h2:szT Tryz.prog 30=some 1:=by kernel_rfl
 simp [ldV,h1,h2]
theorem cell96 (h:H) (b o:Nat):ldV Tryz.prog 95 h (.ptr b o)=ldn 96 h (.ptr b o):=by
 have h1:isAggT Tryz.prog 95=some true:=by kernel_rfl
 have h2:szT Tryz.prog 95=some 96:=by kernel_rfl
 simp [ldV,h1,h2]
theorem resVs_cell (P:Program) (s:Nat→V) (h:H) (t n:Nat) (rs:List ResultVar):resVs P s h (.cell t n :: rs)=bd (ldV P n h (s t)) fun v=>bd (resVs P s h rs) fun vs=>some (v :: vs):=by
 rfl
attribute [simp] cell72 cell25 cell96 resVs_cell
structure Mod (D:Nat→Prop) (h h':H):Prop where
 n:h.n≤h'.n
 get:∀ c,c < h.n→¬ D c→h'.get c=h.get c
def grow (D:Nat→Prop) (h h':H):Nat→Prop:=fun c=>D c∨(h.n≤c∧c < h'.n)
theorem Mod.refl (D:Nat→Prop) (h:H):Mod D h h:=⟨Nat.le_refl _,fun _ _ _=>rfl⟩
theorem Mod.trans {D:Nat→Prop} {a b c:H} (x:Mod D a b) (y:Mod (grow D a b) b c):Mod D a c :=
 ⟨Nat.le_trans x.n y.n,fun i hi hd=>by
   have:=x.n
   rw [y.get i (by omega) (by rintro (h | h);exact hd h;omega),x.get i hi hd]⟩
theorem Mod.tr {D:Nat→Prop} {a b c:H} (x:Mod D a b) (y:Mod D b c):Mod D a c :=
 ⟨Nat.le_trans x.n y.n,fun i hi hd=>by
   have:=x.n
   rw [y.get i (by omega) hd,x.get i hi hd]⟩
theorem Mod.mono {D E:Nat→Prop} {a b:H} (x:Mod D a b) (h:∀ c,c < a.n→D c→E c):Mod E a b:=⟨x.n,fun i hi hd=>x.get i hi fun e=>hd (h i hi e)⟩
theorem Mod.of {D:Nat→Prop} {a b:H} (x:Ext a b):Mod D a b:=⟨x.n,fun i hi _=>x.get i hi⟩
theorem Mod.ext {D:Nat→Prop} {a b:H} (x:Mod D a b) {p:H} (hp:Ext p a) (hd:∀ c,c < p.n→¬ D c):Ext p b :=
 ⟨Nat.le_trans hp.n x.n,fun c hc=>by have:=hp.n;rw [x.get c (by omega) (hd c hc),hp.get c hc]⟩
def wordsV (l:List Nat):List V:=l.map fun x=>.int .u16 (x:Nat)
theorem wordsV_length (l:List Nat):(wordsV l).length=l.length:=by simp [wordsV]
def nth (l:List Nat) (i:Nat):Nat:=l.getD i 0
theorem nth_of {l:List Nat} {i:Nat} (h:i < l.length):nth l i=l[i]:=by simp [nth,h]
theorem wordsV_get (l:List Nat) (i:Nat) (h:i < l.length):(wordsV l)[i]?=some (.int .u16 (nth l i:Nat)):=by simp [wordsV,h,nth]
def CapOk (z n:Nat):Cap→Prop
 | .ex c=>n≤c
 | .op z'=>z'=z
def SlR (D:Nat→Prop) (h:H) (v:V) (t z n:Nat) (cs:List V):Prop :=
 (v=.nils∧n=0∧cs=[])∨∃ b o k c,v=.sl b o n k∧h.get b=some (.cells c t false)∧o+n*z≤c.length∧cs=(c.drop o).take (n*z)∧D b∧CapOk z n k
section slr
variable {D:Nat→Prop} {h:H} {v:V} {t z n:Nat} {cs:List V}
theorem SlR.length (a:SlR D h v t z n cs):cs.length=n*z:=by
 rcases a with ⟨_,rfl,rfl⟩ | ⟨b,o,k,c,_,_,h3,rfl,_⟩
 · simp
 · rw [List.length_take,List.length_drop];omega
theorem SlR.len (a:SlR D h v t z n cs):lnS v=some (.int .i64 n):=by
 rcases a with ⟨rfl,rfl,_⟩ | ⟨b,o,k,c,rfl,_⟩ <;> simp
theorem SlR.lenOf (a:SlR D h v t z n cs):lenOf v=some n:=by
 rcases a with ⟨rfl,rfl,_⟩ | ⟨b,o,k,c,rfl,_⟩ <;> rfl
theorem SlR.cell (a:SlR D h v t z n cs):v.isCell=true:=by
 rcases a with ⟨rfl,rfl,_⟩ | ⟨b,o,k,c,rfl,_⟩ <;> rfl
theorem SlR.cells (a:SlR D h v t z n cs):V.cells v=some [v]:=by
 rcases a with ⟨rfl,rfl,_⟩ | ⟨b,o,k,c,rfl,_⟩ <;> rfl
theorem SlR.same (a:SlR D h v t z n cs):V.same v v=true:=by
 rcases a with ⟨rfl,rfl,_⟩ | ⟨b,o,k,c,rfl,_⟩ <;> simp [V.same]
theorem SlR.ck (a:SlR D h v t z n cs) {β:Type} (k:Option β):ck (some v) v k=k:=by
 rcases a with ⟨rfl,rfl,_⟩ | ⟨b,o,k,c,rfl,_⟩ <;> simp
theorem SlR.stZ (a:SlR D h v t z n cs) (g:H) (b o:Nat):stZ 1 g (.ptr b o) v=(g.wr1 b o v).bind fun h'=>some (.und,h'):=stZ_one g b o v a.cell
theorem SlR.first (a:SlR D h v t z n cs):firstV h z n v=some cs:=by
 rcases a with ⟨rfl,rfl,rfl⟩ | ⟨b,o,k,c,rfl,h2,h3,rfl,_⟩
 · rfl
 · show h.rdN b o (n*z)=_;rw [rdN_of h2 h3]
theorem SlR.mono {E:Nat→Prop} (a:SlR D h v t z n cs) (hd:∀ b,b < h.n→D b→E b):SlR E h v t z n cs:=by
 rcases a with a | ⟨b,o,k,c,h1,h2,h3,h4,h5,h6⟩
 · exact .inl a
 · exact .inr ⟨b,o,k,c,h1,h2,h3,h4,hd b (H.get_lt h2) h5,h6⟩
theorem SlR.keep {h':H} (a:SlR D h v t z n cs) (hk:∀ b c,D b→h.get b=some (.cells c t false)→h'.get b=h.get b):SlR D h' v t z n cs:=by
 rcases a with a | ⟨b,o,k,c,h1,h2,h3,h4,h5,h6⟩
 · exact .inl a
 · exact .inr ⟨b,o,k,c,h1,by rw [hk b c h5 h2,h2],h3,h4,h5,h6⟩
theorem SlR.ext {h':H} (a:SlR D h v t z n cs) (x:Ext h h'):SlR D h' v t z n cs:=a.keep fun b c _ hb=>x.get b (H.get_lt hb)
theorem SlR.nil (D:Nat→Prop) (h:H) (t z:Nat):SlR D h .nils t z 0 []:=.inl ⟨rfl,rfl,rfl⟩
theorem SlR.of {b:Nat} {k:Cap} {c:List V} (hb:h.get b=some (.cells c t false)) (hl:c.length=n*z) (hd:D b) (hk:CapOk z n k:=by first | assumption | exact Nat.le_refl _ | rfl):SlR D h (.sl b 0 n k) t z n c :=
 .inr ⟨b,0,k,c,rfl,hb,by omega,by rw [List.drop_zero,List.take_of_length_le (by omega)],hd,hk⟩
theorem GrowV.slr {p:Nat} (a:GrowV p h v t z cs n) (hd:∀ b,p≤b→D b):SlR D h v t z n cs:=by
 rcases a with ⟨rfl,rfl,rfl⟩ | ⟨b,rfl,h2,h3,h4⟩
 · exact SlR.nil _ _ _ _
 · exact SlR.of h2 h3 (hd b h4)
theorem SlR.at (a:SlR D h v t z n cs) {i:Nat} (hi:i < n):∃ b o,iaS z v (.int .i64 i)=some (.ptr b o)∧D b∧(∃ c,h.get b=some (.cells c t false))∧(∀ j,j < z→h.rd1 b (o+j)=cs[i*z+j]?)∧h.rdN b o z=some ((cs.drop (i*z)).take z):=by
 rcases a with ⟨rfl,rfl,_⟩ | ⟨b,o,k,c,rfl,h2,h3,rfl,h5,_⟩
 · omega
 · have hz:i*z+z≤n*z:=by have:=Nat.mul_le_mul_right z hi;rw [Nat.succ_mul] at this;exact this
   refine ⟨b,o+i*z,by simp [hi],h5,⟨c,h2⟩,fun j hj=>?_,?_⟩
   ·rw [rd1_of h2,List.getElem?_take,if_pos (by omega),List.getElem?_drop];congr 1;omega
   ·rw [rdN_of h2 (by omega)]
    congr 1
    apply List.ext_getElem?
    intro j
    simp only [List.getElem?_take,List.getElem?_drop]
    by_cases hj:j < z
    ·rw [if_pos hj,if_pos hj,if_pos (by omega)];congr 1;omega
    ·rw [if_neg hj,if_neg hj]
theorem SlR.at1 (a:SlR D h v t 1 n cs) {i:Nat} (hi:i < n):∃ b o,iaS 1 v (.int .i64 i)=some (.ptr b o)∧h.rd1 b o=cs[i]?∧D b∧∃ c,h.get b=some (.cells c t false):=by
 obtain ⟨b,o,h1,h2,h3,h4,_⟩:=a.at hi
 exact ⟨b,o,h1,by have:=h4 0 (by omega);simpa using this,h2,h3⟩
theorem SlR.at2 (a:SlR D h v t 2 n cs) {i:Nat} (hi:i < n) {x y:V} (hx:cs[2*i]?=some x) (hy:cs[2*i+1]?=some y):∃ b o,iaS 2 v (.int .i64 i)=some (.ptr b o)∧h.rd1 b o=some x∧h.rd1 b (o+1)=some y∧h.rdN b o 2=some [x,y]∧D b∧∃ c,h.get b=some (.cells c t false):=by
 obtain ⟨b,o,h1,h2,h3,h4,h5⟩:=a.at hi
 refine ⟨b,o,h1,by have:=h4 0 (by omega);rw [Nat.add_zero,Nat.add_zero,Nat.mul_comm,hx] at this;exact this,by have:=h4 1 (by omega);rw [this,Nat.mul_comm,hy],?_,h2,h3⟩
 rw [h5]
 congr 1
 apply List.ext_getElem?
 intro j
 simp only [List.getElem?_take,List.getElem?_drop,Nat.mul_comm i 2]
 match j with
 | 0=>simp [hx]
 | 1=>simp [hy]
 | j+2=>simp;omega
end slr
structure Tb where
 c:List Nat
 n:Int
def U16 (D:Nat→Prop) (h:H) (v:V) (c:List Nat):Prop:=SlR D h v tU 1 c.length (wordsV c)∧∀ x ∈ c,x < 65536
def Els (D:Nat→Prop) (h:H) (cs:List V) (r:List Tb):Prop:=∀ (i:Nat) (t:Tb),r[i]?=some t→∃ vc,cs[2*i]?=some vc∧cs[2*i+1]?=some (.int .i64 t.n)∧U16 D h vc t.c
def RowR (D:Nat→Prop) (h:H) (v:V) (r:List Tb):Prop:=∃ cs,SlR D h v tT 2 r.length cs∧Els D h cs r
def SetR (D:Nat→Prop) (h:H) (v:V) (S:List (List Tb)):Prop:=∃ cs,SlR D h v tR 1 S.length cs∧∀ (k:Nat) (r:List Tb),S[k]?=some r→∃ vr,cs[k]?=some vr∧RowR D h vr r
section sets
variable {D E:Nat→Prop} {h h':H} {v:V}
theorem U16.keep {c:List Nat} (a:U16 D h v c) (hk:∀ b c,D b→h.get b=some (.cells c tU false)→h'.get b=h.get b):U16 D h' v c:=⟨a.1.keep hk,a.2⟩
theorem U16.ext {c:List Nat} (a:U16 D h v c) (x:Ext h h'):U16 D h' v c:=⟨a.1.ext x,a.2⟩
theorem U16.mono {c:List Nat} (a:U16 D h v c) (hd:∀ b,b < h.n→D b→E b):U16 E h v c:=⟨a.1.mono hd,a.2⟩
theorem U16.at {c:List Nat} (a:U16 D h v c) {i:Nat} (hi:i < c.length):∃ b o,iaS 1 v (.int .i64 i)=some (.ptr b o)∧h.rd1 b o=some (.int .u16 (nth c i:Nat))∧D b∧∃ c,h.get b=some (.cells c tU false):=by
 obtain ⟨b,o,h1,h2,h3⟩:=a.1.at1 hi
 exact ⟨b,o,h1,by rw [h2,wordsV_get c i hi],h3⟩
theorem Els.keep {cs:List V} {r:List Tb} (a:Els D h cs r) (hk:∀ b c,D b→h.get b=some (.cells c tU false)→h'.get b=h.get b):Els D h' cs r:=fun i t hi=>by
 obtain ⟨vc,h1,h2,h3⟩:=a i t hi;exact ⟨vc,h1,h2,h3.keep hk⟩
theorem Els.ext {cs:List V} {r:List Tb} (a:Els D h cs r) (x:Ext h h'):Els D h' cs r:=a.keep fun b c _ hb=>x.get b (H.get_lt hb)
theorem Els.mono {cs:List V} {r:List Tb} (a:Els D h cs r) (hd:∀ b,b < h.n→D b→E b):Els E h cs r:=fun i t hi=>by
 obtain ⟨vc,h1,h2,h3⟩:=a i t hi;exact ⟨vc,h1,h2,h3.mono hd⟩
theorem Els.nil (D:Nat→Prop) (h:H):Els D h [] []:=fun i t hi=>by simp at hi
theorem RowR.keep {r:List Tb} (a:RowR D h v r) (hk:∀ b,D b→b < h.n→h'.get b=h.get b):RowR D h' v r:=by
 obtain ⟨cs,h1,h2⟩:=a
 exact ⟨cs,h1.keep fun b c hd hb=>hk b hd (H.get_lt hb),h2.keep fun b c hd hb=>hk b hd (H.get_lt hb)⟩
theorem RowR.mono {r:List Tb} (a:RowR D h v r) (hd:∀ b,b < h.n→D b→E b):RowR E h v r:=by
 obtain ⟨cs,h1,h2⟩:=a
 exact ⟨cs,h1.mono hd,h2.mono hd⟩
theorem SetR.keep {S:List (List Tb)} (a:SetR D h v S) (hk:∀ b,D b→b < h.n→h'.get b=h.get b):SetR D h' v S:=by
 obtain ⟨cs,h1,h2⟩:=a
 exact ⟨cs,h1.keep fun b c hd hb=>hk b hd (H.get_lt hb),fun k r hr=>by obtain ⟨vr,k1,k2⟩:=h2 k r hr;exact ⟨vr,k1,k2.keep hk⟩⟩
theorem SetR.ext {S:List (List Tb)} (a:SetR D h v S) (x:Ext h h'):SetR D h' v S:=a.keep fun b _ hb=>x.get b hb
theorem SetR.mono {S:List (List Tb)} (a:SetR D h v S) (hd:∀ b,b < h.n→D b→E b):SetR E h v S:=by
 obtain ⟨cs,h1,h2⟩:=a
 exact ⟨cs,h1.mono hd,fun k r hr=>by obtain ⟨vr,k1,k2⟩:=h2 k r hr;exact ⟨vr,k1,k2.mono hd⟩⟩
theorem SetR.row {S:List (List Tb)} (a:SetR D h v S) {k:Nat} {r:List Tb} (hr:S[k]?=some r):∃ b o vr,iaS 1 v (.int .i64 k)=some (.ptr b o)∧h.rd1 b o=some vr∧RowR D h vr r∧D b∧b < h.n:=by
 obtain ⟨cs,h1,h2⟩:=a
 obtain ⟨vr,k1,k2⟩:=h2 k r hr
 have hk:k < S.length:=by
   by_cases e:k < S.length
   ·exact e
   ·rw [List.getElem?_eq_none (by omega)] at hr;cases hr
 obtain ⟨b,o,j1,j2,j3,c,j4⟩:=h1.at1 hk
 exact ⟨b,o,vr,j1,by rw [j2,k1],k2,j3,H.get_lt j4⟩
theorem RowR.tab {r:List Tb} (a:RowR D h v r) {i:Nat} {t:Tb} (hr:r[i]?=some t):∃ b o vc,iaS 2 v (.int .i64 i)=some (.ptr b o)∧h.rd1 b o=some vc∧h.rd1 b (o+1)=some (.int .i64 t.n)∧h.rdN b o 2=some [vc,.int .i64 t.n]∧U16 D h vc t.c∧D b∧b < h.n:=by
 obtain ⟨cs,h1,h2⟩:=a
 obtain ⟨vc,k1,k2,k3⟩:=h2 i t hr
 have hk:i < r.length:=by
   by_cases e:i < r.length
   ·exact e
   ·rw [List.getElem?_eq_none (by omega)] at hr;cases hr
 obtain ⟨b,o,j1,j2,j3,j4,j5,c,j6⟩:=h1.at2 hk k1 k2
 exact ⟨b,o,vc,j1,j2,j3,j4,k3,j5,H.get_lt j6⟩
end sets
open Go.Zf (wi64)
def Sorted (c:List Nat):Prop:=∀ i,i+1 < c.length→nth c i≤nth c (i+1)
def TabOk (t:Tb):Prop:=(2≤t.c.length∧t.c.length≤16)∧(0≤t.n∧t.n≤32)∧Sorted t.c∧nth t.c (t.c.length - 1)=32768
noncomputable instance (t:Tb):Decidable (TabOk t):=Classical.propDecidable _
noncomputable instance (c:List Nat):Decidable (Sorted c):=Classical.propDecidable _
def pt (t:Tb) (j:Nat):Nat:=if j=0 then 0 else nth t.c (j - 1)*(32768 - 4*t.c.length) / 32768+4*j
theorem sorted_le {c:List Nat} (h:Sorted c):∀ {j i:Nat},i≤j→j < c.length→nth c i≤nth c j
 | 0,i,h1,h2 =>
          by
           have:i=0:=by omega
           subst this;exact Nat.le_refl _
 | j+1,i,h1,h2=>by
   by_cases e:i=j+1
   ·subst e;exact Nat.le_refl _
   ·exact Nat.le_trans (sorted_le h (j:=j) (by omega) (by omega)) (h j h2)
theorem TabOk.le {t:Tb} (a:TabOk t) {i:Nat} (hi:i < t.c.length):nth t.c i≤32768:=by
 have:=sorted_le a.2.2.1 (i:=i) (j:=t.c.length - 1) (by omega) (by omega)
 rw [a.2.2.2] at this;exact this
theorem pt_zero (t:Tb):pt t 0=0:=by simp [pt]
theorem pt_succ (t:Tb) (s:Nat):pt t (s+1)=nth t.c s*(32768 - 4*t.c.length) / 32768+4*(s+1):=by simp [pt]
theorem pt_lt {t:Tb} (a:TabOk t) {s:Nat} (hs:s < t.c.length):pt t s < pt t (s+1):=by
 rw [pt_succ]
 cases s with
 | zero=>rw [pt_zero];omega
 | succ s =>
   rw [pt_succ]
   have h1:=a.2.2.1 s hs
   have h2:=Nat.div_le_div_right (c:=32768) (Nat.mul_le_mul_right (32768 - 4*t.c.length) h1)
   omega
theorem pt_last {t:Tb} (a:TabOk t):pt t t.c.length=32768:=by
 obtain ⟨⟨l1,l2⟩,_,_,h⟩:=a
 obtain ⟨n,hn⟩:∃ n,t.c.length=n+1:=⟨t.c.length - 1,by omega⟩
 rw [hn] at h ⊢
 rw [pt_succ,hn]
 simp only [Nat.add_sub_cancel] at h
 rw [h,Nat.mul_comm,Nat.mul_div_cancel _ (by decide)]
 omega
theorem pt_mono {t:Tb} (a:TabOk t):∀ {j i:Nat},i≤j→j≤t.c.length→pt t i≤pt t j
 | 0,i,h1,h2 =>
          by
           have:i=0:=by omega
           subst this;exact Nat.le_refl _
 | j+1,i,h1,h2=>by
   by_cases e:i=j+1
   ·subst e;exact Nat.le_refl _
   ·exact Nat.le_trans (pt_mono a (j:=j) (by omega) (by omega)) (Nat.le_of_lt (pt_lt a (by omega)))
theorem pt_le {t:Tb} (a:TabOk t) {j:Nat} (hj:j≤t.c.length):pt t j≤32768:=by rw [← pt_last a];exact pt_mono a hj (Nat.le_refl _)
theorem sizes80_ok (n:Int) (h:H):KW 83 [.int .i64 n] h=some (.ret (.bool (decide (2≤n) && decide (n≤16))),h):=by
 rw [w83,f83,s83]
 by_cases h1:2≤n
 · simp [h1]
 · simp [h1]
theorem nan99_ok (a:Int) (h:H):KW 174 [.int .u16 a] h=some (.ret (.bool false),h):=by
 rw [w174,f174,s174];simp
theorem less96_ok (a b:Int) (h:H):KW 162 [.int .u16 a,.int .u16 b] h=some (.ret (.bool (decide (a < b))),h):=by
 rw [w162,f162,s162];simp [nan99_ok,gl_t,gk_t]
theorem sorted86_ok {D:Nat→Prop} {h:H} {v:V} {c:List Nat} (u:U16 D h v c) (hl:c.length < 1000):KW 132 [v] h=some (.ret (.bool (decide (Sorted c))),h):=by
 have loop:=loop_run (body:=l132_0 KW loopZ) (fun n e g=>g=h∧e.s [0,2,3] 0=v∧e.s [0,2,3] 3=.int .i64 ((n:Int) - 1)∧n≤c.length∧∀ j,n≤j+1→j+1 < c.length→nth c j≤nth c (j+1))
   (fun s=>s.h=h∧((s.x=.ex 0∧Sorted c)∨(s.x=.rt∧s.e.s [0,2,3] 2=.bool false∧¬ Sorted c)))
   (fun n e g ⟨hg,p0,p3,hn,hs⟩=>by
    subst hg
    by_cases h0:(0:Int) < (n:Int) - 1
    ·obtain ⟨i,rfl⟩:∃ i,n=i+2:=⟨n - 2,by omega⟩
     obtain ⟨b,o,q1,q2,_⟩:=u.at (i:=i+1) (by omega)
     obtain ⟨b',o',r1,r2,_⟩:=u.at (i:=i) (by omega)
     have z1:((i+2:Nat):Int) - 1=((i+1:Nat):Int):=by omega
     rw [z1] at p3
     simp [l132_0,p3,show (0:Int) < (i:Int)+1 by omega]
     have q1':iaS 1 v (.int .i64 ((i:Int)+1))=some (.ptr b o):=by simpa using q1
     have z2':IntKind.i64.wrap (i:Int)=(i:Int):=wi64 (by omega) (by omega)
     simp [p0,q1',q2,z2',r1,r2,less96_ok]
     by_cases hc:nth c (i+1) < nth c i
     ·simp [hc]
      refine ⟨rfl,.inr ⟨rfl,by simp,fun hS=>?_⟩⟩
      have:=hS i (by omega)
      omega
     ·simp [hc]
      refine ⟨i+1,by omega,rfl,by simp [p0],by simp [z2'],by omega,fun j hj hj2=>?_⟩
      by_cases e:j=i
      ·subst e;omega
      ·exact hs j (by omega) hj2
    ·simp [l132_0,p3,show ¬ (0:Int) < (n:Int) - 1 by omega,show ¬ 1 < (n:Int) by omega,show ¬ 1 < n by omega]
     exact ⟨rfl,.inl ⟨rfl,fun j hj=>hs j (by omega) hj⟩⟩)
 have hl0:=u.1.len
 obtain ⟨s,r1,r2,r3⟩:=loop c.length ⟨[v,.bool false,.int .i64 ((c.length:Int) - 1)],3,.int .i64 ((c.length:Int) - 1)⟩ h ⟨rfl,by simp,by simp,by omega,fun j hj hj2=>by omega⟩
 rw [w132,f132,s132]
 have z:IntKind.i64.wrap ((c.length:Int) - 1)=(c.length:Int) - 1:=wi64 (by omega) (by omega)
 obtain ⟨x,e',h'⟩:=s
 simp only at r2 r3
 subst r2
 simp [hl0,z,r1]
 rcases r3 with ⟨rfl,hs⟩ | ⟨rfl,p2,hs⟩
 · simp [hs]
 · simp [p2,hs]
theorem box72 {D:Nat→Prop} {h:H} {v:V} {t:Tb} (u:U16 D h v t.c):∃ h1,bx h 101 (.agg [v,.int .i64 t.n])=some (.ptr h.n 0,h1)∧Ext h h1∧h1.get h.n=some (.cells [v,.int .i64 t.n] 101 false)∧h1.n=h.n+1∧U16 D h1 v t.c :=
 ⟨h.new (.cells [v,.int .i64 t.n] 101 false),rfl,(Ext.refl h).new _,get_new_same,H.n_new _ _,u.ext ((Ext.refl h).new _)⟩
theorem check58_ok {D:Nat→Prop} {h:H} {v:V} {t:Tb} (u:U16 D h v t.c) (hl:t.c.length < 1000):RT (fun w h'=>w=.int .i64 (if TabOk t then 0 else 2)∧Ext h h') (KW 80 [.agg [v,.int .i64 t.n]] h):=by
 obtain ⟨h1,b1,x1,g1,n1,u1⟩:=box72 u
 have ul:=u1.1.len
 have us:=sorted86_ok u1 hl
 have st:=sizes80_ok (t.c.length:Int)
 rw [w80,f80,s80]
 by_cases c1:2≤t.c.length∧t.c.length≤16
 · obtain ⟨c1,c2⟩:=c1
   rw [show (decide (2≤(t.c.length:Int)) && decide ((t.c.length:Int)≤16))=true by rw [Bool.and_eq_true,decide_eq_true_eq,decide_eq_true_eq];omega] at st
   by_cases c3:t.n < 0
   ·simp [b1,rd1_of g1,ul,st,c1,c2,c3]
    exact ⟨by rw [if_neg];intro a;have:=a.2.1;omega,x1⟩
   ·by_cases c4:32 < t.n
    ·simp [b1,rd1_of g1,ul,st,c1,c2,c3,c4]
     exact ⟨by rw [if_neg];intro a;have:=a.2.1;omega,x1⟩
    ·by_cases c5:Sorted t.c
     ·obtain ⟨b,o,q1,q2,_⟩:=u1.at (i:=t.c.length - 1) (by omega)
      have z1:IntKind.i64.wrap ((t.c.length:Int) - 1)=((t.c.length - 1:Nat):Int):=by rw [wi64 (by omega) (by omega)];omega
      obtain ⟨x,hx⟩:∃ x,x=nth t.c (t.c.length - 1):=⟨_,rfl⟩
      rw [← hx] at q2
      by_cases c6:x=32768
      ·simp [b1,rd1_of g1,ul,st,c1,c2,c3,c4,us,c5,z1,q1,q2,c6]
       exact ⟨by rw [if_pos ⟨⟨c1,c2⟩,⟨by omega,by omega⟩,c5,by rw [← hx,c6]⟩],x1⟩
      ·have c6':¬ (x:Int)=32768:=by omega
       simp [b1,rd1_of g1,ul,st,c1,c2,c3,c4,us,c5,z1,q1,q2,c6,c6']
       exact ⟨by rw [if_neg];intro a;exact c6 (by rw [hx];exact a.2.2.2),x1⟩
     ·simp [b1,rd1_of g1,ul,st,c1,c2,c3,c4,us,c5]
      exact ⟨by rw [if_neg];intro a;exact c5 a.2.2.1,x1⟩
 · have e1:(decide (2≤(t.c.length:Int)) && decide ((t.c.length:Int)≤16))=false:=by
    rw [Bool.and_eq_false_iff];simp only [decide_eq_false_iff_not];omega
   rw [e1] at st
   simp [b1,rd1_of g1,ul,st]
   exact ⟨by rw [if_neg];intro a;exact c1 a.1,x1⟩
theorem end95_ok {D:Nat→Prop} {h:H} {v:V} {t:Tb} (u:U16 D h v t.c) (ok:TabOk t) {j:Nat} (hj:j≤t.c.length):RT (fun w h'=>w=.int .u32 (pt t j:Nat)∧Ext h h') (KW 164 [.agg [v,.int .i64 t.n],.int .i64 ((j:Int) - 1)] h):=by
 obtain ⟨h1,b1,x1,g1,n1,u1⟩:=box72 u
 have ul:=u1.1.len
 rw [w164,f164,s164]
 cases j with
 | zero =>
   simp [b1]
   exact ⟨by simp [pt],x1⟩
 | succ s =>
   obtain ⟨b,o,q1,q2,_⟩:=u1.at (i:=s) (by omega)
   have hc:=ok.le (i:=s) (by omega)
   obtain ⟨x,hx⟩:∃ x,x=nth t.c s:=⟨_,rfl⟩
   obtain ⟨n,hn⟩:∃ n,n=t.c.length:=⟨_,rfl⟩
   have hp:=pt_succ t s
   have hpl:=pt_le ok hj
   rw [hp,← hx,← hn] at hpl
   rw [← hx] at q2 hc
   rw [hp,← hx,← hn]
   rw [← hn] at ul hj
   have l1:=ok.1.1
   have l2:=ok.1.2
   rw [← hn] at l1 l2
   have zs:((s+1:Nat):Int) - 1=(s:Int):=by omega
   have z1:IntKind.u32.wrap (x:Int)=x:=wu32 (by omega) (by omega)
   have z2:IntKind.i64.wrap (4*(n:Int))=4*n:=wi64 (by omega) (by omega)
   have z3:IntKind.i64.wrap (32768 - 4*(n:Int))=32768 - 4*n:=wi64 (by omega) (by omega)
   have z4:IntKind.u32.wrap (32768 - 4*(n:Int))=32768 - 4*n:=wu32 (by omega) (by omega)
   have m1:=mul_bd (a:=(x:Int)) (b:=32768 - 4*(n:Int)) (A:=32768) (B:=32768) (by omega) (by omega) (by omega) (by omega)
   have z5:IntKind.u32.wrap ((x:Int)*(32768 - 4*n))=x*(32768 - 4*n):=wu32 m1.1 (by omega)
   have z6:IntKind.i64.wrap ((s:Int)+1)=s+1:=wi64 (by omega) (by omega)
   have z7:IntKind.i64.wrap (4*((s:Int)+1))=4*(s+1):=wi64 (by omega) (by omega)
   have z8:IntKind.u32.wrap (4*((s:Int)+1))=4*(s+1):=wu32 (by omega) (by omega)
   have e1:((x*(32768 - 4*n) / 32768+4*(s+1):Nat):Int)=(x:Int)*(32768 - 4*n) / 32768+4*(s+1):=by
    rw [Int.natCast_add,Int.natCast_ediv,Int.natCast_mul,Int.ofNat_sub (by omega)];simp
   have z9:IntKind.u32.wrap ((x:Int)*(32768 - 4*n) / 32768+4*(s+1))=((x*(32768 - 4*n) / 32768+4*(s+1):Nat):Int):=by
    rw [← e1];exact wu32 (by omega) (by omega)
   rw [zs]
   simp [b1,show ¬ (s:Int) < 0 by omega,rd1_of g1,ul,q1,q2,z1,z2,z3,z4,z5,z6,z7,z8,z9,u1.1.ck,show (min 15 IntKind.u32.bits)=15 from rfl]
   exact ⟨rfl,x1⟩
open Go.Zf (wi64)
theorem asked59_ok {D:Nat→Prop} {h:H} {v:V} {t:Tb} (u:U16 D h v t.c) (hl:t.c.length < 1000) (s:Int):RT (fun w h'=>w=.bool (decide (TabOk t∧0≤s∧s < t.c.length))∧Ext h h') (KW 139 [.agg [v,.int .i64 t.n],.int .i64 s] h):=by
 obtain ⟨h1,b1,x1,g1,n1,u1⟩:=box72 u
 obtain ⟨w,h2,e2,rfl,x2⟩:=(check58_ok u1 hl).elim
 have g2:h2.get h.n=_:=(x2.get _ (H.get_lt g1)).trans g1
 have ul:=u1.1.len
 rw [w139,f139,s139]
 by_cases c1:TabOk t
 · by_cases c2:0≤s
   ·simp [b1,rdN_of (o:=0) (n:=2) g1 (by simp),e2,c1,c2,rd1_of g2,ul,pk_bool]
    exact ⟨by simp,x1.trans x2⟩
   ·simp [b1,rdN_of (o:=0) (n:=2) g1 (by simp),e2,c1,c2,gl_t]
    exact ⟨by simp,x1.trans x2⟩
 · simp [b1,rdN_of (o:=0) (n:=2) g1 (by simp),e2,c1,gl_t]
   exact ⟨by simp,x1.trans x2⟩
theorem bounds85_ok {D:Nat→Prop} {h:H} {v:V} {t:Tb} (u:U16 D h v t.c) (ok:TabOk t) {s:Nat} (hs:s < t.c.length):RT (fun w h'=>w=.tup [.int .u32 (pt t s:Nat),.int .u32 (pt t (s+1):Nat),.int .i64 0]∧Ext h h') (KW 136 [.agg [v,.int .i64 t.n],.int .i64 s] h):=by
 obtain ⟨h1,b1,x1,g1,n1,u1⟩:=box72 u
 have hl:t.c.length < 1000:=by have:=ok.1;omega
 obtain ⟨w,h2,e2,rfl,x2⟩:=(asked59_ok u1 hl (s:Int)).elim
 rw [show decide (TabOk t∧0≤(s:Int)∧(s:Int) < t.c.length)=true by rw [decide_eq_true_eq];exact ⟨ok,by omega,by omega⟩] at e2
 obtain ⟨w,h3,e3,rfl,x3⟩:=(end95_ok (u1.ext x2) ok (j:=s) (by omega)).elim
 obtain ⟨w,h4,e4,rfl,x4⟩:=(end95_ok ((u1.ext x2).ext x3) ok (j:=s+1) (by omega)).elim
 rw [show ((s+1:Nat):Int) - 1=(s:Int) by omega] at e4
 have g2:h2.get h.n=_:=(x2.get _ (H.get_lt g1)).trans g1
 have g3:h3.get h.n=_:=(x3.get _ (H.get_lt g2)).trans g2
 have z:IntKind.i64.wrap ((s:Int) - 1)=(s:Int) - 1:=wi64 (by omega) (by omega)
 rw [w136,f136,s136]
 simp [b1,rdN_of (o:=0) (n:=2) g1 (by simp),rdN_of (o:=0) (n:=2) g2 (by simp),rdN_of (o:=0) (n:=2) g3 (by simp),e2,e3,e4,z,ck,V.same,V.sames,u.1.same]
 exact ⟨rfl,((x1.trans x2).trans x3).trans x4⟩
def findP (t:Tb) (at_:Nat):Nat:=(List.range t.c.length).findIdx fun s=>at_ < pt t (s+1)
theorem findP_eq {t:Tb} {at_ s:Nat} (hs:s < t.c.length) (h1:at_ < pt t (s+1)) (h2:∀ j,j < s→pt t (j+1)≤at_):findP t at_=s:=by
 unfold findP
 rw [List.findIdx_eq (by simpa using hs)]
 refine ⟨by simpa using h1,fun j hj=>?_⟩
 have:=h2 j hj
 simp;omega
theorem findP_lt {t:Tb} (ok:TabOk t) {at_:Nat} (h:at_ < 32768):findP t at_ < t.c.length∧pt t (findP t at_)≤at_∧at_ < pt t (findP t at_+1):=by
 have h0:∃ n,n≤t.c.length∧at_ < pt t n∧∀ j,j < n→pt t j≤at_:=by
   have hall:∀ m,m≤t.c.length→(∃ n,n≤m∧at_ < pt t n∧∀ j,j < n→pt t j≤at_)∨∀ j,j≤m→pt t j≤at_:=by
    intro m
    induction m with
    | zero =>
         intro _;exact .inr fun j hj=>by
            have:j=0:=by omega
            subst this;rw [pt_zero];omega
    | succ m ih =>
     intro hm
     rcases ih (by omega) with ⟨n,a,b⟩ | a
     ·exact .inl ⟨n,by omega,b⟩
     ·by_cases hc:at_ < pt t (m+1)
      ·exact .inl ⟨m+1,by omega,hc,fun j hj=>a j (by omega)⟩
      ·exact .inr fun j hj=>by
        by_cases e:j=m+1
        ·subst e;omega
        ·exact a j (by omega)
   rcases hall t.c.length (Nat.le_refl _) with a | a
   ·exact a
   ·have:=a _ (Nat.le_refl _);rw [pt_last ok] at this;omega
 obtain ⟨n,a,b,c⟩:=h0
 cases n with
 | zero=>rw [pt_zero] at b;omega
 | succ n =>
   have e:=findP_eq (t:=t) (at_:=at_) (s:=n) (by omega) b (fun j hj=>c (j+1) (by omega))
   rw [e]
   exact ⟨by omega,c n (by omega),b⟩
theorem find84_ok {D:Nat→Prop} {h:H} {v:V} {t:Tb} (u:U16 D h v t.c) (ok:TabOk t) {at_:Nat} (ha:at_ < 32768):RT (fun w h'=>w=.tup [.int .i64 (findP t at_:Nat),.int .i64 0]∧Ext h h') (KW 135 [.agg [v,.int .i64 t.n],.int .u32 at_] h):=by
 obtain ⟨h1,b1,x1,g1,n1,u1⟩:=box72 u
 have hl:t.c.length < 1000:=by have:=ok.1;omega
 obtain ⟨w,h2,e2,rfl,x2⟩:=(check58_ok u1 hl).elim
 rw [if_pos ok] at e2
 have loop:=loop_run (body:=l135_0 KW loopZ) (fun n e g=>Ext h2 g∧n≤t.c.length∧0 < n∧e.s [0,1,2,4,5,6] 1=.int .u32 at_∧e.s [0,1,2,4,5,6] 2=.ptr h.n 0∧e.s [0,1,2,4,5,6] 6=.int .i64 ((t.c.length - n:Nat):Int)∧∀ j,j < t.c.length - n→pt t (j+1)≤at_)
   (fun s=>Ext h2 s.h∧s.x=.ex 0∧s.e.s [0,1,2,4,5,6] 6=.int .i64 (findP t at_:Nat))
   (fun n e g ⟨xg,hn,hn0,p1,p2,p6,hj⟩=>by
    obtain ⟨k,hk⟩:∃ k,k=t.c.length - n:=⟨_,rfl⟩
    rw [← hk] at p6 hj
    have gg:g.get h.n=_:=(xg.get _ (by have:=x2.n;omega)).trans ((x2.get _ (H.get_lt g1)).trans g1)
    obtain ⟨w,h3,e3,rfl,x3⟩:=(end95_ok ((u1.ext x2).ext xg) ok (j:=k+1) (by omega)).elim
    rw [show ((k+1:Nat):Int) - 1=(k:Int) by omega] at e3
    by_cases hc:pt t (k+1)≤at_
    ·have z:IntKind.i64.wrap ((k:Int)+1)=k+1:=wi64 (by omega) (by omega)
     have hn1:n ≠ 1:=by
      intro e;subst e
      have:k+1=t.c.length:=by omega
      rw [this,pt_last ok] at hc;omega
     simp [l135_0,p2,rdN_of (o:=0) (n:=2) gg (by simp),p6,e3,p1,hc,z]
     refine ⟨n - 1,by omega,xg.trans x3,by omega,by omega,by simp [p1],by simp [p2],by simp;omega,fun j hj2=>?_⟩
     by_cases e:j=k
     ·subst e;exact hc
     ·exact hj j (by omega)
    ·simp [l135_0,p2,rdN_of (o:=0) (n:=2) gg (by simp),p6,e3,p1,hc]
     refine ⟨xg.trans x3,rfl,?_⟩
     rw [findP_eq (s:=k) (by omega) (by omega) hj]
     simp [p6])
 obtain ⟨s,r1,r2,r3,r4⟩:=loop t.c.length ⟨[.agg [v,.int .i64 t.n],.int .u32 at_,.ptr h.n 0,.int .i64 0,.int .i64 0,.int .i64 0],6,.int .i64 0⟩ h2 ⟨Ext.refl h2,Nat.le_refl _,by have:=ok.1;omega,by simp,by simp,by simp,fun j hj=>by omega⟩
 obtain ⟨x,e',h'⟩:=s
 simp only at r2 r3 r4
 subst r3
 rw [w135,f135,s135]
 simp [b1,rdN_of (o:=0) (n:=2) g1 (by simp),e2,show ¬ (32768:Int)≤at_ by omega,r1,r4,show ¬ 32768≤at_ by omega]
 exact ⟨rfl,(x1.trans x2).trans r2⟩
open Go.Zf (wi64)
def NewS (p:Nat) (h:H) (v:V) (t z:Nat) (cs:List V) (n:Nat):Prop :=
 (v=.nils∧n=0∧cs=[])∨∃ b k,v=.sl b 0 n k∧h.get b=some (.cells cs t false)∧cs.length=n*z∧p≤b∧CapOk z n k
theorem NewS.slr {D:Nat→Prop} {p:Nat} {h:H} {v:V} {t z n:Nat} {cs:List V} (a:NewS p h v t z cs n) (hd:∀ b,p≤b→b < h.n→D b):SlR D h v t z n cs:=by
 rcases a with ⟨rfl,rfl,rfl⟩ | ⟨b,k,rfl,h2,h3,h4,h5⟩
 · exact SlR.nil _ _ _ _
 · exact SlR.of h2 h3 (hd b h4 (H.get_lt h2)) h5
theorem apZ_clone {D:Nat→Prop} {h:H} {v:V} {e z bytes n:Nat} {cs:List V} (a:SlR D h v e z n cs) (hb:n*bytes≤140737488355328) :
   ∃ v' h',apZ e z bytes (h.new (.cells [] e false)) (.sl h.n 0 0 (.ex 0)) v=some (v',h')∧NewS h.n h' v' e z cs n∧Ext h h'∧(0 < n→∃ b,v'=.sl b 0 n (.op z)):=by
 have x:=(Ext.refl h).new (.cells [] e false)
 have a1:=a.ext x
 have hl:=a1.lenOf
 have hf:=a1.first
 have hc:=a.length
 have g0:(h.new (.cells [] e false)).get h.n=some (.cells [] e false):=get_new_same
 cases n with
 | zero =>
   have:cs=[]:=by cases cs with
    | nil=>rfl
    | cons a l=>simp at hc
   subst this
   refine ⟨.sl h.n 0 0 (.ex 0),(h.new (.cells [] e false)).put h.n (.cells [] e false),?_,.inr ⟨h.n,_,rfl,get_put_same (H.get_lt g0),by simp,Nat.le_refl _,Nat.le_refl _⟩,x.put (Nat.le_refl _) _,fun h=>by omega⟩
   simp [apZ,hl,hf,apN,wrN_of (o:=0) g0,splice]
 | succ n =>
   refine ⟨.sl (h.n+1) 0 (n+1) (.op z),(h.new (.cells [] e false)).new (.cells cs e false),?_,.inr ⟨h.n+1,_,rfl,get_new_eq (by rw [H.n_new]),hc,by omega,rfl⟩,x.new _,fun _=>⟨_,rfl⟩⟩
   simp [apZ,hl,hf,apN,hb,rdN_of (o:=0) (n:=0) g0,H.n_new]
theorem clone61_ok {D:Nat→Prop} {h:H} {v:V} {c:List Nat} (u:U16 D h v c) (hl:c.length < 1000):RT (fun w h'=>NewS h.n h' w tU 1 (wordsV c) c.length∧Ext h h'∧(0 < c.length→∃ b,w=.sl b 0 c.length (.op 1))) (KW 82 [v] h):=by
 rw [w82,f82,s82]
 rcases u.1 with ⟨rfl,h2,h3⟩ | ⟨b,o,k,cs,hv,h2,h3,h4,h5⟩
 · simp
   exact ⟨.inl ⟨rfl,h2,h3⟩,Ext.refl h,fun h=>by omega⟩
 · obtain ⟨v',h',k1,k2,k3,k4⟩:=apZ_clone (bytes:=2) u.1 (by omega)
   have hn:binK 3 .eql v .nils=some (.bool false):=by rw [hv];rfl
   simp [hn,bs,fillW,k1]
   exact ⟨k2,k3,k4⟩
def rateP (t:Tb):Nat:=3+(if t.c.length < 4 then 1 else 2)+(if 15 < t.n then 1 else 0)+(if 31 < t.n then 1 else 0)
theorem rateP_lt (t:Tb):rateP t < 8:=by unfold rateP;split <;> split <;> split <;> omega
theorem len98_ok {n:Nat} (h1:2≤n) (h2:n≤16) (h:H):∃ m:Nat,KW 168 [.int .u64 n] h=some (.ret (.int .i64 m),h)∧min (m - 1) 2=(if n < 4 then 1 else 2)∧1≤m∧m < 10:=by
 have hn:n=2∨n=3∨n=4∨n=5∨n=6∨n=7∨n=8∨n=9∨n=10∨n=11∨n=12∨n=13∨n=14∨n=15∨n=16:=by omega
 rw [w168]
 rcases hn with rfl | rfl | rfl | rfl | rfl | rfl | rfl | rfl | rfl | rfl | rfl | rfl | rfl | rfl | rfl
 · exact ⟨2,by kernel_rfl,by decide,by omega,by omega⟩
 · exact ⟨2,by kernel_rfl,by decide,by omega,by omega⟩
 · exact ⟨3,by kernel_rfl,by decide,by omega,by omega⟩
 · exact ⟨3,by kernel_rfl,by decide,by omega,by omega⟩
 · exact ⟨3,by kernel_rfl,by decide,by omega,by omega⟩
 · exact ⟨3,by kernel_rfl,by decide,by omega,by omega⟩
 · exact ⟨4,by kernel_rfl,by decide,by omega,by omega⟩
 · exact ⟨4,by kernel_rfl,by decide,by omega,by omega⟩
 · exact ⟨4,by kernel_rfl,by decide,by omega,by omega⟩
 · exact ⟨4,by kernel_rfl,by decide,by omega,by omega⟩
 · exact ⟨4,by kernel_rfl,by decide,by omega,by omega⟩
 · exact ⟨4,by kernel_rfl,by decide,by omega,by omega⟩
 · exact ⟨4,by kernel_rfl,by decide,by omega,by omega⟩
 · exact ⟨4,by kernel_rfl,by decide,by omega,by omega⟩
 · exact ⟨5,by kernel_rfl,by decide,by omega,by omega⟩
theorem rate60_ok {D:Nat→Prop} {h:H} {v:V} {t:Tb} (u:U16 D h v t.c) (ok:TabOk t):RT (fun w h'=>w=.int .i64 (rateP t:Nat)∧Ext h h') (KW 140 [.agg [v,.int .i64 t.n]] h):=by
 obtain ⟨h1,b1,x1,g1,n1,u1⟩:=box72 u
 have ul:=u1.1.len
 obtain ⟨m,e2,hm,m1,m2⟩:=len98_ok ok.1.1 ok.1.2 h1
 have e87:KW 143 [.int .u64 (t.c.length:Int)] h1=some (.ret (.int .i64 m),h1):=by
   rw [w143,f143,s143];simp [e2]
 have z0:IntKind.u64.wrap (t.c.length:Int)=t.c.length:=by have:=ok.1;exact wu64 (by omega) (by omega)
 have z1:IntKind.i64.wrap ((m:Int) - 1)=((m - 1:Nat):Int):=by rw [wi64 (by omega) (by omega)];omega
 obtain ⟨q,hq⟩:∃ q,q=(if t.c.length < 4 then 1 else 2):=⟨_,rfl⟩
 have e3:(if (2:Int) < ((m - 1:Nat):Int) then (2:Int) else ((m - 1:Nat):Int))=(q:Int):=by
   rw [hq,← hm];split <;> omega
 have hq2:q≤2:=by rw [hq];split <;> omega
 have z2:IntKind.i64.wrap (3+(q:Int))=3+q:=wi64 (by omega) (by omega)
 have z3:IntKind.i64.wrap (3+(q:Int)+1)=3+q+1:=wi64 (by omega) (by omega)
 have z4:IntKind.i64.wrap (3+(q:Int)+1+1)=3+q+1+1:=wi64 (by omega) (by omega)
 have hr:(rateP t:Int)=3+q+(if 15 < t.n then 1 else 0)+(if 31 < t.n then 1 else 0):=by
   unfold rateP;rw [← hq];split <;> split <;> simp
 rw [hr]
 rw [w140,f140,s140]
 by_cases c1:15 < t.n
 · by_cases c2:31 < t.n
   ·simp [b1,rd1_of g1,ul,z0,e87,z1,e3,z2,c1,c2,z3,z4]
    exact ⟨rfl,x1⟩
   ·simp [b1,rd1_of g1,ul,z0,e87,z1,e3,z2,c1,c2,z3,z4]
    exact ⟨rfl,x1⟩
 · simp [b1,rd1_of g1,ul,z0,e87,z1,e3,z2,c1,show ¬ 31 < t.n by omega]
   exact ⟨rfl,x1⟩
open Go.Zf (wi64)
def mix (f g:Nat→Nat) (m j:Nat):List Nat:=(List.range m).map fun i=>if i < j then f i else g i
theorem mix_length (f g:Nat→Nat) (m j:Nat):(mix f g m j).length=m:=by simp [mix]
theorem mix_nth (f g:Nat→Nat) {m j i:Nat} (h:i < m):nth (mix f g m j) i=if i < j then f i else g i:=by
 rw [nth_of (by rw [mix_length];exact h)];simp [mix]
theorem mix_set (f g:Nat→Nat) (m j:Nat):(mix f g m j).set j (f j)=mix f g m (j+1):=by
 apply List.ext_getElem
 · simp [mix]
 · intro i h1 h2
   rw [List.getElem_set]
   simp only [mix,List.getElem_map,List.getElem_range]
   by_cases e:j=i
   ·subst e;simp
   ·simp only [e,if_false]
    by_cases h:i < j
    ·simp [h,Nat.lt_succ_of_lt h]
    ·rw [if_neg h,if_neg (by omega)]
theorem list_eq_nth {l m:List Nat} (h:l.length=m.length) (hn:∀ i,i < l.length→nth l i=nth m i):l=m:=by
 apply List.ext_getElem h
 intro i h1 h2
 have:=hn i h1
 rwa [nth_of h1,nth_of h2] at this
theorem mix_zero (l:List Nat) (f:Nat→Nat):mix f (nth l) l.length 0=l:=by
 apply list_eq_nth (mix_length _ _ _ _)
 intro i hi
 rw [mix_length] at hi
 rw [mix_nth f _ hi,if_neg (by omega)]
theorem wordsV_set (l:List Nat) (i x:Nat):(wordsV l).set i (.int .u16 x)=wordsV (l.set i x):=by simp [wordsV,List.map_set]
def adF (t:Tb) (s i:Nat):Nat:=if i+1=t.c.length then nth t.c i else if i < s then nth t.c i - nth t.c i / 2 ^ rateP t else nth t.c i+(32768 - nth t.c i) / 2 ^ rateP t
def adaptP (t:Tb) (s:Nat):Tb:=⟨(List.range t.c.length).map (adF t s),min (t.n+1) 32⟩
theorem adaptP_len (t:Tb) (s:Nat):(adaptP t s).c.length=t.c.length:=by simp [adaptP]
theorem adaptP_nth {t:Tb} {s i:Nat} (h:i < t.c.length):nth (adaptP t s).c i=adF t s i:=by
 rw [nth_of (by rw [adaptP_len];exact h)];simp [adaptP]
theorem mix_all (t:Tb) (s:Nat):mix (adF t s) (nth t.c) t.c.length (t.c.length - 1)=(adaptP t s).c:=by
 apply list_eq_nth (by rw [mix_length,adaptP_len])
 intro i hi
 rw [mix_length] at hi
 rw [mix_nth _ _ hi,adaptP_nth hi]
 split
 · rfl
 · rw [adF,if_pos (by omega)]
theorem adF_le {t:Tb} (ok:TabOk t) (s:Nat) {i:Nat} (hi:i < t.c.length):adF t s i≤32768:=by
 have:=ok.le hi
 unfold adF
 split
 · exact this
 · split
   ·exact Nat.le_trans (Nat.sub_le _ _) this
   ·have:=Nat.div_le_self (32768 - nth t.c i) (2 ^ rateP t)
    generalize (32768 - nth t.c i) / 2 ^ rateP t=a at *
    omega
theorem adF_mono {t:Tb} (ok:TabOk t) (s:Nat) {i:Nat} (hi:i+1 < t.c.length):adF t s i≤adF t s (i+1):=by
 have h1:=ok.2.2.1 i hi
 have h2:=ok.le hi
 have h3:=ok.le (show i < t.c.length by omega)
 obtain ⟨q,hq⟩:∃ q,q=2 ^ rateP t:=⟨_,rfl⟩
 have hq1:1≤q:=by rw [hq];exact Nat.two_pow_pos _
 have hl:=ok.2.2.2
 unfold adF
 rw [← hq,if_neg (show ¬ i+1=t.c.length by omega)]
 obtain ⟨x,hx⟩:∃ x,x=nth t.c i:=⟨_,rfl⟩
 obtain ⟨y,hy⟩:∃ x,x=nth t.c (i+1):=⟨_,rfl⟩
 rw [← hx,← hy]
 rw [← hx] at h1 h3
 rw [← hy] at h1 h2
 have d1:x - x / q≤y - y / q:=by
   have hm:∀ k,x+k - (x+k) / q ≥ x - x / q:=by
    intro k
    induction k with
    | zero=>exact Nat.le_refl _
    | succ k ih =>
     have:=Nat.div_le_self (x+k) q
     have hd:(x+(k+1)) / q≤(x+k) / q+1:=by
      rw [← Nat.add_assoc]
      calc (x+k+1) / q≤(x+k+q) / q:=Nat.div_le_div_right (by omega)
       _=(x+k) / q+1:=Nat.add_div_right _ (by omega)
     omega
   have:=hm (y - x);rw [show x+(y - x)=y by omega] at this;exact this
 have d2:x+(32768 - x) / q≤y+(32768 - y) / q:=by
   have hm:∀ k,x+k≤32768→x+(32768 - x) / q≤x+k+(32768 - (x+k)) / q:=by
    intro k
    induction k with
    | zero=>intro _;exact Nat.le_refl _
    | succ k ih =>
     intro hk
     have h:=ih (by omega)
     have hd:(32768 - (x+k)) / q≤(32768 - (x+(k+1))) / q+1:=by
      calc (32768 - (x+k)) / q≤(32768 - (x+(k+1))+q) / q:=Nat.div_le_div_right (by omega)
       _=_:=Nat.add_div_right _ (by omega)
     omega
   have:=hm (y - x) (by omega);rw [show x+(y - x)=y by omega] at this;exact this
 have d3:x - x / q≤y:=Nat.le_trans (Nat.sub_le _ _) h1
 have d4:y - y / q≤y+(32768 - y) / q:=Nat.le_trans (Nat.sub_le _ _) (Nat.le_add_right _ _)
 have d5:y≤y+(32768 - y) / q:=Nat.le_add_right _ _
 by_cases e1:i+1+1=t.c.length
 · rw [if_pos e1]
   have hy2:y=32768:=by rw [hy,← hl];congr 1;omega
   have:=Nat.div_le_self (32768 - x) q
   split
   ·exact d3
   ·generalize (32768 - x) / q=a at *;omega
 · rw [if_neg e1]
   by_cases e2:i < s
   ·rw [if_pos e2]
    by_cases e3:i+1 < s
    ·rw [if_pos e3];exact d1
    ·rw [if_neg e3];exact Nat.le_trans d3 d5
   ·rw [if_neg e2,if_neg (by omega)];exact d2
theorem adaptP_ok {t:Tb} (ok:TabOk t) (s:Nat):TabOk (adaptP t s):=by
 have h1:=ok.1
 refine ⟨by rw [adaptP_len];exact ok.1,?_,?_,?_⟩
 · have:=ok.2.1;simp only [adaptP];omega
 · intro i hi
   rw [adaptP_len] at hi
   rw [adaptP_nth (by omega),adaptP_nth hi]
   exact adF_mono ok s hi
 · rw [adaptP_len,adaptP_nth (by omega),adF,if_pos (by omega)];exact ok.2.2.2
structure I35 (h0:H) (t:Tb) (s p q b rate:Nat) (m:Int) (n:Nat) (e:E) (g:H):Prop where
 hn:n≤t.c.length - 1
 x:∀ c,c < h0.n→c ≠ b→g.get c=h0.get c
 gn:h0.n≤g.n
 w:g.get b=some (.cells (wordsV (mix (adF t s) (nth t.c) t.c.length (t.c.length - 1 - n))) 137 false)
 p1:e.s [0,1,2,4,5,6,7,8,9,31,32,33] 1=.int .i64 s
 p4:e.s [0,1,2,4,5,6,7,8,9,31,32,33] 4=.ptr p 0
 p6:e.s [0,1,2,4,5,6,7,8,9,31,32,33] 6=.int .i64 rate
 p7:e.s [0,1,2,4,5,6,7,8,9,31,32,33] 7=.ptr q 0
 p31:e.s [0,1,2,4,5,6,7,8,9,31,32,33] 31=.sl b 0 (t.c.length - 1) (.op 1)
 p32:e.s [0,1,2,4,5,6,7,8,9,31,32,33] 32=.int .i64 ((t.c.length - 1:Nat):Int)
 p33:e.s [0,1,2,4,5,6,7,8,9,31,32,33] 33=.int .i64 ((t.c.length - 1 - n:Nat):Int)
theorem loop35 {h0:H} {t:Tb} {s p q b:Nat} {m:Int} (ok:TabOk t) (hq:h0.get q=some (.cells [.sl b 0 t.c.length (.op 1),.int .i64 m] 101 false)) (hqb:q ≠ b) {n:Nat} {e:E} {g:H} (hi:I35 h0 t s p q b (rateP t) m n e g) :
   ∃ e' g',loopZ (l88_0 KW loopZ) e g=some ⟨.ex 0,e',g'⟩∧I35 h0 t s p q b (rateP t) m 0 e' g':=by
 have loop:=loop_run (body:=l88_0 KW loopZ) (I35 h0 t s p q b (rateP t) m) (fun s'=>s'.x=.ex 0∧I35 h0 t s p q b (rateP t) m 0 s'.e s'.h)
   (fun n e g hi=>by
    obtain ⟨hn,x,gn,w,p1,p4,p6,p7,p31,p32,p33⟩:=hi
    cases n with
    | zero =>
     simp [l88_0,p33,p32]
     exact ⟨rfl,hn,x,gn,w,by simp [p1],by simp [p4],by simp [p6],by simp [p7],by simp [p31],by simp [p32],by simp [p33]⟩
    | succ n =>
     obtain ⟨k,hk⟩:∃ k,k=t.c.length - 1 - (n+1):=⟨_,rfl⟩
     have hk2:t.c.length - 1 - n=k+1:=by omega
     have hkl:k < t.c.length:=by omega
     rw [← hk] at p33 w
     have hle:=ok.le hkl
     have hR:=rateP_lt t
     obtain ⟨Q,hQ⟩:∃ Q,Q=2 ^ rateP t:=⟨_,rfl⟩
     obtain ⟨R,hRe⟩:∃ R,R=rateP t:=⟨_,rfl⟩
     have hset:=mix_set (adF t s) (nth t.c) t.c.length k
     have hnth:=mix_nth (adF t s) (nth t.c) (j:=k) hkl
     rw [if_neg (Nat.lt_irrefl k)] at hnth
     have hml:=mix_length (adF t s) (nth t.c) t.c.length k
     have hF:adF t s k=if k < s then nth t.c k - nth t.c k / Q else nth t.c k+(32768 - nth t.c k) / Q:=by
      rw [adF,if_neg (by omega),← hQ]
     obtain ⟨c,hc⟩:∃ c,c=nth t.c k:=⟨_,rfl⟩
     rw [← hc] at hnth hF hle
     obtain ⟨l,hl⟩:∃ l,l=mix (adF t s) (nth t.c) t.c.length k:=⟨_,rfl⟩
     rw [← hl] at w hset hnth hml
     have hget:=wordsV_get l k (by omega)
     rw [hnth] at hget
     have hqg:g.get q=some (.cells [.sl b 0 t.c.length (.op 1),.int .i64 m] 101 false):=by rw [x q (H.get_lt hq) hqb,hq]
     have z1:IntKind.i64.wrap ((k:Int)+1)=k+1:=by have:=ok.1;exact wi64 (by omega) (by omega)
     have hmin:min R IntKind.u16.bits=R:=Nat.min_eq_left (by rw [hRe,show IntKind.u16.bits=16 from rfl];omega)
     have zf:∀ y:Int,y.fdiv (2 ^ R)=y / (Q:Int):=fun y=>by
      rw [Int.fdiv_eq_ediv_of_nonneg _ (Int.pow_nonneg (by decide)),hQ,hRe];simp
     rw [← hRe] at p6
     have hQ1:1≤Q:=by rw [hQ];exact Nat.two_pow_pos _
     have d1:=Nat.div_le_self c Q
     have d2:=Nat.div_le_self (32768 - c) Q
     have z3:IntKind.u16.wrap (32768 - (c:Int))=((32768 - c:Nat):Int):=by rw [wu16 (by omega) (by omega)];omega
     have hwr:=fun v=>wr1_of w (o:=k) (by rw [wordsV_length];omega) v
     have hxx:∀ g2,g2=g.put b (.cells (wordsV (mix (adF t s) (nth t.c) t.c.length (k+1))) 137 false)→(∀ d,d < h0.n→d ≠ b→g2.get d=h0.get d)∧h0.n≤g2.n∧g2.get b=some (.cells (wordsV (mix (adF t s) (nth t.c) t.c.length (k+1))) 137 false):=by
      intro g2 hg2
      exact ⟨fun d hd hdb=>by rw [hg2,get_put_ne hdb,x d hd hdb],by rw [hg2,H.n_put];exact gn,by rw [hg2,get_put_same (H.get_lt w)]⟩
     obtain ⟨g2,hg2⟩:∃ g2,g2=g.put b (.cells (wordsV (mix (adF t s) (nth t.c) t.c.length (k+1))) 137 false):=⟨_,rfl⟩
     obtain ⟨y1,y2,y3⟩:=hxx g2 hg2
     have hs2:=wordsV_set l k (adF t s k)
     rw [hset] at hs2
     have b1:c - c / Q≤32768:=Nat.le_trans (Nat.sub_le _ _) hle
     have b2:c+(32768 - c) / Q≤32768:=by generalize (32768 - c) / Q=a at *;omega
     by_cases hs:k < s
     ·rw [if_pos hs] at hF
      have e1:((c - c / Q:Nat):Int)=(c:Int) - (c:Int) / (Q:Int):=by rw [Int.ofNat_sub d1,Int.natCast_ediv]
      have z4:IntKind.u16.wrap ((c:Int) - (c:Int) / (Q:Int))=((adF t s k:Nat):Int):=by
       rw [hF,← e1];exact wu16 (Int.natCast_nonneg _) (by omega)
      simp [l88_0,p33,p32,show k < t.c.length - 1 by omega,show (k:Int) < ((t.c.length - 1:Nat):Int) by omega,p31,rd1_of w,hget,p1,hs,p7,rd1_of hqg,hkl,p6,show ¬ (R:Int) < 0 by omega,hmin,zf,z4,hwr,hs2,z1,← hg2]
      exact ⟨n,Nat.lt_succ_self n,by omega,y1,y2,by rw [hk2];exact y3,by simp [p1],by simp [p4],by simp [p6,hRe],by simp [p7],by simp [p31],by simp [p32],by simp [hk2]⟩
     ·rw [if_neg hs] at hF
      have e1:((c+(32768 - c) / Q:Nat):Int)=(c:Int)+((32768 - c:Nat):Int) / (Q:Int):=by rw [Int.natCast_add,Int.natCast_ediv]
      have z4:IntKind.u16.wrap ((c:Int)+((32768 - c:Nat):Int) / (Q:Int))=((adF t s k:Nat):Int):=by
       rw [hF,← e1];exact wu16 (Int.natCast_nonneg _) (by omega)
      simp [l88_0,p33,p32,show k < t.c.length - 1 by omega,show (k:Int) < ((t.c.length - 1:Nat):Int) by omega,p31,rd1_of w,hget,p1,hs,p7,rd1_of hqg,hkl,p6,show ¬ (R:Int) < 0 by omega,hmin,z3,zf,z4,hwr,hs2,z1,← hg2]
      exact ⟨n,Nat.lt_succ_self n,by omega,y1,y2,by rw [hk2];exact y3,by simp [p1],by simp [p4],by simp [p6,hRe],by simp [p7],by simp [p31],by simp [p32],by simp [hk2]⟩)
 obtain ⟨⟨x,e',g'⟩,r1,r2,r3⟩:=loop n e g hi
 simp only at r2 r3
 subst r2
 exact ⟨e',g',r1,r3⟩
def NewT (p:Nat) (h:H) (v:V) (t:Tb):Prop:=∃ vc,v=.agg [vc,.int .i64 t.n]∧U16 (fun b=>p≤b) h vc t.c
theorem adapt35_ok {D:Nat→Prop} {h:H} {v:V} {t:Tb} (u:U16 D h v t.c) (ok:TabOk t) {s:Nat} (hs:s < t.c.length) :
   RT (fun w h'=>∃ vt,w=.tup [vt,.int .i64 0]∧NewT h.n h' vt (adaptP t s)∧Ext h h') (KW 88 [.agg [v,.int .i64 t.n],.int .i64 s] h):=by
 have l1:=ok.1
 obtain ⟨h1,b1,x1,g1,n1,u1⟩:=box72 u
 obtain ⟨h2,hh2⟩:∃ g,g=h1.new (.cells [.nils,.int .i64 0] 101 false):=⟨_,rfl⟩
 have x2:Ext h1 h2:=by rw [hh2];exact (Ext.refl h1).new _
 have n2:h2.n=h1.n+1:=by rw [hh2,H.n_new]
 have r2:h2.get h1.n=some (.cells [.nils,.int .i64 0] 101 false):=by rw [hh2,get_new_same]
 have u2:=u1.ext x2
 obtain ⟨w,h3,e3,rfl,x3⟩:=(asked59_ok u2 (by omega) (s:Int)).elim
 rw [show decide (TabOk t∧0≤(s:Int)∧(s:Int) < t.c.length)=true by rw [decide_eq_true_eq];exact ⟨ok,by omega,by omega⟩] at e3
 have u3:=u2.ext x3
 obtain ⟨w,h4,e4,rfl,x4⟩:=(rate60_ok u3 ok).elim
 have u4:=u3.ext x4
 obtain ⟨vc,h5,e5,k5,x5,q5⟩:=(clone61_ok u4 (by omega)).elim
 obtain ⟨b,rfl⟩:=q5 (by omega)
 have hb5:h5.get b=some (.cells (wordsV t.c) 137 false)∧h4.n≤b:=by
   rcases k5 with ⟨e,_⟩ | ⟨b',k',e,a1,a2,a3⟩
   ·cases e
   ·cases e;exact ⟨a1,a3.1⟩
 obtain ⟨hb5,hb4⟩:=hb5
 have ge2:h2.get h.n=_:=(x2.get _ (H.get_lt g1)).trans g1
 have ge3:h3.get h.n=_:=(x3.get _ (H.get_lt ge2)).trans ge2
 have ge4:h4.get h.n=_:=(x4.get _ (H.get_lt ge3)).trans ge3
 have ge5:h5.get h.n=_:=(x5.get _ (H.get_lt ge4)).trans ge4
 have ra3:h3.get h1.n=_:=(x3.get _ (H.get_lt r2)).trans r2
 have ra4:h4.get h1.n=_:=(x4.get _ (H.get_lt ra3)).trans ra3
 have ra5:h5.get h1.n=_:=(x5.get _ (H.get_lt ra4)).trans ra4
 obtain ⟨m,hm⟩:∃ m,m=min (t.n+1) 32:=⟨_,rfl⟩
 have zn:IntKind.i64.wrap (t.n+1)=t.n+1:=by have:=ok.2.1;exact wi64 (by omega) (by omega)
 have hmin:(if (32:Int) < t.n+1 then (32:Int) else t.n+1)=m:=by rw [hm];split <;> omega
 obtain ⟨h6,hh6⟩:∃ g,g=(h5.new (.cells [.nils,.int .i64 0] 101 false)).put h5.n (.cells [.sl b 0 t.c.length (.op 1),.int .i64 m] 101 false):=⟨_,rfl⟩
 have x6:Ext h5 h6:=by rw [hh6];exact ((Ext.refl h5).new _).put (Nat.le_refl _) _
 have n6:h6.n=h5.n+1:=by rw [hh6,H.n_put,H.n_new]
 have g6:h6.get h5.n=some (.cells [.sl b 0 t.c.length (.op 1),.int .i64 m] 101 false):=by rw [hh6,get_put_same (by rw [H.n_new];omega)]
 have ge6:h6.get h.n=_:=(x6.get _ (H.get_lt ge5)).trans ge5
 have ra6:h6.get h1.n=_:=(x6.get _ (H.get_lt ra5)).trans ra5
 have hb6:h6.get b=_:=(x6.get _ (H.get_lt hb5)).trans hb5
 have hbl:=H.get_lt hb5
 have zl:IntKind.i64.wrap ((t.c.length:Int) - 1)=((t.c.length - 1:Nat):Int):=by rw [wi64 (by omega) (by omega)];omega
 have hsl:slS 1 (.sl b 0 t.c.length (.op 1)) none (some (.int .i64 ((t.c.length - 1:Nat):Int))) none=some (.sl b 0 (t.c.length - 1) (.op 1)):=by
   simp [slS,optB,sbV]
 obtain ⟨e',g',r1,I⟩:=loop35 (h0:=h6) (t:=t) (s:=s) (p:=h1.n) (q:=h5.n) (b:=b) (m:=m) ok g6 (by omega) (n:=t.c.length - 1)
   (e:=⟨[.agg [v,.int .i64 t.n],.int .i64 s,.ptr h.n 0,.ptr h1.n 0,.int .i64 0,.int .i64 (rateP t:Nat),.ptr h5.n 0,.tup [],.tup [],.sl b 0 (t.c.length - 1) (.op 1),.int .i64 ((t.c.length - 1:Nat):Int),.int .i64 0],33,.int .i64 0⟩) (g:=h6)
   ⟨Nat.le_refl _,fun c _ _=>rfl,Nat.le_refl _,by rw [Nat.sub_self,mix_zero];exact hb6,by simp,by simp,by simp,by simp,by simp,by simp,by simp⟩
 obtain ⟨_,xx,gn,gw,p1,p4,p6,p7,p31,p32,p33⟩:=I
 have x7:∀ c,c < h4.n→g'.get c=h4.get c:=fun c hc=>by
   have:=x5.n;have:=x6.n
   rw [xx c (by omega) (by omega),x6.get c (by omega),x5.get c hc]
 have ra7:g'.get h1.n=_:=(x7 _ (H.get_lt ra4)).trans ra4
 have q7:g'.get h5.n=_:=(xx h5.n (by omega) (by omega)).trans g6
 obtain ⟨h8,hh8⟩:∃ g,g=g'.put h1.n (.cells [.sl b 0 t.c.length (.op 1),.int .i64 m] 101 false):=⟨_,rfl⟩
 have r8:h8.get h1.n=some (.cells [.sl b 0 t.c.length (.op 1),.int .i64 m] 101 false):=by rw [hh8,get_put_same (H.get_lt ra7)]
 have b8:h8.get b=_:=(show h8.get b=g'.get b by rw [hh8,get_put_ne (by have:=H.get_lt ra4;omega)]).trans gw
 rw [w88,f88,s88]
 simp [b1,nw,← hh2,rdN_of (o:=0) (n:=2) ge2 (by simp),e3,rdN_of (o:=0) (n:=2) ge3 (by simp),e4,rd1_of ge4,e5,rd1_of ge5,zn,hmin,bl,fillW,splice,wrN_of (o:=0) get_new_same,← hh6,u.1.ck,rd1_of g6,rd1_of ge6,u.1.len,zl,hsl,r1,p7,rdN_of (o:=0) (n:=2) q7 (by simp),p4,wrN_of (o:=0) ra7,← hh8,rdN_of (o:=0) (n:=2) r8 (by simp)]
 have hx4:Ext h h4:=((x1.trans x2).trans x3).trans x4
 refine ⟨_,rfl,⟨_,by rw [hm];rfl,?_,?_⟩,?_⟩
 · rw [Nat.sub_zero,mix_all] at b8
   rw [adaptP_len]
   refine SlR.of b8 ?_ ?_
   ·rw [wordsV_length,adaptP_len];omega
   ·have:=x1.n;have:=x2.n;have:=x3.n;have:=x4.n;show h.n≤b;omega
 · intro y hy
   obtain ⟨i,hi,rfl⟩:=List.getElem_of_mem hy
   rw [← nth_of hi]
   rw [adaptP_len] at hi
   rw [adaptP_nth hi]
   have:=adF_le ok s hi
   omega
 · refine ⟨by rw [hh8,H.n_put];have:=hx4.n;have:=x5.n;omega,fun c hc=>?_⟩
   have:=x1.n;have:=hx4.n
   rw [hh8,get_put_ne (by omega),x7 c (by omega),hx4.get c hc]
open Go.Zf (wi64)
open Go.Zf (wi64)
def tabN (f:Nat→Nat) (m:Nat):List Nat:=(List.range m).map f
theorem tabN_length (f:Nat→Nat) (m:Nat):(tabN f m).length=m:=by simp [tabN]
theorem SlR.under {D:Nat→Prop} {h:H} {v:V} {t z n:Nat} {cs:List V} (a:SlR D h v t z n cs):∀ c o m k,v=.sl c o m k→c < h.n:=by
 rcases a with ⟨rfl,_⟩ | ⟨b,o,k,c,rfl,hb,_⟩
 · intro c o m k e;cases e
 · intro c o m k e;cases e;exact H.get_lt hb
def pw (n:Nat):Nat:=2 ^ n
def Keeps (K T:List Nat) (e e0:E):Prop:=∀ i,i ∈ T→e.s K i=e0.s K i
open Go.Zf (wi64)
def flF (n i:Nat):Nat:=32768*(i+1) / n
def stF (n i:Nat):Nat:=if i+1=n then 32768 else 32768 - 32768 / pw (i+1)
def flatP (n:Nat):Tb:=⟨tabN (flF n) n,0⟩
def steepP (n:Nat):Tb:=⟨tabN (stF n) n,0⟩
theorem flF_le {n i:Nat} (hi:i < n):flF n i≤32768:=by
 unfold flF
 have:32768*(i+1) / n≤32768*n / n:=Nat.div_le_div_right (Nat.mul_le_mul_left _ (by omega))
 rwa [Nat.mul_div_cancel _ (by omega)] at this
theorem stF_le (n i:Nat):stF n i≤32768:=by
 unfold stF
 split
 · exact Nat.le_refl _
 · exact Nat.sub_le _ _
theorem mem_tabN {f:Nat→Nat} {m x:Nat} (h:x ∈ tabN f m):∃ i,i < m∧f i=x:=by
 simp only [tabN,List.mem_map,List.mem_range] at h;exact h
theorem mix_full (f g:Nat→Nat) (m:Nat):mix f g m m=tabN f m:=by
 apply List.ext_getElem
 · simp [mix,tabN]
 · intro i h1 h2
   have:i < m:=by simpa [mix] using h1
   simp [mix,tabN,this]
theorem zeros (f:Nat→Nat) (n:Nat):reps n [V.int .u16 0]=wordsV (mix f (fun _=>0) n 0):=by
 rw [reps_one]
 apply List.ext_getElem
 · simp [wordsV,mix]
 · intro i h1 h2;simp [wordsV,mix]
theorem half_div (i:Nat) (hi:i≤15):32768 / pw i / 2=32768 / pw (i+1):=by
 rw [pw,pw,Nat.div_div_eq_div_mul,Nat.pow_succ]
open Go.Zf (wi64)
theorem wn (n:Nat) (f g:Nat→Nat) (j:Nat):(wordsV (mix f g n j)).length=n:=by rw [wordsV_length,mix_length]
structure I54 (h0:H) (f:Nat→Nat) (n b q p:Nat) (k:Nat) (e:E) (g:H):Prop where
 hk:k≤n
 x:∀ c,c ≠ b→g.get c=h0.get c
 gn:h0.n≤g.n
 w:g.get b=some (.cells (wordsV (mix f (fun _=>0) n (n - k))) 137 false)
 p0:e.s [0,2,3,4,5,15,16] 0=.int .i64 n
 p2:e.s [0,2,3,4,5,15,16] 2=.ptr p 0
 p4:e.s [0,2,3,4,5,15,16] 4=.ptr q 0
 p15:e.s [0,2,3,4,5,15,16] 15=.int .i64 n
 p16:e.s [0,2,3,4,5,15,16] 16=.int .i64 ((n - k:Nat):Int)
theorem flat54_ok {n:Nat} (h2:2≤n) (h16:n≤16) (h:H):RT (fun w h'=>∃ vt,w=.tup [vt,.int .i64 0]∧NewT h.n h' vt (flatP n)∧Ext h h') (KW 37 [.int .i64 n] h):=by
 obtain ⟨h1,hh1⟩:∃ g,g=h.new (.cells [.nils,.int .i64 0] 101 false):=⟨_,rfl⟩
 have x1:Ext h h1:=by rw [hh1];exact (Ext.refl h).new _
 have n1:h1.n=h.n+1:=by rw [hh1,H.n_new]
 have r1:h1.get h.n=some (.cells [.nils,.int .i64 0] 101 false):=by rw [hh1,get_new_same]
 obtain ⟨hm,hhm⟩:∃ g,g=h1.new (.cells (wordsV (mix (flF n) (fun _=>0) n 0)) 137 false):=⟨_,rfl⟩
 have xm:Ext h1 hm:=by rw [hhm];exact (Ext.refl h1).new _
 have nm:hm.n=h1.n+1:=by rw [hhm,H.n_new]
 have rm:hm.get h1.n=some (.cells (wordsV (mix (flF n) (fun _=>0) n 0)) 137 false):=by rw [hhm,get_new_same]
 obtain ⟨h3,hh3⟩:∃ g,g=(hm.new (.cells [.nils,.int .i64 0] 101 false)).put hm.n (.cells [.sl h1.n 0 n (.ex n),.int .i64 0] 101 false):=⟨_,rfl⟩
 have x3:Ext hm h3:=by rw [hh3];exact ((Ext.refl hm).new _).put (Nat.le_refl _) _
 have n3:h3.n=hm.n+1:=by rw [hh3,H.n_put,H.n_new]
 have r3:h3.get hm.n=some (.cells [.sl h1.n 0 n (.ex n),.int .i64 0] 101 false):=by rw [hh3,get_put_same (by rw [H.n_new];omega)]
 have rm3:h3.get h1.n=_:=(x3.get _ (H.get_lt rm)).trans rm
 have ra3:h3.get h.n=_:=(x3.get _ (by omega)).trans ((xm.get _ (by omega)).trans r1)
 have loop:=loop_run (body:=l37_0 KW loopZ) (I54 h3 (flF n) n h1.n hm.n h.n) (fun s=>s.x=.ex 0∧I54 h3 (flF n) n h1.n hm.n h.n 0 s.e s.h)
   (fun k e g hi=>by
    obtain ⟨hk,xx,gn,w,p0,p2,p4,p15,p16⟩:=hi
    cases k with
    | zero =>
     simp [l37_0,p15,p16]
     exact ⟨rfl,hk,xx,gn,w,by simp [p0],by simp [p2],by simp [p4],by simp [p15],by simp [p16]⟩
    | succ k =>
     obtain ⟨i,hi⟩:∃ i,i=n - (k+1):=⟨_,rfl⟩
     have hi2:n - k=i+1:=by omega
     rw [← hi] at p16 w
     have hF:=flF_le (n:=n) (i:=i) (by omega)
     have z1:IntKind.i64.wrap ((i:Int)+1)=i+1:=wi64 (by omega) (by omega)
     have z2:IntKind.i64.wrap (32768*((i:Int)+1))=32768*(i+1):=wi64 (by omega) (by omega)
     have hset:=mix_set (flF n) (fun _=>0) n i
     have hs2:=wordsV_set (mix (flF n) (fun _=>0) n i) i (flF n i)
     rw [hset] at hs2
     have hwr:=fun v=>wr1_of w (o:=i) (by rw [wn];omega) v
     obtain ⟨F,hFe⟩:∃ F,F=flF n i:=⟨_,rfl⟩
     have t1:(32768*((i:Int)+1)).tdiv (n:Int)=(F:Int):=by
      rw [Int.tdiv_eq_ediv_of_nonneg (by omega),hFe,flF];simp
     rw [← hFe] at hF hs2
     have z3:IntKind.i64.wrap (F:Int)=F:=wi64 (by omega) (by omega)
     have z4:IntKind.u16.wrap (F:Int)=F:=wu16 (by omega) (by omega)
     have hq:g.get hm.n=_:=(xx hm.n (by omega)).trans r3
     obtain ⟨g2,hg2⟩:∃ g2,g2=g.put h1.n (.cells (wordsV (mix (flF n) (fun _=>0) n (i+1))) 137 false):=⟨_,rfl⟩
     simp [l37_0,p15,p16,show (i:Int) < n by omega,show i < n by omega,p4,rd1_of hq,z1,z2,p0,show ¬ (n:Int)=0 by omega,show ¬ n=0 by omega,t1,z3,z4,hwr,hs2,← hg2]
     exact ⟨k,Nat.lt_succ_self k,by omega,fun c hc=>by rw [hg2,get_put_ne hc,xx c hc],by rw [hg2,H.n_put];exact gn,by rw [hg2,get_put_same (H.get_lt w),hi2],by simp [p0],by simp [p2],by simp [p4],by simp [p15],by simp [hi2]⟩)
 obtain ⟨⟨sx,se,sh⟩,q1,q2,I⟩:=loop n ⟨[.int .i64 n,.ptr h.n 0,.int .i64 0,.ptr hm.n 0,.tup [],.int .i64 n,.int .i64 0],16,.int .i64 0⟩ h3 ⟨Nat.le_refl _,fun c _=>rfl,Nat.le_refl _,by rw [Nat.sub_self];exact rm3,by simp,by simp,by simp,by simp,by simp⟩
 simp only at q2 I
 subst q2
 obtain ⟨_,xx,gn,w,p0,p2,p4,p15,p16⟩:=I
 rw [Nat.sub_zero,mix_full] at w
 have ra:sh.get h.n=_:=(xx h.n (by omega)).trans ra3
 have rq:sh.get hm.n=_:=(xx hm.n (by omega)).trans r3
 obtain ⟨h8,hh8⟩:∃ g,g=sh.put h.n (.cells [.sl h1.n 0 n (.ex n),.int .i64 0] 101 false):=⟨_,rfl⟩
 have r8:h8.get h.n=some (.cells [.sl h1.n 0 n (.ex n),.int .i64 0] 101 false):=by rw [hh8,get_put_same (H.get_lt ra)]
 have b8:h8.get h1.n=some (.cells (wordsV (flatP n).c) 137 false):=by rw [hh8,get_put_ne (by omega)];exact w
 have hsz:=sizes80_ok (n:Int) h1
 rw [show (decide (2≤(n:Int)) && decide ((n:Int)≤16))=true by rw [Bool.and_eq_true,decide_eq_true_eq,decide_eq_true_eq];omega] at hsz
 have hms:ms h1 137 2 [(.int .u16 0)] (.int .i64 n) (.int .i64 n)=some (.sl h1.n 0 n (.ex n),hm):=by
   simp only [ms]
   rw [if_pos ⟨by omega,by omega,by omega,by omega,trivial⟩,Int.toNat_natCast,zeros (flF n),← hhm]
 rw [w37,f37,s37]
 simp [nw,← hh1,hsz,hms,bl,fillW,splice,wrN_of (o:=0) get_new_same,← hh3,rd1_of r3,q1,p4,rdN_of (o:=0) (n:=2) rq (by simp),p2,wrN_of (o:=0) ra,← hh8,rdN_of (o:=0) (n:=2) r8 (by simp)]
 refine ⟨_,rfl,⟨.sl h1.n 0 n (.ex n),rfl,?_,fun y hy=>?_⟩,?_⟩
 · show SlR _ h8 _ _ 1 (tabN (flF n) n).length _
   rw [tabN_length]
   exact SlR.of b8 (by rw [wordsV_length,flatP,tabN_length];omega) (show h.n≤h1.n by omega)
 · obtain ⟨i,hi,rfl⟩:=mem_tabN hy
   have:=flF_le hi;omega
 · refine ⟨by rw [hh8,H.n_put];omega,fun c hc=>?_⟩
   rw [hh8,get_put_ne (by omega),xx c (by omega),x3.get c (by omega),xm.get c (by omega),x1.get c hc]
def soF (i:Nat):Nat:=32768 - 32768 / pw (i+1)
theorem soF_le (i:Nat):soF i≤32768:=Nat.sub_le _ _
theorem steep55_ok {n:Nat} (h2:2≤n) (h16:n≤16) (h:H):RT (fun w h'=>∃ vt,w=.tup [vt,.int .i64 0]∧NewT h.n h' vt (steepP n)∧Ext h h') (KW 38 [.int .i64 n] h):=by
 obtain ⟨h1,hh1⟩:∃ g,g=h.new (.cells [.nils,.int .i64 0] 101 false):=⟨_,rfl⟩
 have x1:Ext h h1:=by rw [hh1];exact (Ext.refl h).new _
 have n1:h1.n=h.n+1:=by rw [hh1,H.n_new]
 have r1:h1.get h.n=some (.cells [.nils,.int .i64 0] 101 false):=by rw [hh1,get_new_same]
 obtain ⟨hm,hhm⟩:∃ g,g=h1.new (.cells (wordsV (mix (soF) (fun _=>0) n 0)) 137 false):=⟨_,rfl⟩
 have xm:Ext h1 hm:=by rw [hhm];exact (Ext.refl h1).new _
 have nm:hm.n=h1.n+1:=by rw [hhm,H.n_new]
 have rm:hm.get h1.n=some (.cells (wordsV (mix (soF) (fun _=>0) n 0)) 137 false):=by rw [hhm,get_new_same]
 obtain ⟨h3,hh3⟩:∃ g,g=(hm.new (.cells [.nils,.int .i64 0] 101 false)).put hm.n (.cells [.sl h1.n 0 n (.ex n),.int .i64 0] 101 false):=⟨_,rfl⟩
 have x3:Ext hm h3:=by rw [hh3];exact ((Ext.refl hm).new _).put (Nat.le_refl _) _
 have n3:h3.n=hm.n+1:=by rw [hh3,H.n_put,H.n_new]
 have r3:h3.get hm.n=some (.cells [.sl h1.n 0 n (.ex n),.int .i64 0] 101 false):=by rw [hh3,get_put_same (by rw [H.n_new];omega)]
 have rm3:h3.get h1.n=_:=(x3.get _ (H.get_lt rm)).trans rm
 have ra3:h3.get h.n=_:=(x3.get _ (by omega)).trans ((xm.get _ (by omega)).trans r1)
 have loop:=loop_run (body:=l38_0 KW loopZ) (I54 h3 (soF) n h1.n hm.n h.n) (fun s=>s.x=.ex 0∧I54 h3 (soF) n h1.n hm.n h.n 0 s.e s.h)
   (fun k e g hi=>by
    obtain ⟨hk,xx,gn,w,p0,p2,p4,p15,p16⟩:=hi
    cases k with
    | zero =>
     simp [l38_0,p15,p16]
     exact ⟨rfl,hk,xx,gn,w,by simp [p0],by simp [p2],by simp [p4],by simp [p15],by simp [p16]⟩
    | succ k =>
     obtain ⟨i,hi⟩:∃ i,i=n - (k+1):=⟨_,rfl⟩
     have hi2:n - k=i+1:=by omega
     rw [← hi] at p16 w
     have hF:=soF_le i
     have z1:IntKind.i64.wrap ((i:Int)+1)=i+1:=wi64 (by omega) (by omega)
     have hset:=mix_set (soF) (fun _=>0) n i
     have hs2:=wordsV_set (mix (soF) (fun _=>0) n i) i (soF i)
     rw [hset] at hs2
     have hwr:=fun v=>wr1_of w (o:=i) (by rw [wn];omega) v
     obtain ⟨F,hFe⟩:∃ F,F=soF i:=⟨_,rfl⟩
     obtain ⟨Y,hY⟩:∃ Y,Y=32768 / pw (i+1):=⟨_,rfl⟩
     have hYl:Y≤32768:=by rw [hY];exact Nat.div_le_self _ _
     have hmin:min (i+1) IntKind.u16.bits=i+1:=Nat.min_eq_left (by rw [show IntKind.u16.bits=16 from rfl];omega)
     have t1:(32768:Int).fdiv (2 ^ (i+1))=(Y:Int):=by
      rw [Int.fdiv_eq_ediv_of_nonneg _ (Int.pow_nonneg (by decide)),hY,pw];simp
     have tn:((i:Int)+1).toNat=i+1:=by omega
     have hFY:F=32768 - Y:=by rw [hFe,soF,hY]
     rw [← hFe] at hF hs2
     have z4:IntKind.u16.wrap (32768 - (Y:Int))=F:=by rw [wu16 (by omega) (by omega)];omega
     have hq:g.get hm.n=_:=(xx hm.n (by omega)).trans r3
     obtain ⟨g2,hg2⟩:∃ g2,g2=g.put h1.n (.cells (wordsV (mix (soF) (fun _=>0) n (i+1))) 137 false):=⟨_,rfl⟩
     simp [l38_0,p15,p16,show (i:Int) < n by omega,show i < n by omega,p4,rd1_of hq,z1,show ¬ (i:Int)+1 < 0 by omega,tn,hmin,t1,z4,hwr,hs2,← hg2]
     exact ⟨k,Nat.lt_succ_self k,by omega,fun c hc=>by rw [hg2,get_put_ne hc,xx c hc],by rw [hg2,H.n_put];exact gn,by rw [hg2,get_put_same (H.get_lt w),hi2],by simp [p0],by simp [p2],by simp [p4],by simp [p15],by simp [hi2]⟩)
 obtain ⟨⟨sx,se,sh⟩,q1,q2,I⟩:=loop n ⟨[.int .i64 n,.ptr h.n 0,.int .i64 0,.ptr hm.n 0,.tup [],.int .i64 n,.int .i64 0],16,.int .i64 0⟩ h3 ⟨Nat.le_refl _,fun c _=>rfl,Nat.le_refl _,by rw [Nat.sub_self];exact rm3,by simp,by simp,by simp,by simp,by simp⟩
 simp only at q2 I
 subst q2
 obtain ⟨_,xx,gn,w,p0,p2,p4,p15,p16⟩:=I
 rw [Nat.sub_zero,mix_full] at w
 have rq:sh.get hm.n=_:=(xx hm.n (by omega)).trans r3
 have zn1:IntKind.i64.wrap ((n:Int) - 1)=((n - 1:Nat):Int):=by rw [wi64 (by omega) (by omega)];omega
 have hwr:=fun v=>wr1_of w (o:=n - 1) (by rw [wordsV_length,tabN_length];omega) v
 have hs2:(wordsV (tabN soF n)).set (n - 1) (.int .u16 32768)=wordsV ((tabN soF n).set (n - 1) 32768):=wordsV_set (tabN soF n) (n - 1) 32768
 have hst:(tabN soF n).set (n - 1) 32768=(steepP n).c:=by
   apply List.ext_getElem
   ·simp [steepP,tabN]
   ·intro i h1 h2
    have hi:i < n:=by simpa [tabN] using h1
    rw [List.getElem_set]
    simp only [steepP,tabN,List.getElem_map,List.getElem_range,stF,soF]
    by_cases e:n - 1=i
    ·rw [if_pos e,if_pos (by omega)]
    ·rw [if_neg e,if_neg (by omega)]
 rw [hst] at hs2
 obtain ⟨sh2,hsh2⟩:∃ g,g=sh.put h1.n (.cells (wordsV (steepP n).c) 137 false):=⟨_,rfl⟩
 have w2:sh2.get h1.n=some (.cells (wordsV (steepP n).c) 137 false):=by rw [hsh2,get_put_same (H.get_lt w)]
 have rq2:sh2.get hm.n=_:=(show sh2.get hm.n=sh.get hm.n by rw [hsh2,get_put_ne (by omega)]).trans rq
 have ra:sh2.get h.n=_:=(show sh2.get h.n=sh.get h.n by rw [hsh2,get_put_ne (by omega)]).trans ((xx h.n (by omega)).trans ra3)
 have hnl:n - 1 < n:=by omega
 obtain ⟨h8,hh8⟩:∃ g,g=sh2.put h.n (.cells [.sl h1.n 0 n (.ex n),.int .i64 0] 101 false):=⟨_,rfl⟩
 have r8:h8.get h.n=some (.cells [.sl h1.n 0 n (.ex n),.int .i64 0] 101 false):=by rw [hh8,get_put_same (H.get_lt ra)]
 have b8:h8.get h1.n=some (.cells (wordsV (steepP n).c) 137 false):=by rw [hh8,get_put_ne (by omega)];exact w2
 have hsz:=sizes80_ok (n:Int) h1
 rw [show (decide (2≤(n:Int)) && decide ((n:Int)≤16))=true by rw [Bool.and_eq_true,decide_eq_true_eq,decide_eq_true_eq];omega] at hsz
 have hms:ms h1 137 2 [(.int .u16 0)] (.int .i64 n) (.int .i64 n)=some (.sl h1.n 0 n (.ex n),hm):=by
   simp only [ms]
   rw [if_pos ⟨by omega,by omega,by omega,by omega,trivial⟩,Int.toNat_natCast,zeros (soF),← hhm]
 rw [w38,f38,s38]
 simp [nw,← hh1,hsz,hms,bl,fillW,splice,wrN_of (o:=0) get_new_same,← hh3,rd1_of r3,q1,p4,rd1_of rq,p0,zn1,hnl,hwr,hs2,← hsh2,rdN_of (o:=0) (n:=2) rq2 (by simp),p2,wrN_of (o:=0) ra,← hh8,rdN_of (o:=0) (n:=2) r8 (by simp)]
 refine ⟨_,rfl,⟨.sl h1.n 0 n (.ex n),rfl,?_,fun y hy=>?_⟩,?_⟩
 · show SlR _ h8 _ _ 1 (tabN (stF n) n).length _
   rw [tabN_length]
   exact SlR.of b8 (by rw [wordsV_length,steepP,tabN_length];omega) (show h.n≤h1.n by omega)
 · obtain ⟨i,hi,rfl⟩:=mem_tabN hy
   have:=stF_le n i;omega
 · refine ⟨by rw [hh8,H.n_put,hsh2,H.n_put];omega,fun c hc=>?_⟩
   rw [hh8,get_put_ne (by omega),hsh2,get_put_ne (by omega),xx c (by omega),x3.get c (by omega),xm.get c (by omega),x1.get c hc]
open Go.Zf (wi64)
def SH:List (Nat × Nat × Bool) :=
 [(8,10,false),(4,8,false),(3,2,false),(3,2,false),(4,13,false),(8,7,false),(1,13,false),(1,14,false),(1,8,false),(2,16,true),(1,2,false),(3,3,false),(3,9,false),(1,2,false),(3,3,false),(1,2,false),(3,4,false),(1,4,false),(2,11,true),(2,8,false),(1,3,false),(1,2,false),(4,2,false),(2,5,false),(2,7,false),(2,9,false),(2,11,false),(2,3,true),(10,4,true),(14,4,true),(6,2,false),(3,2,false)]
def cx (k:Nat):Nat:=(SH.getD k (0,0,false)).1
def vl (k:Nat):Nat:=(SH.getD k (0,0,false)).2.1
def stp (k:Nat):Bool:=(SH.getD k (0,0,false)).2.2
theorem cx_le {k:Nat} (h:k < 32):1≤cx k∧cx k≤14:=by
 have:∀ k,k < 32→1≤cx k∧cx k≤14:=by decide
 exact this k h
theorem vl_le {k:Nat} (h:k < 32):2≤vl k∧vl k≤16:=by
 have:∀ k,k < 32→2≤vl k∧vl k≤16:=by decide
 exact this k h
def tri (s:Nat × Nat × Bool):List V:=[.int .i64 s.1,.int .i64 s.2.1,.bool s.2.2]
def shV:List V:=SH.flatMap tri
theorem flat3 {α:Type} (f:α→List V) (hf:∀ a,(f a).length=3):∀ (l:List α) (k:Nat) (a:α),l[k]?=some a→((l.flatMap f).drop (k*3)).take 3=f a∧k*3+3≤(l.flatMap f).length
 | [],k,a,h=>by simp at h
 | x :: l,0,a,h=>by
   simp at h;subst h
   rw [List.flatMap_cons,Nat.zero_mul,List.drop_zero,List.take_append_of_le_length (by rw [hf];omega),List.take_of_length_le (by rw [hf];omega)]
   exact ⟨rfl,by rw [List.length_append,hf];omega⟩
 | x :: l,k+1,a,h=>by
   have ih:=flat3 f hf l k a (by simpa using h)
   rw [List.flatMap_cons,List.drop_append,hf,List.drop_of_length_le (by rw [hf];omega),List.nil_append,show (k+1)*3 - 3=k*3 by omega]
   exact ⟨ih.1,by rw [List.length_append,hf];omega⟩
theorem SH_get {k:Nat} (h:k < 32):SH[k]?=some (cx k,vl k,stp k):=by
 have:∀ k,k < 32→SH[k]?=some (cx k,vl k,stp k):=by decide
 exact this k h
theorem shV_at {k:Nat} (h:k < 32):(shV.drop (k*3)).take 3=[.int .i64 (cx k),.int .i64 (vl k),.bool (stp k)]:=(flat3 tri (fun _=>rfl) SH k _ (SH_get h)).1
theorem shV_len:shV.length=96:=by kernel_rfl
def zeroSh:List V:=(List.replicate 32 [V.int .i64 0,V.int .i64 0,V.bool false]).flatten
theorem zeroSh_len:zeroSh.length=96:=by kernel_rfl
theorem s53_eq (K:Oracle) (L:Looper) (h:H):s36 K L ⟨[V.und],0,V.und⟩ h=bf (stZ 96 (h.new (.cells zeroSh 95 false)) (.ptr h.n 0) (.agg shV)) fun _ h1=>some ⟨.rt,⟨[.ptr h.n 0],0,.ptr h.n 0⟩,h1⟩:=by
 have e1:s36 K L ⟨[V.und],0,V.und⟩ h=sq (bf (stZ 96 (h.new (.cells zeroSh 95 false)) (.ptr h.n 0) (.agg shV)) fun _ h1=>some ⟨.nm,⟨[.ptr h.n 0],0,.ptr h.n 0⟩,h1⟩) fun e h=>some ⟨.rt,e,h⟩:=by kernel_rfl
 rw [e1]
 cases stZ 96 (h.new (.cells zeroSh 95 false)) (.ptr h.n 0) (.agg shV) with
 | none=>rfl
 | some x=>obtain ⟨a,b⟩:=x;rfl
theorem shapes53_ok (h:H):RT (fun w h'=>w=.agg shV∧Ext h h') (KW 36 [] h):=by
 obtain ⟨g,hg⟩:∃ g,g=(h.new (.cells zeroSh 95 false)).put h.n (.cells shV 95 false):=⟨_,rfl⟩
 have g0:g.get h.n=some (.cells shV 95 false):=by rw [hg,get_put_same (by rw [H.n_new];omega)]
 have hw:(h.new (.cells zeroSh 95 false)).wrN h.n 0 shV=some g:=by
   rw [wrN_of (o:=0) get_new_same (by rw [shV_len,zeroSh_len];omega),hg,splice]
   simp [shV_len,zeroSh_len,List.drop_of_length_le]
 rw [w36,f36,s53_eq]
 simp [shV_len,hw,rdN_of (o:=0) (n:=96) g0 (by rw [shV_len];omega)]
 exact ⟨by rw [List.take_of_length_le (by rw [shV_len];omega)],by rw [hg];exact ((Ext.refl h).new _).put (Nat.le_refl _) _⟩
theorem shape33_ok (k:Int) (h:H):RT (fun w h'=>w=(if 0≤k∧k < 32 then .tup [.int .i64 (cx k.toNat),.int .i64 (vl k.toNat),.int .i64 0] else .tup [.int .i64 0,.int .i64 0,.int .i64 41])∧Ext h h') (KW 86 [.int .i64 k] h):=by
 rw [w86,f86,s86]
 by_cases h1:k < 0
 · simp [h1,gl_t]
   exact ⟨by rw [if_neg (by omega)],Ext.refl h⟩
 · by_cases h2:32≤k
   ·simp [h1,h2]
    exact ⟨by rw [if_neg (by omega)],Ext.refl h⟩
   ·obtain ⟨w,g,e1,rfl,x1⟩:=(shapes53_ok h).elim
    obtain ⟨n,rfl⟩:∃ n:Nat,k=n:=⟨k.toNat,by omega⟩
    have hn:n < 32:=by omega
    have hix:ixN 32 3 (.agg shV) (.int .i64 (n:Int))=some (.agg [.int .i64 (cx n),.int .i64 (vl n),.bool (stp n)]):=by
     simp only [ixN,Int.toNat_natCast]
     rw [if_pos ⟨by omega,by omega⟩,if_pos (by rw [shV_len];omega),shV_at hn]
    obtain ⟨g2,hg2⟩:∃ g2,g2=(g.new (.cells [.int .i64 0,.int .i64 0,.bool false] 94 false)).put g.n (.cells [.int .i64 (cx n),.int .i64 (vl n),.bool (stp n)] 94 false):=⟨_,rfl⟩
    have r2:g2.get g.n=some (.cells [.int .i64 (cx n),.int .i64 (vl n),.bool (stp n)] 94 false):=by rw [hg2,get_put_same (by rw [H.n_new];omega)]
    simp [h1,h2,show ¬ 32≤n by omega,e1,hix,nw,wrN_of (o:=0) get_new_same,splice,← hg2,rd1_of r2]
    exact ⟨by rw [if_pos (by omega)],by rw [hg2];exact (x1.new _).put x1.n _⟩
open Go.Zf (wi64)
def SetOk (S:List (List Tb)):Prop:=S.length=32∧∀ (k:Nat) (r:List Tb),S[k]?=some r→r.length=cx k∧∀ (i:Nat) (t:Tb),r[i]?=some t→t.c.length=vl k∧TabOk t
noncomputable instance (S:List (List Tb)):Decidable (SetOk S):=Classical.propDecidable _
def defT (k:Nat):Tb:=if stp k then steepP (vl k) else flatP (vl k)
def defR (k:Nat):List Tb:=List.replicate (cx k) (defT k)
def defS:List (List Tb):=(List.range 32).map defR
theorem tabN_nth (f:Nat→Nat) {m i:Nat} (h:i < m):nth (tabN f m) i=f i:=by
 rw [nth_of (by rw [tabN_length];exact h)];simp [tabN]
theorem flatP_ok {n:Nat} (h2:2≤n) (h16:n≤16):TabOk (flatP n):=by
 refine ⟨by simp only [flatP,tabN_length];omega,by simp [flatP],?_,?_⟩
 · intro i hi
   simp only [flatP,tabN_length] at hi ⊢
   rw [tabN_nth _ (by omega),tabN_nth _ hi]
   exact Nat.div_le_div_right (Nat.mul_le_mul_left _ (by omega))
 · simp only [flatP,tabN_length]
   rw [tabN_nth _ (by omega),flF,show n - 1+1=n by omega,Nat.mul_div_cancel _ (by omega)]
theorem steepP_ok {n:Nat} (h2:2≤n) (h16:n≤16):TabOk (steepP n):=by
 refine ⟨by simp only [steepP,tabN_length];omega,by simp [steepP],?_,?_⟩
 · intro i hi
   simp only [steepP,tabN_length] at hi ⊢
   rw [tabN_nth _ (by omega),tabN_nth _ hi]
   have h1:=stF_le n i
   unfold stF at h1 ⊢
   rw [if_neg (by omega)] at h1 ⊢
   split
   ·exact h1
   ·have:32768 / pw (i+1+1)≤32768 / pw (i+1):=by
     rw [← half_div (i+1) (by omega)];exact Nat.div_le_self _ _
    exact Nat.sub_le_sub_left this _
 · simp only [steepP,tabN_length]
   rw [tabN_nth _ (by omega),stF,if_pos (by omega)]
theorem defT_ok {k:Nat} (hk:k < 32):TabOk (defT k)∧(defT k).c.length=vl k:=by
 have:=vl_le hk
 unfold defT
 split
 · exact ⟨steepP_ok this.1 this.2,by simp [steepP,tabN_length]⟩
 · exact ⟨flatP_ok this.1 this.2,by simp [flatP,tabN_length]⟩
theorem defS_len:defS.length=32:=by simp [defS]
theorem defS_get {k:Nat} (hk:k < 32):defS[k]?=some (defR k):=by simp [defS,hk]
theorem defS_ok:SetOk defS:=by
 refine ⟨defS_len,fun k r hr=>?_⟩
 have hk:k < 32:=by
   by_cases e:k < 32
   ·exact e
   ·rw [List.getElem?_eq_none (by rw [defS_len];omega)] at hr;cases hr
 rw [defS_get hk] at hr
 cases hr
 refine ⟨by simp [defR],fun i t ht=>?_⟩
 have:t=defT k:=by
   unfold defR at ht
   rw [List.getElem?_replicate] at ht
   split at ht
   ·cases ht;rfl
   ·cases ht
 subst this
 exact ⟨(defT_ok hk).2,(defT_ok hk).1⟩
def RowW (D:Nat→Prop) (h:H) (v:V) (b:Nat) (r:List Tb):Prop :=
 (v=.nils∧r=[])∨∃ k c,v=.sl b 0 r.length k∧h.get b=some (.cells c tT false)∧c.length=r.length*2∧D b∧Els D h c r∧CapOk 2 r.length k
def RowsW (D:Nat→Prop) (h:H) (cs:List V) (S:List (List Tb)) (B:Nat→Nat):Prop :=
 (∀ (k:Nat) (r:List Tb),S[k]?=some r→∃ vr,cs[k]?=some vr∧RowW D h vr (B k) r)∧∀ i j,i < j→j < S.length→B i < B j
def SetW (D:Nat→Prop) (h:H) (v:V) (S:List (List Tb)):Prop :=
 ∃ cs B,((v=.nils∧S=[]∧cs=[])∨∃ b k,v=.sl b 0 S.length k∧h.get b=some (.cells cs tR false)∧cs.length=S.length∧D b∧CapOk 1 S.length k)∧RowsW D h cs S B
section setw
variable {D E:Nat→Prop} {h h':H} {v:V}
theorem RowW.rowR {b:Nat} {r:List Tb} (a:RowW D h v b r):RowR D h v r:=by
 rcases a with ⟨rfl,rfl⟩ | ⟨k,c,h1,h2,h3,h4,h5,h6⟩
 · exact ⟨[],SlR.nil _ _ _ _,Els.nil _ _⟩
 · exact ⟨c,by rw [h1];exact SlR.of h2 h3 h4 h6,h5⟩
theorem RowW.keep {b:Nat} {r:List Tb} (a:RowW D h v b r) (hk:∀ b c t,D b→t=tU∨t=tT→h.get b=some (.cells c t false)→h'.get b=h.get b):RowW D h' v b r:=by
 rcases a with a | ⟨k,c,h1,h2,h3,h4,h5,h6⟩
 · exact .inl a
 · exact .inr ⟨k,c,h1,by rw [hk b c tT h4 (.inr rfl) h2,h2],h3,h4,h5.keep (fun b c hd hb=>hk b c tU hd (.inl rfl) hb),h6⟩
theorem RowW.mono {b:Nat} {r:List Tb} (a:RowW D h v b r) (hd:∀ b,b < h.n→D b→E b):RowW E h v b r:=by
 rcases a with a | ⟨k,c,h1,h2,h3,h4,h5,h6⟩
 · exact .inl a
 · exact .inr ⟨k,c,h1,h2,h3,hd _ (H.get_lt h2) h4,h5.mono hd,h6⟩
theorem RowsW.keep {cs:List V} {S:List (List Tb)} {B:Nat→Nat} (a:RowsW D h cs S B) (hk:∀ b c t,D b→t=tU∨t=tT→h.get b=some (.cells c t false)→h'.get b=h.get b):RowsW D h' cs S B :=
 ⟨fun k r hr=>by obtain ⟨vr,h1,h2⟩:=a.1 k r hr;exact ⟨vr,h1,h2.keep hk⟩,a.2⟩
theorem RowsW.mono {cs:List V} {S:List (List Tb)} {B:Nat→Nat} (a:RowsW D h cs S B) (hd:∀ b,b < h.n→D b→E b):RowsW E h cs S B :=
 ⟨fun k r hr=>by obtain ⟨vr,h1,h2⟩:=a.1 k r hr;exact ⟨vr,h1,h2.mono hd⟩,a.2⟩
theorem SetW.keep {S:List (List Tb)} (a:SetW D h v S) (hk:∀ b,D b→b < h.n→h'.get b=h.get b):SetW D h' v S:=by
 obtain ⟨cs,B,h1,h2⟩:=a
 refine ⟨cs,B,?_,h2.keep fun b c t hd _ hb=>hk b hd (H.get_lt hb)⟩
 rcases h1 with a | ⟨b,k,a1,a2,a3,a4,a5⟩
 · exact .inl a
 · exact .inr ⟨b,k,a1,by rw [hk b a4 (H.get_lt a2),a2],a3,a4,a5⟩
theorem SetW.ext {S:List (List Tb)} (a:SetW D h v S) (x:Ext h h'):SetW D h' v S:=a.keep fun b _ hb=>x.get b hb
theorem SetW.mono {S:List (List Tb)} (a:SetW D h v S) (hd:∀ b,b < h.n→D b→E b):SetW E h v S:=by
 obtain ⟨cs,B,h1,h2⟩:=a
 refine ⟨cs,B,?_,h2.mono hd⟩
 rcases h1 with a | ⟨b,k,a1,a2,a3,a4,a5⟩
 · exact .inl a
 · exact .inr ⟨b,k,a1,a2,a3,hd _ (H.get_lt a2) a4,a5⟩
theorem SetW.setR {S:List (List Tb)} (a:SetW D h v S):SetR D h v S:=by
 obtain ⟨cs,B,h1,h2⟩:=a
 refine ⟨cs,?_,fun k r hr=>by obtain ⟨vr,k1,k2⟩:=h2.1 k r hr;exact ⟨vr,k1,k2.rowR⟩⟩
 rcases h1 with ⟨rfl,rfl,rfl⟩ | ⟨b,k,rfl,a2,a3,a4,a5⟩
 · exact SlR.nil _ _ _ _
 · exact SlR.of a2 (by omega) a4 a5
theorem pushR {p q:Nat} {g:H} {cs:List V} {S:List (List Tb)} {B:Nat→Nat} {vr:V} {r:List Tb} (G:GrowV p g v tR 1 cs S.length) (e:RowsW D g cs S B) (hB:∀ i,i < S.length→B i < q) (R:∃ bb,RowW D g vr bb r∧q≤bb∧bb≤g.n) (hp:p≤g.n) (hq:q≤g.n) (hl:S.length < 1000) :
   ∃ v' g' B',apZ 98 1 24 (g.new (.cells [vr] 98 false)) v (.sl g.n 0 1 (.ex 1))=some (v',g')∧GrowV p g' v' tR 1 (cs ++ [vr]) (S ++ [r]).length∧RowsW D g' (cs ++ [vr]) (S ++ [r]) B'∧(∀ i,i < (S ++ [r]).length→B' i < g'.n)∧g.n≤g'.n∧(∀ c,c < g.n→(∀ o n k,v ≠ .sl c o n k)→g'.get c=g.get c):=by
 have g1:=G.ext ((Ext.refl g).new (.cells [vr] 98 false))
 obtain ⟨v',g',k1,k2,k3,k4',k5⟩:=apZ_grow (y:=.sl g.n 0 1 (.ex 1)) (m:=1) (new:=[vr]) (bytes:=24) g1 (by rw [H.n_new];omega) rfl (by
   show H.rdN _ _ _ _=_
   rw [rdN_of get_new_same (by simp)];rfl) (by simp) (by omega)
 have k4:∀ c,c < g.n→(∀ o n k,v ≠ .sl c o n k)→g'.get c=g.get c:=fun c hc hv=>by rw [k4' c (by rw [H.n_new];omega) hv,get_new_lt hc]
 rw [H.n_new] at k3
 have hcs:cs.length=S.length:=by
   rcases G with ⟨_,h2,rfl⟩ | ⟨b,_,_,h3,_⟩
   ·simp [h2]
   ·omega
 have hty:∀ b c t,D b→t=tU∨t=tT→g.get b=some (.cells c t false)→g'.get b=g.get b:=by
   intro b c t hd ht hb
   refine k4 b (H.get_lt hb) ?_
   intro o n k ev
   rcases G with ⟨h1,_,_⟩ | ⟨b',h1,h2,_⟩
   ·rw [h1] at ev;cases ev
   ·rw [h1] at ev;cases ev;rw [h2] at hb
    simp only [Option.some.injEq,Blk.cells.injEq] at hb
    rcases ht with rfl | rfl <;> (obtain ⟨_,hb,_⟩:=hb;cases hb)
 obtain ⟨bb,hbb,hbq,hbn⟩:∃ bb,RowW D g vr bb r∧q≤bb∧bb < g'.n:=by
   obtain ⟨bb,a1,a2,a3⟩:=R
   exact ⟨bb,a1,a2,by omega⟩
 refine ⟨v',g',fun i=>if i=S.length then bb else B i,k1,by rw [List.length_append];exact k2,⟨fun k r' hr=>?_,fun i j hij hj=>?_⟩,fun i hi=>?_,by omega,k4⟩
 · by_cases ek:k < S.length
   ·rw [List.getElem?_append_left ek] at hr
    obtain ⟨vr',j1,j2⟩:=e.1 k r' hr
    refine ⟨vr',by rw [List.getElem?_append_left (by omega),j1],?_⟩
    simp only [if_neg (show k ≠ S.length by omega)]
    exact j2.keep hty
   ·have ek2:k=S.length:=by
     by_cases e2:k=S.length
     ·exact e2
     ·rw [List.getElem?_eq_none (by simp;omega)] at hr;cases hr
    subst ek2
    simp at hr
    subst hr
    refine ⟨vr,by rw [List.getElem?_append_right (by omega),hcs];simp,?_⟩
    simp only [if_true]
    exact hbb.keep hty
 · simp only [List.length_append,List.length_cons,List.length_nil] at hj
   by_cases ej:j=S.length
   ·simp only [if_neg (show i ≠ S.length by omega),if_pos ej]
    have:=hB i (by omega);omega
   ·simp only [if_neg (show i ≠ S.length by omega),if_neg ej]
    exact e.2 i j hij (by omega)
 · simp only [List.length_append,List.length_cons,List.length_nil] at hi
   by_cases ei:i=S.length
   ·simp only [if_pos ei];exact hbn
   ·simp only [if_neg ei]
    have:=hB i (by omega);omega
theorem splice_get {cs:List V} {o j:Nat} {x y:V} (hl:o+2≤cs.length):(splice cs o [x,y])[j]?=if j=o then some x else if j=o+1 then some y else cs[j]?:=by
 unfold splice
 by_cases h1:j < o
 · rw [List.getElem?_append_left (by rw [List.length_take];omega),List.getElem?_take,if_pos h1,if_neg (by omega),if_neg (by omega)]
 · rw [List.getElem?_append_right (by rw [List.length_take];omega),List.length_take,Nat.min_eq_left (by omega)]
   by_cases h2:j=o
   ·rw [if_pos h2,h2,Nat.sub_self];rfl
   ·by_cases h3:j=o+1
    ·rw [if_neg h2,if_pos h3,h3,Nat.add_sub_cancel_left];rfl
    ·rw [if_neg h2,if_neg h3,List.getElem?_append_right (by simp;omega),List.getElem?_drop]
     congr 1
     simp;omega
theorem splice_len {cs:List V} {o:Nat} {vs:List V} (hl:o+vs.length≤cs.length):(splice cs o vs).length=cs.length:=by
 unfold splice;simp;omega
theorem Els.set {cs:List V} {r:List Tb} {i:Nat} {vc:V} {t:Tb} (a:Els D h cs r) (hl:cs.length=r.length*2) (hi:i < r.length) (u:U16 D h vc t.c):Els D h (splice cs (i*2) [vc,.int .i64 t.n]) (r.set i t):=by
 intro j s hj
 rw [List.getElem?_set] at hj
 rw [splice_get (by omega),splice_get (by omega)]
 by_cases e:i=j
 · subst e
   rw [if_pos rfl,if_pos hi] at hj
   cases hj
   exact ⟨vc,by rw [if_pos (by omega)],by rw [if_neg (by omega),if_pos (by omega)],u⟩
 · rw [if_neg e] at hj
   obtain ⟨v,h1,h2,h3⟩:=a j s hj
   exact ⟨v,by rw [if_neg (by omega),if_neg (by omega),h1],by rw [if_neg (by omega),if_neg (by omega),h2],h3⟩
end setw
open Go.Zf (wi64)
def defK (k:Nat):List (List Tb):=(List.range k).map defR
theorem defK_len (k:Nat):(defK k).length=k:=by simp [defK]
theorem defK_succ (k:Nat):defK (k+1)=defK k ++ [defR k]:=by simp [defK,List.range_succ]
def SetG (p Q:Nat) (g:H) (S:List (List Tb)):Prop :=
 ∃ ov cs B,g.get Q=some (.cells [ov] 30 false)∧GrowV p g ov tR 1 cs S.length∧RowsW (fun b=>p≤b) g cs S B∧∀ i,i < S.length→B i < g.n
theorem SetG.keep {p Q:Nat} {g g':H} {S:List (List Tb)} (a:SetG p Q g S) (hQ:Q < p) (hn:g.n≤g'.n) (hk:∀ c,c < g.n→g'.get c=g.get c):SetG p Q g' S:=by
 obtain ⟨ov,cs,B,h1,h2,h3,h4⟩:=a
 exact ⟨ov,cs,B,by rw [hk _ (H.get_lt h1),h1],h2.keep fun c o m k e=>hk c (h2.under _ _ _ _ e),h3.keep fun b c t _ _ hb=>hk b (H.get_lt hb),fun i hi=>by have:=h4 i hi;omega⟩
theorem SetG.push {p Q:Nat} {g g':H} {S:List (List Tb)} {v:V} {r:List Tb} (a:SetG p Q g S) (hQ:Q < p) (hg:∀ c,c < g.n→g'.get c=g.get c) (hn:g.n≤g'.n) (hp:p≤g.n) (R:∃ bb,RowW (fun b=>p≤b) g' v bb r∧g.n≤bb∧bb≤g'.n) (hl:S.length < 1000) :
   ∃ ov v' g1 g2,g'.get Q=some (.cells [ov] 30 false)∧apZ 98 1 24 (g'.new (.cells [v] 98 false)) ov (.sl g'.n 0 1 (.ex 1))=some (v',g1)∧g1.wr1 Q 0 v'=some g2∧(∀ h b o,stZ 1 h (.ptr b o) v'=(h.wr1 b o v').bind fun h'=>some (.und,h'))∧SetG p Q g2 (S ++ [r])∧(∀ c,c < p→c ≠ Q→g2.get c=g.get c)∧g'.n≤g2.n∧(∀ {β:Type} (k:Option β),ck (some ov) ov k=k):=by
 obtain ⟨ov,cs,B,h1,h2,h3,h4⟩:=a
 replace h2:GrowV p g' ov tR 1 cs S.length:=h2.keep fun c o m k e=>hg c (h2.under _ _ _ _ e)
 replace h3:RowsW (fun b=>p≤b) g' cs S B:=h3.keep fun b c t _ _ hb=>hg b (H.get_lt hb)
 replace h1:g'.get Q=some (.cells [ov] 30 false):=by rw [hg _ (H.get_lt h1),h1]
 obtain ⟨v',g1,B',k1,k2,k3,k4,k5,k6⟩:=pushR (q:=g.n) h2 h3 h4 R (by omega) hn hl
 have hQ1:g1.get Q=some (.cells [ov] 30 false):=by rw [k6 Q (by omega) (h2.fresh.ne hQ),h1]
 obtain ⟨g2,hg2⟩:∃ g2,g2=g1.put Q (.cells [v'] 30 false):=⟨_,rfl⟩
 have n2:g2.n=g1.n:=by rw [hg2,H.n_put]
 refine ⟨ov,v',g1,g2,h1,k1,by rw [wr1_of hQ1 (by simp),hg2];rfl,k2.stZ,⟨v',cs ++ [v],B',by rw [hg2,get_put_same (H.get_lt hQ1)],?_,?_,fun i hi=>by have:=k4 i hi;omega⟩,fun c hc hcq=>by rw [hg2,get_put_ne hcq,k6 c (by omega) (h2.fresh.ne hc),hg c (by omega)],by omega,fun k=>by simp [ck,h2.same]⟩
 · rw [hg2];exact k2.put (k2.fresh.ne hQ)
 · refine k3.keep fun b c t hb ht hbc=>?_
   rw [hg2,get_put_ne];rintro rfl;have hb:p≤b:=hb;omega
theorem SetG.nil {p Q:Nat} {g:H} (h:g.get Q=some (.cells [.nils] 30 false)):SetG p Q g [] :=
 ⟨.nils,[],fun _=>0,h,GrowV.nil _ _ _ _,⟨fun k r hr=>by simp at hr,fun i j _ hj=>by simp at hj⟩,fun i hi=>by simp at hi⟩
theorem SetG.setW {p Q:Nat} {g:H} {S:List (List Tb)} (a:SetG p Q g S):∃ v,g.get Q=some (.cells [v] 30 false)∧SetW (fun b=>p≤b) g v S:=by
 obtain ⟨ov,cs,B,h1,h2,h3,h4⟩:=a
 refine ⟨ov,h1,cs,B,?_,h3⟩
 rcases h2 with ⟨e1,e2,e3⟩ | ⟨b,e1,e2,e3,e4⟩
 · exact .inl ⟨e1,List.length_eq_zero_iff.mp e2,e3⟩
 · exact .inr ⟨b,_,e1,e2,by omega,e4,rfl⟩
open Go.Zf (wi64)
theorem reps_len (n:Nat) (l:List V):(reps n l).length=n*l.length:=by
 induction n with
 | zero=>simp [reps]
 | succ n ih=>simp [reps,ih,Nat.add_mul];omega
theorem Els.zeros (D:Nat→Prop) (h:H):∀ n:Nat,Els D h (reps n [V.nils,V.int .i64 0]) (List.replicate n ⟨[],0⟩)
 | 0=>fun i t hi=>by simp at hi
 | n+1=>fun i t hi=>by
   have ih:=Els.zeros D h n
   cases i with
   | zero =>
    simp [List.replicate_succ] at hi
    subst hi
    exact ⟨.nils,rfl,rfl,SlR.nil _ _ _ _,fun x hx=>by simp at hx⟩
   | succ i =>
    rw [List.replicate_succ] at hi
    obtain ⟨vc,h1,h2,h3⟩:=ih i t (by simpa using hi)
    refine ⟨vc,?_,?_,h3⟩
    ·show (V.nils :: V.int .i64 0 :: reps n _)[2*(i+1)]?=_
     rw [show 2*(i+1)=2*i+1+1 by omega];simpa using h1
    ·show (V.nils :: V.int .i64 0 :: reps n _)[2*(i+1)+1]?=_
     rw [show 2*(i+1)+1=2*i+1+1+1 by omega];simpa using h2
def rowK (k c:Nat):List Tb:=(List.range (cx k)).map fun i=>if i < c then defT k else ⟨[],0⟩
theorem rowK_len (k c:Nat):(rowK k c).length=cx k:=by simp [rowK]
theorem rowK_zero (k:Nat):rowK k 0=List.replicate (cx k) ⟨[],0⟩:=by
 apply List.ext_getElem
 · simp [rowK]
 · intro i h1 h2;simp [rowK]
theorem rowK_all (k:Nat):rowK k (cx k)=defR k:=by
 apply List.ext_getElem
 · simp [rowK,defR]
 · intro i h1 h2
   have:i < cx k:=by simpa [rowK] using h1
   simp [rowK,defR,this]
theorem rowK_set (k c:Nat):(rowK k c).set c (defT k)=rowK k (c+1):=by
 apply List.ext_getElem
 · simp [rowK]
 · intro i h1 h2
   rw [List.getElem_set]
   simp only [rowK,List.getElem_map,List.getElem_range]
   by_cases e:c=i
   ·subst e;simp
   ·simp only [e,if_false]
    by_cases h:i < c
    ·simp [h,Nat.lt_succ_of_lt h]
    ·rw [if_neg h,if_neg (by omega)]
structure I27 (h0:H) (q k b sp:Nat) (n:Nat) (e:E) (g:H) (e0:E):Prop where
 hn:n≤cx k
 x:∀ c,c < h0.n→c ≠ b→g.get c=h0.get c
 gn:h0.n≤g.n
 r:∃ cs,g.get b=some (.cells cs tT false)∧cs.length=cx k*2∧Els (fun c=>q≤c) g cs (rowK k (cx k - n))
 e3:e.s [0,1,3,4,5,6,7,8,17,18] 3=.ptr sp 0
 e4:e.s [0,1,3,4,5,6,7,8,17,18] 4=.fn (.func (if stp k then 38 else 37)) [] []
 e5:e.s [0,1,3,4,5,6,7,8,17,18] 5=.sl b 0 (cx k) (.ex (cx k))
 e17:e.s [0,1,3,4,5,6,7,8,17,18] 17=.int .i64 (cx k)
 e18:e.s [0,1,3,4,5,6,7,8,17,18] 18=.int .i64 ((cx k - n:Nat):Int)
 ke:Keeps [0,1,3,4,5,6,7,8,17,18] [0,1,7,8] e e0
theorem both_ok {k:Nat} (hk:k < 32) (h:H):RT (fun w h'=>∃ vt,w=.tup [vt,.int .i64 0]∧NewT h.n h' vt (defT k)∧Ext h h') (KW (if stp k then 38 else 37) [.int .i64 (vl k)] h):=by
 have hv:=vl_le hk
 unfold defT
 cases stp k with
 | false=>exact flat54_ok hv.1 hv.2 h
 | true=>exact steep55_ok hv.1 hv.2 h
theorem defT_n (k:Nat):(defT k).n=0:=by unfold defT;cases stp k <;> rfl
theorem loop27 {h0:H} {q k b sp:Nat} {y:V} (hk:k < 32) (hsp:h0.get sp=some (.cells [.int .i64 (cx k),.int .i64 (vl k),y] 94 false)) (hsb:sp ≠ b) (hb:b < h0.n) (hq:q≤h0.n) {e e0:E} {g:H} (hi:I27 h0 q k b sp (cx k) e g e0) :
   ∃ e' g',loopZ (l9_0 KW loopZ) e g=some ⟨.ex 2,e',g'⟩∧I27 h0 q k b sp 0 e' g' e0:=by
 have hv:=vl_le hk
 have hc14:=cx_le hk
 have loop:=loop_run (body:=l9_0 KW loopZ) (fun n e g=>I27 h0 q k b sp n e g e0) (fun s=>s.x=.ex 2∧I27 h0 q k b sp 0 s.e s.h e0)
   (fun n e g hi=>by
    obtain ⟨hn,x,gn,⟨cs,B,L,G⟩,e3,e4,e5,e17,e18,ke⟩:=hi
    have i0:=ke 0 (by simp);have i1:=ke 1 (by simp);have i7:=ke 7 (by simp);have i8:=ke 8 (by simp)
    cases n with
    | zero =>
     simp [l9_0,e17,e18]
     exact ⟨rfl,hn,x,gn,⟨cs,B,L,G⟩,by simp [e3],by simp [e4],by simp [e5],by simp [e17],by simp [e18],fun i hm=>by
      simp only [List.mem_cons,List.not_mem_nil,or_false] at hm
      rcases hm with rfl | rfl | rfl | rfl <;> simp [i0,i1,i7,i8]⟩
    | succ n =>
     obtain ⟨c,hc⟩:∃ c,c=cx k - (n+1):=⟨_,rfl⟩
     have hc2:cx k - n=c+1:=by omega
     rw [← hc] at e18 G
     have z1:IntKind.i64.wrap ((c:Int)+1)=c+1:=wi64 (by omega) (by omega)
     have gsp:g.get sp=_:=(x sp (H.get_lt hsp) hsb).trans hsp
     obtain ⟨w,g1,a1,vt,rfl,⟨vc,rfl,U⟩,x1⟩:=(both_ok hk g).elim
     rw [defT_n] at a1
     have B1:g1.get b=_:=(x1.get _ (H.get_lt B)).trans B
     have G1:=(G.ext x1).set (i:=c) (vc:=vc) (t:=defT k) (by rw [L,rowK_len]) (by rw [rowK_len];omega) (U.mono fun d _ hd=>Nat.le_trans (Nat.le_trans hq gn) hd)
     rw [rowK_set,defT_n] at G1
     obtain ⟨g2,hg2⟩:∃ g2,g2=g1.put b (.cells (splice cs (c*2) [vc,.int .i64 0]) 101 false):=⟨_,rfl⟩
     have hw:g1.wrN b (c*2) [vc,.int .i64 0]=some g2:=by rw [wrN_of B1 (by simp;omega),hg2]
     have G2:Els (fun c=>q≤c) g2 (splice cs (c*2) [vc,.int .i64 0]) (rowK k (c+1)):=G1.keep fun d cd _ hd=>by
      rw [hg2,get_put_ne];rintro rfl;rw [B1] at hd;cases hd
     have n1:=x1.n
     simp [l9_0,e17,e18,show c < cx k by omega,show (c:Int) < cx k by omega,e3,rd1_of gsp,e4,cdy_fn,a1,e5,hw,z1]
     exact ⟨n,Nat.lt_succ_self n,by omega,fun d hd hdb=>by rw [hg2,get_put_ne hdb,x1.get d (by omega),x d hd hdb],by rw [hg2,H.n_put];omega,⟨_,by rw [hg2,get_put_same (H.get_lt B1)],by rw [splice_len (by simp;omega),L],by rw [hc2];exact G2⟩,by simp [e3],by simp [e4],by simp [e5],by simp [e17],by simp [hc2],fun i hm=>by
      simp only [List.mem_cons,List.not_mem_nil,or_false] at hm
      rcases hm with rfl | rfl | rfl | rfl <;> simp [i0,i1,i7,i8]⟩)
 obtain ⟨⟨x,e',g'⟩,r1,r2,r3⟩:=loop (cx k) e g hi
 simp only at r2 r3
 subst r2
 exact ⟨e',g',r1,r3⟩
structure O27 (h0:H) (P Q:Nat) (n:Nat) (e:E) (g:H):Prop where
 hn:n≤32
 x:∀ c,c < h0.n→c ≠ Q→g.get c=h0.get c
 gn:h0.n≤g.n
 b:SetG h0.n Q g (defK (32 - n))
 e0:e.s [0,1,3,4,5,6,7,8,17,18] 0=.ptr P 0
 e1:e.s [0,1,3,4,5,6,7,8,17,18] 1=.ptr Q 0
 e7:e.s [0,1,3,4,5,6,7,8,17,18] 7=.agg shV
 e8:e.s [0,1,3,4,5,6,7,8,17,18] 8=.int .i64 ((32 - n:Nat):Int)
theorem shV_ix {n:Nat} (hn:n < 32):ixN 32 3 (.agg shV) (.int .i64 (n:Int))=some (.agg [.int .i64 (cx n),.int .i64 (vl n),.bool (stp n)]):=by
 simp only [ixN,Int.toNat_natCast]
 rw [if_pos ⟨by omega,by omega⟩,if_pos (by rw [shV_len];omega),shV_at hn]
theorem default27_ok (h:H):RT (fun w h'=>∃ v,w=.agg [v]∧SetW (fun b=>h.n≤b) h' v defS∧Ext h h') (KW 9 [] h):=by
 obtain ⟨h1,hh1⟩:∃ g,g=h.new (.cells [.nils] 30 false):=⟨_,rfl⟩
 obtain ⟨h2,hh2⟩:∃ g,g=h1.new (.cells [.nils] 30 false):=⟨_,rfl⟩
 have x1:Ext h h1:=by rw [hh1];exact (Ext.refl h).new _
 have x2:Ext h1 h2:=by rw [hh2];exact (Ext.refl h1).new _
 have n1:h1.n=h.n+1:=by rw [hh1,H.n_new]
 have n2:h2.n=h1.n+1:=by rw [hh2,H.n_new]
 obtain ⟨w,h3,e53,rfl,x3⟩:=(shapes53_ok h2).elim
 have n3:=x3.n
 have gP:h3.get h.n=some (.cells [.nils] 30 false):=by rw [x3.get _ (by omega),x2.get _ (by omega),hh1,get_new_same]
 have gQ:h3.get h1.n=some (.cells [.nils] 30 false):=by rw [x3.get _ (by omega),hh2,get_new_same]
 have loop:=loop_run (body:=l9_1 KW loopZ) (O27 h3 h.n h1.n) (fun s=>s.x=.ex 0∧O27 h3 h.n h1.n 0 s.e s.h)
   (fun n e g hi=>by
    obtain ⟨hn,x,gn,b,e0,e1,e7,e8⟩:=hi
    cases n with
    | zero =>
     simp [l9_1,e8]
     exact ⟨rfl,hn,x,gn,b,by simp [e0],by simp [e1],by simp [e7],by simp [e8]⟩
    | succ n =>
     obtain ⟨k,hk⟩:∃ k,k=32 - (n+1):=⟨_,rfl⟩
     have hk2:32 - n=k+1:=by omega
     have hkl:k < 32:=by omega
     rw [← hk] at e8 b
     have hc14:=cx_le hkl
     have z1:IntKind.i64.wrap ((k:Int)+1)=k+1:=wi64 (by omega) (by omega)
     obtain ⟨g1,hg1⟩:∃ g1,g1=(g.new (.cells [.int .i64 0,.int .i64 0,.bool false] 94 false)).put g.n (.cells [.int .i64 (cx k),.int .i64 (vl k),.bool (stp k)] 94 false):=⟨_,rfl⟩
     have y1:Ext g g1:=by rw [hg1];exact ((Ext.refl g).new _).put (Nat.le_refl _) _
     have m1:g1.n=g.n+1:=by rw [hg1,H.n_put,H.n_new]
     have r1:g1.get g.n=some (.cells [.int .i64 (cx k),.int .i64 (vl k),.bool (stp k)] 94 false):=by rw [hg1,get_put_same (by rw [H.n_new];omega)]
     obtain ⟨g2,hg2⟩:∃ g2,g2=g1.new (.cells (reps (cx k) [.nils,.int .i64 0]) 101 false):=⟨_,rfl⟩
     have y2:Ext g1 g2:=by rw [hg2];exact (Ext.refl g1).new _
     have m2:g2.n=g1.n+1:=by rw [hg2,H.n_new]
     have r2:g2.get g1.n=some (.cells (reps (cx k) [.nils,.int .i64 0]) 101 false):=by rw [hg2,get_new_same]
     have r1':g2.get g.n=_:=(y2.get _ (H.get_lt r1)).trans r1
     have hms:ms g1 101 32 [.nils,.int .i64 0] (.int .i64 (cx k)) (.int .i64 (cx k))=some (.sl g1.n 0 (cx k) (.ex (cx k)),g2):=by
      simp only [ms]
      rw [if_pos ⟨by omega,by omega,by omega,by omega,trivial⟩,Int.toNat_natCast,← hg2]
     obtain ⟨f,g3,j1,I⟩:=loop27 (h0:=g2) (q:=g.n) (k:=k) (b:=g1.n) (sp:=g.n) (y:=.bool (stp k)) hkl r1' (by omega) (by omega) (by omega)
      (e0:=⟨[.ptr h.n 0,.ptr h1.n 0,.ptr g.n 0,.fn (.func (if stp k then 38 else 37)) [] [],.sl g1.n 0 (cx k) (.ex (cx k)),e.s [0,1,3,4,5,6,7,8,17,18] 6,.agg shV,.int .i64 k,.int .i64 (cx k),.int .i64 0],18,.int .i64 0⟩)
      (e:=⟨[.ptr h.n 0,.ptr h1.n 0,.ptr g.n 0,.fn (.func (if stp k then 38 else 37)) [] [],.sl g1.n 0 (cx k) (.ex (cx k)),e.s [0,1,3,4,5,6,7,8,17,18] 6,.agg shV,.int .i64 k,.int .i64 (cx k),.int .i64 0],18,.int .i64 0⟩) (g:=g2)
      ⟨Nat.le_refl _,fun _ _ _=>rfl,Nat.le_refl _,⟨_,r2,by rw [reps_len];rfl,by rw [Nat.sub_self,rowK_zero];exact Els.zeros _ _ _⟩,by simp,by simp,by simp,by simp,by simp,fun i _=>rfl⟩
     obtain ⟨_,x',gn',⟨cs,B,L,G⟩,f3,f4,f5,f17,f18,ke⟩:=I
     have i0:=ke 0 (by simp);have i1:=ke 1 (by simp);have i7:=ke 7 (by simp);have i8:=ke 8 (by simp)
     simp at i0 i1 i7 i8
     rw [Nat.sub_zero,rowK_all] at G
     have hRW:∃ bb,RowW (fun b=>h3.n≤b) g3 (.sl g1.n 0 (cx k) (.ex (cx k))) bb (defR k)∧g.n≤bb∧bb≤g3.n :=
      ⟨g1.n,.inr ⟨.ex (cx k),cs,by simp [defR],B,by rw [L];simp [defR],(show h3.n≤g1.n by omega),G.mono (fun b _ hb=>Nat.le_trans gn hb),by simp [CapOk,defR]⟩,by omega,by omega⟩
     obtain ⟨ov,v',g4,g5,c1,c2,c3,c4,c5,c6,c7,c8⟩:=b.push (g':=g3) (by omega) (fun c hc=>by rw [x' c (by omega) (by omega),y2.get c (by omega),y1.get c hc]) (by omega) gn hRW (by rw [defK_len];omega)
     cases hs:stp k with
     | false =>
      rw [hs] at j1 hg1 r1
      simp only [Bool.false_eq_true,if_false] at j1
      simp [l9_1,e8,hkl,show (k:Int) < 32 by omega,e7,shV_ix hkl,hs,nw,wrN_of (o:=0) get_new_same,splice,← hg1,rd1_of r1,hms,e0,e1,j1,i1,rd1_of c1,f5,bs,fillW,c2,c4,c3,i8,z1]
      exact ⟨n,Nat.lt_succ_self n,by omega,fun c hc hcq=>by rw [c6 c hc hcq,x c hc hcq],by omega,by rw [hk2,defK_succ];exact c5,by simp [i0],by simp [i1],by simp [i7],by simp [hk2]⟩
     | true =>
      rw [hs] at j1 hg1 r1
      simp only [if_true] at j1
      simp [l9_1,e8,hkl,show (k:Int) < 32 by omega,e7,shV_ix hkl,hs,nw,wrN_of (o:=0) get_new_same,splice,← hg1,rd1_of r1,hms,e0,e1,j1,i1,rd1_of c1,f5,bs,fillW,c2,c4,c3,i8,z1]
      exact ⟨n,Nat.lt_succ_self n,by omega,fun c hc hcq=>by rw [c6 c hc hcq,x c hc hcq],by omega,by rw [hk2,defK_succ];exact c5,by simp [i0],by simp [i1],by simp [i7],by simp [hk2]⟩)
 obtain ⟨⟨sx,se,sh⟩,q1,q2,I⟩:=loop 32 ⟨[.ptr h.n 0,.ptr h1.n 0,.tup [],.tup [],.tup [],.tup [],.agg shV,.int .i64 0,.tup [],.tup []],8,.int .i64 0⟩ h3 ⟨Nat.le_refl _,fun _ _ _=>rfl,Nat.le_refl _,SetG.nil gQ,by simp,by simp,by simp,by simp⟩
 simp only at q2 I
 subst q2
 obtain ⟨_,x,gn,b,e0,e1,e7,e8⟩:=I
 obtain ⟨v,sQ,W⟩:=b.setW
 have sP:sh.get h.n=some (.cells [.nils] 30 false):=by rw [x _ (by omega) (by omega),gP]
 obtain ⟨h8,hh8⟩:∃ g,g=sh.put h.n (.cells [v] 30 false):=⟨_,rfl⟩
 have r8:h8.get h.n=some (.cells [v] 30 false):=by rw [hh8,get_put_same (H.get_lt sP)]
 rw [w9,f9,s9]
 simp [nw,← hh1,← hh2,e53,q1,e1,rdN_of (o:=0) (n:=1) sQ (by simp),e0,wrN_of (o:=0) sP,splice,← hh8,rdN_of (o:=0) (n:=1) r8 (by simp)]
 refine ⟨v,rfl,?_,?_⟩
 · have W8:SetW (fun b=>h3.n≤b) h8 v (defK (32 - 0)):=W.keep fun b hb _=>by rw [hh8,get_put_ne];have hb:h3.n≤b:=hb;omega
   exact W8.mono fun b _ hb=>by have hb:h3.n≤b:=hb;show h.n≤b;omega
 · refine ⟨by rw [hh8,H.n_put];omega,fun c hc=>?_⟩
   rw [hh8,get_put_ne (by omega),x c (by omega) (by omega),x3.get c (by omega),x2.get c (by omega),x1.get c hc]
open Go.Zf (wi64)
def Small (S:List (List Tb)):Prop:=S.length < 1000∧∀ (k:Nat) (r:List Tb),S[k]?=some r→r.length < 1000∧∀ (i:Nat) (t:Tb),r[i]?=some t→t.c.length < 1000
theorem SetOk.small {S:List (List Tb)} (a:SetOk S):Small S:=by
 refine ⟨by rw [a.1];omega,fun k r hr=>?_⟩
 have hk:k < 32:=by
   by_cases e:k < S.length
   ·rw [a.1] at e;exact e
   ·rw [List.getElem?_eq_none (by omega)] at hr;cases hr
 have:=a.2 k r hr
 refine ⟨by rw [this.1];have:=cx_le hk;omega,fun i t ht=>?_⟩
 rw [(this.2 i t ht).1];have:=vl_le hk;omega
def TabsOk (k:Nat) (r:List Tb):Prop:=∀ (i:Nat) (t:Tb),r[i]?=some t→t.c.length=vl k∧TabOk t
theorem box25 {D:Nat→Prop} {h:H} {v:V} {S:List (List Tb)} (u:SetR D h v S):∃ h1,bx h 30 (.agg [v])=some (.ptr h.n 0,h1)∧Ext h h1∧h1.get h.n=some (.cells [v] 30 false)∧h1.n=h.n+1∧SetR D h1 v S :=
 ⟨h.new (.cells [v] 30 false),rfl,(Ext.refl h).new _,get_new_same,H.n_new _ _,u.ext ((Ext.refl h).new _)⟩
theorem SetR.len {D:Nat→Prop} {h:H} {v:V} {S:List (List Tb)} (u:SetR D h v S):lnS v=some (.int .i64 S.length):=by
 obtain ⟨cs,h1,h2⟩:=u;exact h1.len
theorem SetR.ckv {D:Nat→Prop} {h:H} {v:V} {S:List (List Tb)} (u:SetR D h v S) {β:Type} (k:Option β):ck (some v) v k=k:=by
 obtain ⟨cs,h1,h2⟩:=u;exact h1.ck k
theorem RowR.len {D:Nat→Prop} {h:H} {v:V} {r:List Tb} (u:RowR D h v r):lnS v=some (.int .i64 r.length):=by
 obtain ⟨cs,h1,h2⟩:=u;exact h1.len
theorem RowR.ckv {D:Nat→Prop} {h:H} {v:V} {r:List Tb} (u:RowR D h v r) {β:Type} (k:Option β):ck (some v) v k=k:=by
 obtain ⟨cs,h1,h2⟩:=u;exact h1.ck k
theorem RowR.ext {D:Nat→Prop} {h h':H} {v:V} {r:List Tb} (u:RowR D h v r) (x:Ext h h'):RowR D h' v r:=u.keep fun b _ hb=>x.get b hb
theorem loop34 {D:Nat→Prop} {h0:H} {k sp:Nat} {y vr:V} {r:List Tb} (hk:k < 32) (R:RowR D h0 vr r) (hsp:h0.get sp=some (.cells [.int .i64 (cx k),.int .i64 (vl k),y] 94 false)) (hl:r.length < 1000) (hs:∀ (i:Nat) (t:Tb),r[i]?=some t→t.c.length < 1000) {en:E}
   (e4:en.s [0,1,2,3,4,6,11,12,29,30,31] 4=.ptr sp 0) (e29:en.s [0,1,2,3,4,6,11,12,29,30,31] 29=vr) (e30:en.s [0,1,2,3,4,6,11,12,29,30,31] 30=.int .i64 r.length) (e31:en.s [0,1,2,3,4,6,11,12,29,30,31] 31=.int .i64 0) :
   ∃ s,loopZ (l33_0 KW loopZ) en h0=some s∧Ext h0 s.h∧Keeps [0,1,2,3,4,6,11,12,29,30,31] [0,1,3,11,12] s.e en∧((s.x=.ex 2∧TabsOk k r)∨(s.x=.rt∧s.e.s [0,1,2,3,4,6,11,12,29,30,31] 2=.int .i64 2∧¬ TabsOk k r)):=by
 have hv:=vl_le hk
 have loop:=loop_run (body:=l33_0 KW loopZ) (fun n e g=>Ext h0 g∧n≤r.length∧Keeps [0,1,2,3,4,6,11,12,29,30,31] [0,1,3,11,12] e en∧e.s [0,1,2,3,4,6,11,12,29,30,31] 4=.ptr sp 0∧e.s [0,1,2,3,4,6,11,12,29,30,31] 29=vr∧e.s [0,1,2,3,4,6,11,12,29,30,31] 30=.int .i64 r.length∧e.s [0,1,2,3,4,6,11,12,29,30,31] 31=.int .i64 ((r.length - n:Nat):Int)∧∀ (i:Nat) (t:Tb),i < r.length - n→r[i]?=some t→t.c.length=vl k∧TabOk t)
   (fun s=>Ext h0 s.h∧Keeps [0,1,2,3,4,6,11,12,29,30,31] [0,1,3,11,12] s.e en∧((s.x=.ex 2∧TabsOk k r)∨(s.x=.rt∧s.e.s [0,1,2,3,4,6,11,12,29,30,31] 2=.int .i64 2∧¬ TabsOk k r)))
   (fun n e g ⟨xg,hn,ke,p4,p29,p30,p31,ha⟩=>by
    have i0:=ke 0 (by simp);have i1:=ke 1 (by simp);have i3:=ke 3 (by simp);have i11:=ke 11 (by simp);have i12:=ke 12 (by simp)
    cases n with
    | zero =>
     simp [l33_0,p30,p31]
     refine ⟨xg,fun i hm=>?_,.inl ⟨rfl,fun i t ht=>ha i t ?_ ht⟩⟩
     ·simp only [List.mem_cons,List.not_mem_nil,or_false] at hm
      rcases hm with rfl | rfl | rfl | rfl | rfl <;> simp [i0,i1,i3,i11,i12]
     ·by_cases e:i < r.length
      ·exact e
      ·rw [List.getElem?_eq_none (by omega)] at ht;cases ht
    | succ n =>
     obtain ⟨c,hc⟩:∃ c,c=r.length - (n+1):=⟨_,rfl⟩
     have hc2:r.length - n=c+1:=by omega
     rw [← hc] at p31 ha
     have hcl:c < r.length:=by omega
     obtain ⟨t,ht⟩:∃ t,r[c]?=some t:=⟨r[c],List.getElem?_eq_getElem hcl⟩
     have z1:IntKind.i64.wrap ((c:Int)+1)=c+1:=wi64 (by omega) (by omega)
     obtain ⟨b,o,vc,q1,q2,q3,q4,U,_⟩:=(R.ext xg).tab ht
     obtain ⟨g2,hg2⟩:∃ g2,g2=(g.new (.cells [.nils,.int .i64 0] 101 false)).put g.n (.cells [vc,.int .i64 t.n] 101 false):=⟨_,rfl⟩
     have x2:Ext g g2:=by rw [hg2];exact ((Ext.refl g).new _).put (Nat.le_refl _) _
     have b2:g2.get g.n=some (.cells [vc,.int .i64 t.n] 101 false):=by rw [hg2,get_put_same (by rw [H.n_new];omega)]
     have gsp:g.get sp=_:=(xg.get sp (H.get_lt hsp)).trans hsp
     have gsp2:g2.get sp=_:=(x2.get sp (H.get_lt gsp)).trans gsp
     have U2:=U.ext x2
     have ul:=U2.1.len
     have hrt:∀ (P:Prop),¬ (t.c.length=vl k∧TabOk t)→¬ TabsOk k r:=fun _ h1 h2=>h1 (h2 c t ht)
     by_cases c1:t.c.length=vl k
     ·obtain ⟨w,g3,e58,rfl,x3⟩:=(check58_ok U2 (hs c t ht)).elim
      by_cases c2:TabOk t
      ·rw [if_pos c2] at e58
       simp [l33_0,p30,p31,hcl,show (c:Int) < r.length by omega,p29,q1,q4,nw,wrN_of (o:=0) get_new_same,splice,← hg2,rd1_of b2,ul,p4,rd1_of gsp2,show (t.c.length:Int)=vl k by omega,c1,rdN_of (o:=0) (n:=2) b2 (by simp),e58,z1]
       refine ⟨n,Nat.lt_succ_self n,(xg.trans x2).trans x3,by omega,fun i hm=>?_,by simp [p4],by simp [p29],by simp [p30],by simp [hc2],fun i s hi hs2=>?_⟩
       ·simp only [List.mem_cons,List.not_mem_nil,or_false] at hm
        rcases hm with rfl | rfl | rfl | rfl | rfl <;> simp [i0,i1,i3,i11,i12]
       ·by_cases e:i=c
        ·subst e;rw [ht] at hs2;cases hs2;exact ⟨c1,c2⟩
        ·exact ha i s (by omega) hs2
      ·rw [if_neg c2] at e58
       simp [l33_0,p30,p31,hcl,show (c:Int) < r.length by omega,p29,q1,q4,nw,wrN_of (o:=0) get_new_same,splice,← hg2,rd1_of b2,ul,p4,rd1_of gsp2,show (t.c.length:Int)=vl k by omega,c1,rdN_of (o:=0) (n:=2) b2 (by simp),e58]
       refine ⟨(xg.trans x2).trans x3,fun i hm=>?_,.inr ⟨rfl,by simp,hrt True fun h=>c2 h.2⟩⟩
       simp only [List.mem_cons,List.not_mem_nil,or_false] at hm
       rcases hm with rfl | rfl | rfl | rfl | rfl <;> simp [i0,i1,i3,i11,i12]
     ·simp [l33_0,p30,p31,hcl,show (c:Int) < r.length by omega,p29,q1,q4,nw,wrN_of (o:=0) get_new_same,splice,← hg2,rd1_of b2,ul,p4,rd1_of gsp2,show ¬ (t.c.length:Int)=vl k by omega,c1,gl_t,gk_t]
      refine ⟨xg.trans x2,fun i hm=>?_,.inr ⟨rfl,by simp,hrt True fun h=>c1 h.1⟩⟩
      simp only [List.mem_cons,List.not_mem_nil,or_false] at hm
      rcases hm with rfl | rfl | rfl | rfl | rfl <;> simp [i0,i1,i3,i11,i12])
 exact loop r.length en h0 ⟨Ext.refl h0,Nat.le_refl _,fun _ _=>rfl,e4,e29,e30,by rw [e31,Nat.sub_self];rfl,fun i t hi=>by omega⟩
theorem lt_of_get {α:Type} {l:List α} {i:Nat} {x:α} (h:l[i]?=some x):i < l.length:=by
 by_cases e:i < l.length
 · exact e
 · rw [List.getElem?_eq_none (by omega)] at h;cases h
theorem get_of_lt {α:Type} {l:List α} {i:Nat} (h:i < l.length):∃ x,l[i]?=some x:=⟨l[i],List.getElem?_eq_getElem h⟩
def RowsOk (S:List (List Tb)) (n:Nat):Prop:=∀ (k:Nat) (r:List Tb),k < n→S[k]?=some r→r.length=cx k∧TabsOk k r
theorem setOk_iff {S:List (List Tb)} (h:S.length=32):SetOk S ↔ RowsOk S 32 :=
 ⟨fun a k r _ hr=>a.2 k r hr,fun a=>⟨h,fun k r hr=>a k r (by have:=lt_of_get hr;omega) hr⟩⟩
theorem check34_ok {D:Nat→Prop} {h:H} {v:V} {S:List (List Tb)} (u:SetR D h v S) (sm:Small S):RT (fun w h'=>w=.int .i64 (if SetOk S then 0 else 2)∧Ext h h') (KW 33 [.agg [v]] h):=by
 obtain ⟨h1,b1,x1,g1,n1,u1⟩:=box25 u
 have ul:=u1.len
 rw [w33,f33,s33]
 by_cases c0:S.length=32
 · obtain ⟨w,h2,e53,rfl,x2⟩:=(shapes53_ok h1).elim
   have u2:=u1.ext x2
   have g2:h2.get h.n=_:=(x2.get _ (H.get_lt g1)).trans g1
   have loop:=loop_run (body:=l33_1 KW loopZ) (fun n e g=>Ext h2 g∧n≤32∧e.s [0,1,2,3,4,6,11,12,29,30,31] 1=.ptr h.n 0∧e.s [0,1,2,3,4,6,11,12,29,30,31] 11=.agg shV∧e.s [0,1,2,3,4,6,11,12,29,30,31] 12=.int .i64 ((32 - n:Nat):Int)∧RowsOk S (32 - n))
    (fun s=>Ext h2 s.h∧((s.x=.ex 0∧SetOk S)∨(s.x=.rt∧s.e.s [0,1,2,3,4,6,11,12,29,30,31] 2=.int .i64 2∧¬ SetOk S)))
    (fun n e g ⟨xg,hn,p1,p11,p12,ha⟩=>by
     cases n with
     | zero =>
      simp [l33_1,p12]
      exact ⟨xg,.inl ⟨rfl,(setOk_iff c0).mpr ha⟩⟩
     | succ n =>
      obtain ⟨k,hk⟩:∃ k,k=32 - (n+1):=⟨_,rfl⟩
      have hk2:32 - n=k+1:=by omega
      have hkl:k < 32:=by omega
      rw [← hk] at p12 ha
      obtain ⟨r,hr⟩:=get_of_lt (l:=S) (i:=k) (by omega)
      have z1:IntKind.i64.wrap ((k:Int)+1)=k+1:=wi64 (by omega) (by omega)
      obtain ⟨g3,hg3⟩:∃ g1,g1=(g.new (.cells [.int .i64 0,.int .i64 0,.bool false] 94 false)).put g.n (.cells [.int .i64 (cx k),.int .i64 (vl k),.bool (stp k)] 94 false):=⟨_,rfl⟩
      have y1:Ext g g3:=by rw [hg3];exact ((Ext.refl g).new _).put (Nat.le_refl _) _
      have r1:g3.get g.n=some (.cells [.int .i64 (cx k),.int .i64 (vl k),.bool (stp k)] 94 false):=by rw [hg3,get_put_same (by rw [H.n_new];omega)]
      have gb:g3.get h.n=_:=(y1.get _ (by have:=H.get_lt g2;have:=xg.n;omega)).trans ((xg.get _ (H.get_lt g2)).trans g2)
      have u3:=(u2.ext xg).ext y1
      obtain ⟨b,o,vr,q1,q2,R,_⟩:=u3.row hr
      have rl:=R.len
      have hsm:=sm.2 k r hr
      by_cases c1:r.length=cx k
      ·obtain ⟨s,j1,xs,ke,j3⟩:=loop34 (y:=.bool (stp k)) hkl R r1 hsm.1 hsm.2
        (en:=⟨[e.s [0,1,2,3,4,6,11,12,29,30,31] 0,.ptr h.n 0,e.s [0,1,2,3,4,6,11,12,29,30,31] 2,.int .i64 k,.ptr g.n 0,e.s [0,1,2,3,4,6,11,12,29,30,31] 6,.agg shV,.int .i64 k,vr,.int .i64 r.length,.int .i64 0],31,.int .i64 0⟩) (by simp) (by simp) (by simp) (by simp)
       have i1:=ke 1 (by simp);have i11:=ke 11 (by simp);have i12:=ke 12 (by simp)
       simp at i1 i11 i12
       obtain ⟨sx,se,sh⟩:=s
       simp only at xs j3 i1 i11 i12
       rw [c1] at j1 rl
       rcases j3 with ⟨rfl,ok⟩ | ⟨rfl,p2,ok⟩
       ·simp [l33_1,p12,hkl,show (k:Int) < 32 by omega,p11,shV_ix hkl,nw,wrN_of (o:=0) get_new_same,splice,← hg3,p1,rd1_of gb,q1,q2,rl,rd1_of r1,u3.ckv,R.ckv,j1,i12,z1]
        refine ⟨n,Nat.lt_succ_self n,(xg.trans y1).trans xs,by omega,by simp [i1],by simp [i11],by simp [hk2],fun k' r' hk' hr'=>?_⟩
        by_cases e:k'=k
        ·subst e;rw [hr] at hr';cases hr';exact ⟨c1,ok⟩
        ·exact ha k' r' (by omega) hr'
       ·simp [l33_1,p12,hkl,show (k:Int) < 32 by omega,p11,shV_ix hkl,nw,wrN_of (o:=0) get_new_same,splice,← hg3,p1,rd1_of gb,q1,q2,rl,rd1_of r1,u3.ckv,R.ckv,j1]
        exact ⟨(xg.trans y1).trans xs,.inr ⟨rfl,by simp [p2],fun h=>ok (h.2 k r hr).2⟩⟩
      ·simp [l33_1,p12,hkl,show (k:Int) < 32 by omega,p11,shV_ix hkl,nw,wrN_of (o:=0) get_new_same,splice,← hg3,p1,rd1_of gb,q1,q2,rl,rd1_of r1,c1,u3.ckv,R.ckv,show ¬ (r.length:Int)=cx k by omega]
       exact ⟨xg.trans y1,.inr ⟨rfl,by simp,fun h=>c1 (h.2 k r hr).1⟩⟩)
   obtain ⟨⟨sx,se,sh⟩,q1,q2,q3⟩:=loop 32 ⟨[.agg [v],.ptr h.n 0,.int .i64 0,.tup [],.tup [],.tup [],.agg shV,.int .i64 0,.tup [],.tup [],.tup []],12,.int .i64 0⟩ h2 ⟨Ext.refl h2,Nat.le_refl _,by simp,by simp,by simp,fun k r hk=>by omega⟩
   simp only at q2 q3
   rcases q3 with ⟨rfl,ok⟩ | ⟨rfl,p2,ok⟩
   ·simp [b1,rd1_of g1,ul,c0,e53,q1]
    exact ⟨by rw [if_pos ok],(x1.trans x2).trans q2⟩
   ·simp [b1,rd1_of g1,ul,c0,e53,q1,p2]
    exact ⟨by rw [if_neg ok],(x1.trans x2).trans q2⟩
 · simp [b1,rd1_of g1,ul,c0,show ¬ (S.length:Int)=32 by omega]
   exact ⟨by rw [if_neg fun a=>c0 a.1],x1⟩
open Go.Zf (wi64)
open Go.Zf (wi64)
open Go.Zf (wi64)
theorem clone63_ok {D:Nat→Prop} {h:H} {v:V} {r:List Tb} {cs:List V} (u:SlR D h v tT 2 r.length cs) (hl:r.length < 1000):RT (fun w h'=>NewS h.n h' w tT 2 cs r.length∧Ext h h') (KW 81 [v] h):=by
 rw [w81,f81,s81]
 rcases u with ⟨rfl,h2,h3⟩ | ⟨b,o,k,c,hv,h2,h3,h4,h5⟩
 · simp
   exact ⟨.inl ⟨rfl,h2,h3⟩,Ext.refl h⟩
 · obtain ⟨v',h',k1,k2,k3,k4⟩:=apZ_clone (D:=D) (n:=r.length) (cs:=cs) (bytes:=32) (.inr ⟨b,o,k,c,hv,h2,h3,h4,h5⟩) (by omega)
   have hn:binK 3 .eql v .nils=some (.bool false):=by rw [hv];rfl
   simp [hn,bs,fillW,k1]
   exact ⟨k2,k3⟩
structure I38 (h0:H) (q bb:Nat) (r:List Tb) (P2 Q k:Nat) (vr v13:V) (len:Nat) (n:Nat) (e:E) (g:H):Prop where
 hn:n≤r.length
 x:∀ c,c < h0.n→c ≠ bb→g.get c=h0.get c
 gn:h0.n≤g.n
 ro:∃ cs,g.get bb=some (.cells cs tT false)∧cs.length=r.length*2∧Els (fun c=>q≤c) g cs (r.take (r.length - n))∧∀ (i:Nat) (t:Tb),r[i]?=some t→cs[2*i+1]?=some (.int .i64 t.n)
 e2:e.s [0,1,2,3,4,5,6,13,14,15,27,28] 2=.ptr P2 0
 e3:e.s [0,1,2,3,4,5,6,13,14,15,27,28] 3=.ptr Q 0
 e4:e.s [0,1,2,3,4,5,6,13,14,15,27,28] 4=.int .i64 k
 e5:e.s [0,1,2,3,4,5,6,13,14,15,27,28] 5=vr
 e13:e.s [0,1,2,3,4,5,6,13,14,15,27,28] 13=v13
 e14:e.s [0,1,2,3,4,5,6,13,14,15,27,28] 14=.int .i64 len
 e15:e.s [0,1,2,3,4,5,6,13,14,15,27,28] 15=.int .i64 k
 e27:e.s [0,1,2,3,4,5,6,13,14,15,27,28] 27=.int .i64 r.length
 e28:e.s [0,1,2,3,4,5,6,13,14,15,27,28] 28=.int .i64 ((r.length - n:Nat):Int)
theorem set_get {cs:List V} {o j:Nat} {x:V} (hl:o < cs.length):(cs.set o x)[j]?=if j=o then some x else cs[j]?:=by
 rw [List.getElem?_set]
 by_cases e:o=j
 · subst e;simp [hl]
 · rw [if_neg e,if_neg (fun h=>e h.symm)]
theorem loop38 {D:Nat→Prop} {h0:H} {q bb P2 Q k len bT:Nat} {vr v13:V} {r:List Tb} {rc:List V} {kk:Cap} (RR:RowR D h0 vr r) (hD:∀ b,D b→b ≠ bb) (hbb:bb < h0.n) (hq:q≤h0.n) (hQ:h0.get Q=some (.cells [.sl bT 0 len (.ex len)] 30 false)) (hT:h0.get bT=some (.cells rc 98 false)) (hk:rc[k]?=some (.sl bb 0 r.length kk)) (hkl:k < len) (hQb:Q ≠ bb) (hTb:bT ≠ bb) (hl:r.length < 1000) (hs:∀ (i:Nat) (t:Tb),r[i]?=some t→t.c.length < 1000) {e:E} {g:H} (hi:I38 h0 q bb r P2 Q k vr v13 len r.length e g) :
   ∃ e' g',loopZ (l35_0 KW loopZ) e g=some ⟨.ex 2,e',g'⟩∧I38 h0 q bb r P2 Q k vr v13 len 0 e' g':=by
 have loop:=loop_run (body:=l35_0 KW loopZ) (I38 h0 q bb r P2 Q k vr v13 len) (fun s=>s.x=.ex 2∧I38 h0 q bb r P2 Q k vr v13 len 0 s.e s.h)
   (fun n e g hi=>by
    obtain ⟨hn,x,gn,⟨cs,B,L,G,N⟩,e2,e3,e4,e5,e13,e14,e15,e27,e28⟩:=hi
    have R:RowR D g vr r:=RR.keep fun b hb hb2=>x b hb2 (hD b hb)
    cases n with
    | zero =>
     simp [l35_0,e27,e28]
     exact ⟨rfl,hn,x,gn,⟨cs,B,L,G,N⟩,by simp [e2],by simp [e3],by simp [e4],by simp [e5],by simp [e13],by simp [e14],by simp [e15],by simp [e27],by simp [e28]⟩
    | succ n =>
     obtain ⟨c,hc⟩:∃ c,c=r.length - (n+1):=⟨_,rfl⟩
     have hc2:r.length - n=c+1:=by omega
     rw [← hc] at e28 G
     have hcl:c < r.length:=by omega
     obtain ⟨t,ht⟩:=get_of_lt hcl
     have z1:IntKind.i64.wrap ((c:Int)+1)=c+1:=wi64 (by omega) (by omega)
     obtain ⟨b,o,vc,b1,b2,b3,b4,U,_,hb⟩:=R.tab ht
     obtain ⟨v',g1,a1,S1,x1,_⟩:=(clone61_ok U (hs c t ht)).elim
     have n1:=x1.n
     have gQ:g.get Q=_:=(x Q (H.get_lt hQ) hQb).trans hQ
     have gT:g.get bT=_:=(x bT (H.get_lt hT) hTb).trans hT
     have gQ1:g1.get Q=_:=(x1.get _ (H.get_lt gQ)).trans gQ
     have gT1:g1.get bT=_:=(x1.get _ (H.get_lt gT)).trans gT
     have B1:g1.get bb=_:=(x1.get _ (H.get_lt B)).trans B
     have U1:U16 (fun b=>q≤b) g1 v' t.c:=⟨S1.slr fun b hb _=>by show q≤b;omega,U.2⟩
     have hv':=U1.1.stZ
     obtain ⟨g2,hg2⟩:∃ g2,g2=g1.put bb (.cells (cs.set (c*2) v') 101 false):=⟨_,rfl⟩
     have hw:g1.wr1 bb (c*2) v'=some g2:=by rw [wr1_of B1 (by omega),hg2]
     have hkeep:∀ b c,g1.get b=some (.cells c tU false)→g2.get b=g1.get b:=fun b c hbc=>by
      rw [hg2,get_put_ne];rintro rfl;rw [B1] at hbc;cases hbc
     have G2:Els (fun b=>q≤b) g2 (cs.set (c*2) v') (r.take (c+1)):=by
      intro i s hs2
      have hil:=lt_of_get hs2
      rw [List.length_take] at hil
      rw [List.getElem?_take,if_pos (by omega)] at hs2
      rw [set_get (by omega),set_get (by omega),if_neg (show ¬ 2*i+1=c*2 by omega),N i s hs2]
      by_cases e:i=c
      ·subst e
       rw [ht] at hs2;cases hs2
       exact ⟨v',by rw [if_pos (show 2*i=i*2 by omega)],rfl,U1.keep fun b c _ hb=>hkeep b c hb⟩
      ·obtain ⟨vc',k1,k2,k3⟩:=G i s (by rw [List.getElem?_take,if_pos (by omega),hs2])
       exact ⟨vc',by rw [if_neg (show ¬ 2*i=c*2 by omega),k1],rfl,(k3.ext x1).keep fun b c _ hb=>hkeep b c hb⟩
     simp [l35_0,e27,e28,hcl,show (c:Int) < r.length by omega,e5,b1,b2,a1,e3,rd1_of gQ1,e4,hkl,show (k:Int) < len by omega,rd1_of gT1,hk,hv',hw,rd1_of gQ,rd1_of gT,U.1.ck,z1]
     exact ⟨n,Nat.lt_succ_self n,by omega,fun d hd hdb=>by rw [hg2,get_put_ne hdb,x1.get d (by omega),x d hd hdb],by rw [hg2,H.n_put];omega,⟨_,by rw [hg2,get_put_same (H.get_lt B1)],by rw [List.length_set,L],by rw [hc2];exact G2,fun i s hs2=>by rw [set_get (by omega),if_neg (show ¬ 2*i+1=c*2 by omega),N i s hs2]⟩,by simp [e2],by simp [e3],by simp [e4],by simp [e5],by simp [e13],by simp [e14],by simp [e15],by simp [e27],by simp [hc2]⟩)
 obtain ⟨⟨x,e',g'⟩,r1,r2,r3⟩:=loop r.length e g hi
 simp only at r2 r3
 subst r2
 exact ⟨e',g',r1,r3⟩
def Full (S:List (List Tb)):Prop:=∀ (i:Nat) (r:List Tb),S[i]?=some r→r ≠ []
theorem SetOk.full {S:List (List Tb)} (a:SetOk S):Full S:=fun i r hr e=>by
 have h1:=(a.2 i r hr).1
 have hk:=lt_of_get hr
 rw [a.1] at hk
 have:=cx_le hk
 rw [e] at h1;simp at h1;omega
def PartR (D:Nat→Prop) (g:H) (cs:List V) (S:List (List Tb)) (k:Nat) (B:Nat→Nat):Prop :=
 (∀ (i:Nat) (r:List Tb),i < k→S[i]?=some r→∃ vr,cs[i]?=some vr∧RowW D g vr (B i) r)∧(Full S→∀ i j,i < j→j < k→B i < B j)∧(Full S→∀ i,i < k→B i < g.n)
def SetP (D:Nat→Prop) (h:H) (v:V) (S:List (List Tb)):Prop :=
 ∃ cs B b k,v=.sl b 0 S.length k∧h.get b=some (.cells cs tR false)∧cs.length=S.length∧(D b∧CapOk 1 S.length k)∧PartR D h cs S S.length B
theorem SetP.setR {D:Nat→Prop} {h:H} {v:V} {S:List (List Tb)} (a:SetP D h v S):SetR D h v S:=by
 obtain ⟨cs,B,b,k,rfl,h1,h2,h3,h4⟩:=a
 exact ⟨cs,SlR.of h1 (by omega) h3.1 h3.2,fun i r hr=>by obtain ⟨vr,k1,k2⟩:=h4.1 i r (lt_of_get hr) hr;exact ⟨vr,k1,k2.rowR⟩⟩
theorem SetP.setW {D:Nat→Prop} {h:H} {v:V} {S:List (List Tb)} (a:SetP D h v S) (f:Full S):SetW D h v S:=by
 obtain ⟨cs,B,b,k,rfl,h1,h2,h3,h4⟩:=a
 exact ⟨cs,B,.inr ⟨b,k,rfl,h1,h2,h3⟩,fun i r hr=>h4.1 i r (lt_of_get hr) hr,fun i j hij hj=>h4.2.1 f i j hij hj⟩
structure O38 (h0:H) (S:List (List Tb)) (P2 Q bT:Nat) (v:V) (n:Nat) (e:E) (g:H):Prop where
 hn:n≤S.length
 x:∀ c,c < h0.n→c ≠ bT→g.get c=h0.get c
 gn:h0.n≤g.n
 b:∃ cs B,g.get bT=some (.cells cs tR false)∧cs.length=S.length∧PartR (fun b=>h0.n≤b) g cs S (S.length - n) B
 e2:e.s [0,1,2,3,4,5,6,13,14,15,27,28] 2=.ptr P2 0
 e3:e.s [0,1,2,3,4,5,6,13,14,15,27,28] 3=.ptr Q 0
 e13:e.s [0,1,2,3,4,5,6,13,14,15,27,28] 13=v
 e14:e.s [0,1,2,3,4,5,6,13,14,15,27,28] 14=.int .i64 S.length
 e15:e.s [0,1,2,3,4,5,6,13,14,15,27,28] 15=.int .i64 ((S.length - n:Nat):Int)
theorem PartR.next {p:Nat} {g g':H} {cs:List V} {S:List (List Tb)} {k bT bb:Nat} {B:Nat→Nat} {w:V} {r:List Tb} (a:PartR (fun b=>p≤b) g cs S k B) (hk:k < cs.length) (hr:S[k]?=some r) (hT:g.get bT=some (.cells cs tR false)) (hg:∀ c,c < g.n→c ≠ bT→g'.get c=g.get c) (hn:g.n≤g'.n) (hw:RowW (fun b=>p≤b) g' w bb r) (hbb:r ≠ []→g.n≤bb∧bb < g'.n) :
   ∃ B',PartR (fun b=>p≤b) g' (cs.set k w) S (k+1) B':=by
 refine ⟨fun i=>if i=k then bb else B i,fun i s hi hs=>?_,fun f i j hij hj=>?_,fun f i hi=>?_⟩
 · rw [set_get hk]
   by_cases e:i=k
   ·subst e
    rw [hr] at hs;cases hs
    exact ⟨w,by rw [if_pos rfl],by simp only [if_true];exact hw⟩
   ·obtain ⟨vr,k1,k2⟩:=a.1 i s (by omega) hs
    refine ⟨vr,by rw [if_neg e,k1],?_⟩
    simp only [if_neg e]
    refine k2.keep fun b c t _ ht hb=>hg b (H.get_lt hb) ?_
    rintro rfl
    rw [hT] at hb
    simp only [Option.some.injEq,Blk.cells.injEq] at hb
    rcases ht with rfl | rfl <;> (obtain ⟨_,hb,_⟩:=hb;cases hb)
 · have hb:=hbb (f k r hr)
   by_cases ej:j=k
   ·simp only [if_neg (show i ≠ k by omega),if_pos ej]
    have:=a.2.2 f i (by omega);omega
   ·simp only [if_neg (show i ≠ k by omega),if_neg ej]
    exact a.2.1 f i j hij (by omega)
 · have hb:=hbb (f k r hr)
   by_cases ei:i=k
   ·simp only [if_pos ei];exact hb.2
   ·simp only [if_neg ei]
    have:=a.2.2 f i (by omega);omega
open Go.Zf (wi64)
theorem Els.none (D:Nat→Prop) (h:H) (cs:List V) {r:List Tb}:Els D h cs (r.take 0):=fun i t hi=>by simp at hi
theorem copy38_ok {D:Nat→Prop} {h:H} {v:V} {S:List (List Tb)} (u:SetR D h v S) (sm:Small S):RT (fun w h'=>∃ v',w=.agg [v']∧SetP (fun b=>h.n≤b) h' v' S∧Ext h h') (KW 35 [.agg [v]] h):=by
 have hS:=sm.1
 obtain ⟨h1,b1,x1,g1,n1,u1⟩:=box25 u
 obtain ⟨h2,hh2⟩:∃ g,g=h1.new (.cells [.nils] 30 false):=⟨_,rfl⟩
 have x2:Ext h1 h2:=by rw [hh2];exact (Ext.refl h1).new _
 have n2:h2.n=h1.n+1:=by rw [hh2,H.n_new]
 obtain ⟨h3,hh3⟩:∃ g,g=h2.new (.cells (reps S.length [.nils]) 98 false):=⟨_,rfl⟩
 have x3:Ext h2 h3:=by rw [hh3];exact (Ext.refl h2).new _
 have n3:h3.n=h2.n+1:=by rw [hh3,H.n_new]
 obtain ⟨h4,hh4⟩:∃ g,g=(h3.new (.cells [.nils] 30 false)).put h3.n (.cells [.sl h2.n 0 S.length (.ex S.length)] 30 false):=⟨_,rfl⟩
 have x4:Ext h3 h4:=by rw [hh4];exact ((Ext.refl h3).new _).put (Nat.le_refl _) _
 have n4:h4.n=h3.n+1:=by rw [hh4,H.n_put,H.n_new]
 have gP:h2.get h.n=some (.cells [v] 30 false):=by rw [x2.get _ (by omega),g1]
 have gP4:h4.get h.n=some (.cells [v] 30 false):=by rw [x4.get _ (by omega),x3.get _ (by omega),gP]
 have gP2:h4.get h1.n=some (.cells [.nils] 30 false):=by rw [x4.get _ (by omega),x3.get _ (by omega),hh2,get_new_same]
 have gT:h4.get h2.n=some (.cells (reps S.length [.nils]) 98 false):=by rw [x4.get _ (by omega),hh3,get_new_same]
 have gQ:h4.get h3.n=some (.cells [.sl h2.n 0 S.length (.ex S.length)] 30 false):=by rw [hh4,get_put_same (by rw [H.n_new];omega)]
 have u4:SetR (fun b=>b < h.n) h4 v S:=(((u.mono (E:=fun b=>b < h.n) fun b hb _=>hb).ext x1).ext x2 |>.ext x3).ext x4
 have ul:=u4.len
 have hms:ms h2 98 24 [.nils] (.int .i64 S.length) (.int .i64 S.length)=some (.sl h2.n 0 S.length (.ex S.length),h3):=by
   simp only [ms]
   rw [if_pos ⟨by omega,by omega,by omega,by omega,trivial⟩,Int.toNat_natCast,← hh3]
 have loop:=loop_run (body:=l35_1 KW loopZ) (O38 h4 S h1.n h3.n h2.n v) (fun s=>s.x=.ex 0∧O38 h4 S h1.n h3.n h2.n v 0 s.e s.h)
   (fun n e g hi=>by
    obtain ⟨hn,x,gn,⟨cs,B,bT,L,PR⟩,e2,e3,e13,e14,e15⟩:=hi
    cases n with
    | zero =>
     simp [l35_1,e14,e15]
     exact ⟨rfl,hn,x,gn,⟨cs,B,bT,L,PR⟩,by simp [e2],by simp [e3],by simp [e13],by simp [e14],by simp [e15]⟩
    | succ n =>
     obtain ⟨k,hk⟩:∃ k,k=S.length - (n+1):=⟨_,rfl⟩
     have hk2:S.length - n=k+1:=by omega
     have hkl:k < S.length:=by omega
     rw [← hk] at e15 PR
     obtain ⟨r,hr⟩:=get_of_lt hkl
     have hsm:=sm.2 k r hr
     have z1:IntKind.i64.wrap ((k:Int)+1)=k+1:=wi64 (by omega) (by omega)
     have ug:SetR (fun b=>b < h.n) g v S:=u4.keep fun b hb hb2=>x b hb2 (by have hb:b < h.n:=hb;omega)
     obtain ⟨bR,oR,vr,q1,q2,RR,_,hbR⟩:=ug.row hr
     obtain ⟨rcs,RS,RE⟩:=RR
     obtain ⟨w,g1,a1,W,y1⟩:=(clone63_ok RS hsm.1).elim
     have m1:=y1.n
     have gQg:g.get h3.n=_:=(x _ (by omega) (by omega)).trans gQ
     have gQ1:g1.get h3.n=_:=(y1.get _ (H.get_lt gQg)).trans gQg
     have bT1:g1.get h2.n=_:=(y1.get _ (H.get_lt bT)).trans bT
     obtain ⟨g2,hg2⟩:∃ g2,g2=g1.put h2.n (.cells (cs.set k w) 98 false):=⟨_,rfl⟩
     have m2:g2.n=g1.n:=by rw [hg2,H.n_put]
     have bT2:g2.get h2.n=some (.cells (cs.set k w) 98 false):=by rw [hg2,get_put_same (H.get_lt bT1)]
     have gQ2:g2.get h3.n=_:=(show g2.get h3.n=g1.get h3.n by rw [hg2,get_put_ne (by omega)]).trans gQ1
     have hsw:=(W.slr (D:=fun _=>True) fun _ _ _=>trivial)
     have hst:=hsw.stZ
     have hw:g1.wr1 h2.n k w=some g2:=by rw [wr1_of bT1 (by omega),hg2]
     have hx2:∀ c,c < g.n→c ≠ h2.n→g2.get c=g.get c:=fun c hc hcb=>by rw [hg2,get_put_ne hcb,y1.get c hc]
     have rl:=RS.len
     rcases W with ⟨rfl,hr0,hc0⟩ | ⟨bb,kk,rfl,Wb,Wl,Wq,Wk⟩
     ·have hre:r=[]:=List.length_eq_zero_iff.mp hr0
      obtain ⟨B',PR'⟩:=PR.next (g':=g2) (bb:=0) (by omega) hr bT hx2 (by omega) (.inl ⟨rfl,hre⟩) (fun h=>(h hre).elim)
      have hl0:loopZ (l35_0 KW loopZ) ⟨[e.s [0,1,2,3,4,5,6,13,14,15,27,28] 0,e.s [0,1,2,3,4,5,6,13,14,15,27,28] 1,.ptr h1.n 0,.ptr h3.n 0,.int .i64 k,vr,e.s [0,1,2,3,4,5,6,13,14,15,27,28] 6,v,.int .i64 S.length,.int .i64 k,.int .i64 0,.int .i64 0],28,.int .i64 0⟩ g2=some ⟨.ex 2,⟨[e.s [0,1,2,3,4,5,6,13,14,15,27,28] 0,e.s [0,1,2,3,4,5,6,13,14,15,27,28] 1,.ptr h1.n 0,.ptr h3.n 0,.int .i64 k,vr,e.s [0,1,2,3,4,5,6,13,14,15,27,28] 6,v,.int .i64 S.length,.int .i64 k,.int .i64 0,.int .i64 0],29,.bool false⟩,g2⟩:=by
       rw [loopZ_eq];simp [l35_0]
      rw [hr0] at rl
      simp at rl
      simp [l35_1,e14,e15,hkl,show (k:Int) < S.length by omega,e13,q1,q2,a1,e3,rd1_of gQ1,hst,hw,rd1_of gQg,rl,e2,hl0,z1]
      exact ⟨n,Nat.lt_succ_self n,by omega,fun c hc hcq=>by rw [hx2 c (by omega) hcq,x c hc hcq],by omega,⟨_,B',bT2,by rw [List.length_set,L],by rw [hk2];exact PR'⟩,by simp,by simp,by simp,by simp,by simp [hk2]⟩
     ·have Wbl:=H.get_lt Wb
      have hbT:=H.get_lt bT
      have Wb2:g2.get bb=_:=(show g2.get bb=g1.get bb by rw [hg2,get_put_ne (by omega)]).trans Wb
      have RR2:RowR (fun b=>b < h.n) g2 vr r:=RowR.keep ⟨rcs,RS,RE⟩ fun b hb hb2=>by
       have hb:b < h.n:=hb
       exact hx2 b hb2 (by omega)
      obtain ⟨f,g3,j1,I⟩:=loop38 (h0:=g2) (q:=g.n) (bb:=bb) (P2:=h1.n) (Q:=h3.n) (k:=k) (len:=S.length) (bT:=h2.n) (v13:=v) (kk:=kk) RR2 (fun b hb=>by have hb:b < h.n:=hb;omega) (by omega) (by omega) gQ2 bT2 (by rw [set_get (by omega),if_pos rfl]) hkl (by omega) (by omega) hsm.1 hsm.2
       (e:=⟨[e.s [0,1,2,3,4,5,6,13,14,15,27,28] 0,e.s [0,1,2,3,4,5,6,13,14,15,27,28] 1,.ptr h1.n 0,.ptr h3.n 0,.int .i64 k,vr,e.s [0,1,2,3,4,5,6,13,14,15,27,28] 6,v,.int .i64 S.length,.int .i64 k,.int .i64 r.length,.int .i64 0],28,.int .i64 0⟩) (g:=g2)
       ⟨Nat.le_refl _,fun _ _ _=>rfl,Nat.le_refl _,⟨rcs,Wb2,Wl,by rw [Nat.sub_self];exact Els.none _ _ _,fun i t ht=>by obtain ⟨vc,_,k2,_⟩:=RE i t ht;exact k2⟩,by simp,by simp,by simp,by simp,by simp,by simp,by simp,by simp,by simp⟩
      obtain ⟨_,x',gn',⟨cs',Cb,CL,CE,_⟩,f2,f3,f4,f5,f13,f14,f15,f27,f28⟩:=I
      rw [Nat.sub_zero,List.take_length] at CE
      have hx3:∀ c,c < g.n→c ≠ h2.n→g3.get c=g.get c:=fun c hc hcb=>by rw [x' c (by omega) (by omega),hx2 c hc hcb]
      have bT3:g3.get h2.n=_:=(x' h2.n (by omega) (by omega)).trans bT2
      obtain ⟨B',PR'⟩:=PR.next (g':=g3) (w:=.sl bb 0 r.length kk) (bb:=bb) (by omega) hr bT hx3 (by omega) (.inr ⟨kk,cs',rfl,Cb,CL,(show h4.n≤bb by omega),CE.mono (fun b _ hb=>Nat.le_trans gn hb),Wk⟩) (fun _=>⟨Wq,H.get_lt Cb⟩)
      simp [l35_1,e14,e15,hkl,show (k:Int) < S.length by omega,e13,q1,q2,a1,e3,rd1_of gQ1,hw,rd1_of gQg,rl,e2,j1,f15,z1]
      exact ⟨n,Nat.lt_succ_self n,by omega,fun c hc hcq=>by rw [hx3 c (by omega) hcq,x c hc hcq],by omega,⟨_,B',bT3,by rw [List.length_set,L],by rw [hk2];exact PR'⟩,by simp [f2],by simp [f3],by simp [f13],by simp [f14],by simp [hk2]⟩)
 obtain ⟨⟨sx,se,sh⟩,q1,q2,I⟩:=loop S.length ⟨[.agg [v],.ptr h.n 0,.ptr h1.n 0,.ptr h3.n 0,.tup [],.tup [],.tup [],v,.int .i64 S.length,.int .i64 0,.tup [],.tup []],15,.int .i64 0⟩ h4
   ⟨Nat.le_refl _,fun _ _ _=>rfl,Nat.le_refl _,⟨_,fun _=>0,gT,by rw [reps_len];simp,by rw [Nat.sub_self];exact ⟨fun i r hi=>by omega,fun _ i j _ hj=>by omega,fun _ i hi=>by omega⟩⟩,by simp,by simp,by simp,by simp,by simp⟩
 simp only at q2 I
 subst q2
 obtain ⟨_,x,gn,⟨cs,B,bT,L,PR⟩,e2,e3,e13,e14,e15⟩:=I
 have sQ:sh.get h3.n=some (.cells [.sl h2.n 0 S.length (.ex S.length)] 30 false):=by rw [x _ (by omega) (by omega),gQ]
 have sP:sh.get h1.n=some (.cells [.nils] 30 false):=by rw [x _ (by omega) (by omega),gP2]
 obtain ⟨h8,hh8⟩:∃ g,g=sh.put h1.n (.cells [.sl h2.n 0 S.length (.ex S.length)] 30 false):=⟨_,rfl⟩
 have r8:h8.get h1.n=some (.cells [.sl h2.n 0 S.length (.ex S.length)] 30 false):=by rw [hh8,get_put_same (H.get_lt sP)]
 rw [w35,f35,s35]
 simp [b1,nw,← hh2,rd1_of gP,ul,hms,bl,fillW,splice,wrN_of (o:=0) get_new_same,← hh4,rd1_of gP4,q1,e3,rdN_of (o:=0) (n:=1) sQ (by simp),e2,wrN_of (o:=0) sP,← hh8,rdN_of (o:=0) (n:=1) r8 (by simp)]
 rw [Nat.sub_zero] at PR
 have hD:∀ b,h4.n≤b→h.n≤b:=fun b hb=>by omega
 refine ⟨_,rfl,⟨cs,B,h2.n,.ex S.length,rfl,by rw [hh8,get_put_ne (by omega)];exact bT,L,⟨(show h.n≤h2.n by omega),Nat.le_refl _⟩,fun i r hi hr=>?_,PR.2.1,fun f i hi=>by have:=PR.2.2 f i hi;rw [hh8,H.n_put];omega⟩,?_⟩
 · obtain ⟨vr,k1,k2⟩:=PR.1 i r hi hr
   refine ⟨vr,k1,(k2.keep fun b c t hb _ _=>?_).mono fun b _ hb=>hD b hb⟩
   rw [hh8,get_put_ne];have hb:h4.n≤b:=hb;omega
 · refine ⟨by rw [hh8,H.n_put];omega,fun c hc=>?_⟩
   rw [hh8,get_put_ne (by omega),x c (by omega) (by omega),x4.get c (by omega),x3.get c (by omega),x2.get c (by omega),x1.get c hc]
open Go.Zf (wi64)
open Go.Zf (wi64)
inductive Side where
 | w (out:List Nat) (low rng:Nat)
 | r (rest:List Nat) (code rng:Nat)
def SideOk (m:Nat):Side→Prop
 | .w out low rng=>EInv low rng∧out.length≤3*m∧m < 100000000
 | .r rest code rng=>DInv code rng∧(∀ x ∈ rest,x < 256)∧m < 100000000
def EncD (D:Nat→Prop) (h:H) (p:Nat) (t:TypeId) (out:List Nat) (low:Nat) (rng:V):Prop:=∃ v,EncAt h p t v out low rng∧D p∧∀ c o n k,v=.sl c o n k→D c
def DecD (D:Nat→Prop) (h:H) (p:Nat) (rest:List Nat) (code rng:Nat):Prop:=∃ v,DecAt h (fun c=>c=p∨¬ D c) p v rest code rng∧D p
section own
variable {D E:Nat→Prop} {h h':H}
theorem EncD.keep {p:Nat} {t:TypeId} {out:List Nat} {low:Nat} {rng:V} (a:EncD D h p t out low rng) (hk:∀ b,D b→b < h.n→h'.get b=h.get b):EncD D h' p t out low rng:=by
 obtain ⟨v,e,hp,hv⟩:=a
 refine ⟨v,⟨by rw [hk p hp (H.get_lt e.cell),e.cell],?_,e.byte,e.low64⟩,hp,hv⟩
 rcases e.grow with g | ⟨b,g1,g2,g3⟩
 · exact .inl g
 · exact .inr ⟨b,g1,g2,by rw [hk b (hv _ _ _ _ g1) (H.get_lt g3),g3]⟩
theorem EncD.mono {p:Nat} {t:TypeId} {out:List Nat} {low:Nat} {rng:V} (a:EncD D h p t out low rng) (hd:∀ b,b < h.n→D b→E b):EncD E h p t out low rng:=by
 obtain ⟨v,e,hp,hv⟩:=a
 refine ⟨v,e,hd p (H.get_lt e.cell) hp,fun c o n k ev=>hd c ?_ (hv c o n k ev)⟩
 rcases e.grow with ⟨g,_⟩ | ⟨b,g1,g2,g3⟩
 · rw [g] at ev;cases ev
 · rw [g1] at ev;cases ev;exact H.get_lt g3
theorem DecD.keep {p:Nat} {rest:List Nat} {code rng:Nat} (a:DecD D h p rest code rng) (hk:∀ b,D b→b < h.n→h'.get b=h.get b):DecD D h' p rest code rng:=by
 obtain ⟨v,e,hp⟩:=a
 exact ⟨v,⟨by rw [hk p hp (H.get_lt e.cell),e.cell],e.own,e.sl.keep fun b hb hx=>hk b (Classical.not_not.mp fun hn=>hx (.inr hn)) hb,e.byte⟩,hp⟩
theorem DecD.mono {p:Nat} {rest:List Nat} {code rng:Nat} (a:DecD D h p rest code rng) (hd:∀ b,b < h.n→D b→E b):DecD E h p rest code rng:=by
 obtain ⟨v,e,hp⟩:=a
 refine ⟨v,⟨e.cell,.inl rfl,e.sl.mono fun b hb hx=>?_,e.byte⟩,hd p (H.get_lt e.cell) hp⟩
 rintro (h1 | h1)
 · exact hx (.inl h1)
 · exact h1 (hd b hb (Classical.not_not.mp fun hn=>hx (.inr hn)))
theorem Own.mod {p:Nat} {v v':V} (o:Own h h' p v v') (hp:D p) (hv:∀ c o n k,v=.sl c o n k→D c):Mod D h h' :=
 ⟨o.fr.1,fun c hc hd=>o.fr.2 c hc (by rintro (e | ⟨a,b,k,e⟩);exact hd (e ▸ hp);exact hd (hv _ _ _ _ e))⟩
theorem Only.mod {p:Nat} (o:Only h h' p) (hp:D p):Mod D h h':=⟨by rw [o.1];exact Nat.le_refl _,fun c hc hd=>o.2 c (fun e=>hd (e ▸ hp))⟩
theorem Own.encD {p:Nat} {t:TypeId} {v v':V} {out:List Nat} {low:Nat} {rng:V} (o:Own h h' p v v') (e:EncAt h' p t v' out low rng) (hp:D p) (hv:∀ c o n k,v=.sl c o n k→D c):EncD (grow D h h') h' p t out low rng:=by
 refine ⟨v',e,.inl hp,fun c a n k ev=>?_⟩
 rcases o.nw with e1 | e1
 · exact .inl (hv _ _ _ _ (e1 ▸ ev))
 · refine .inr ⟨e1 _ _ _ _ ev,?_⟩
   rcases e.grow with ⟨g,_⟩ | ⟨b,g1,g2,g3⟩
   ·rw [g] at ev;cases ev
   ·rw [g1] at ev;cases ev;exact H.get_lt g3
theorem put82_ok {m p:Nat} {out:List Nat} {low rng lo hi:Nat} (a:EncD D h p 144 out low (.int .u32 rng)) (ok:SideOk m (.w out low rng)) (h2:lo < hi) (h3:hi≤32768) :
   ∃ h',KW 137 [.ptr p 0,.int .u32 lo,.int .u32 hi] h=some (.ret (.int .i64 0),h')∧EncD (grow D h h') h' p 144 (put out low rng lo hi).1 (put out low rng lo hi).2.1 (.int .u32 (put out low rng lo hi).2.2)∧Mod D h h':=by
 obtain ⟨v,e,hp,hv⟩:=a
 have o1:=ok.1;have o2:=ok.2.1;have o3:=ok.2.2
 obtain ⟨h',v',k1,k2,k3⟩:=put12_ok e o1 (by omega) h2 h3
 exact ⟨h',k1,k3.encD k2 hp hv,k3.mod hp hv⟩
theorem put_side {m:Nat} {out:List Nat} {low rng lo hi:Nat} (ok:SideOk m (.w out low rng)) (hm:m+1 < 100000000) (h2:lo < hi) (h3:hi≤32768):SideOk (m+1) (.w (put out low rng lo hi).1 (put out low rng lo hi).2.1 (put out low rng lo hi).2.2):=by
 have o1:=ok.1;have o2:=ok.2.1
 have:=put_inv (out:=out) o1 h2 h3
 exact ⟨this.1,by omega,hm⟩
theorem take83_ok {m p:Nat} {rest:List Nat} {code rng lo hi:Nat} (a:DecD D h p rest code rng) (ok:SideOk m (.r rest code rng)) (h1:lo≤value code rng) (h2:value code rng < hi) (h3:hi≤32768) :
   ∃ h',KW 138 [.ptr p 0,.int .u32 lo,.int .u32 hi] h=some (.ret (.int .i64 0),h')∧DecD D h' p (take rest code rng lo hi).1 (take rest code rng lo hi).2.1 (take rest code rng lo hi).2.2∧Mod D h h':=by
 obtain ⟨v,e,hp⟩:=a
 obtain ⟨h',v',k1,k2,k3⟩:=take24_ok e ok.1 h1 h2 h3
 exact ⟨h',k1,⟨v',k2,hp⟩,k3.mod hp⟩
theorem take_side {m:Nat} {rest:List Nat} {code rng lo hi:Nat} (ok:SideOk m (.r rest code rng)) (hm:m+1 < 100000000) (h1:lo≤value code rng) (h2:value code rng < hi) (h3:hi≤32768):SideOk (m+1) (.r (take rest code rng lo hi).1 (take rest code rng lo hi).2.1 (take rest code rng lo hi).2.2):=by
 have:=take_inv ok.1 h1 h2 h3 ok.2.1
 exact ⟨this.1,this.2,hm⟩
end own
def Side.code (lo hi:Nat):Side→Side
 | .w out low rng=>.w (put out low rng lo hi).1 (put out low rng lo hi).2.1 (put out low rng lo hi).2.2
 | .r rest code rng=>.r (take rest code rng lo hi).1 (take rest code rng lo hi).2.1 (take rest code rng lo hi).2.2
def Side.writes:Side→Bool
 | .w _ _ _=>true
 | .r _ _ _=>false
def Side.may (lo hi:Nat):Side→Prop
 | .w _ _ _=>lo < hi∧hi≤32768
 | .r _ code rng=>lo≤value code rng∧value code rng < hi∧hi≤32768
theorem Side.code_ok {m lo hi:Nat} {sd:Side} (ok:SideOk m sd) (hm:m+1 < 100000000) (h:sd.may lo hi):SideOk (m+1) (sd.code lo hi):=by
 cases sd with
 | w out low rng=>exact put_side ok hm h.1 h.2
 | r rest code rng=>exact take_side ok hm h.1 h.2.1 h.2.2
def SideAt (D:Nat→Prop) (h:H) (vo vi:V):Side→Prop
 | .w out low rng=>∃ e,vo=.ptr e 0∧vi=.nilp∧EncD D h e 144 out low (.int .u32 rng)
 | .r rest code rng=>∃ e,vo=.nilp∧vi=.ptr e 0∧DecD D h e rest code rng
theorem SideAt.keep {D:Nat→Prop} {h h':H} {vo vi:V} {sd:Side} (a:SideAt D h vo vi sd) (hk:∀ b,D b→b < h.n→h'.get b=h.get b):SideAt D h' vo vi sd:=by
 cases sd with
 | w out low rng=>obtain ⟨e,h1,h2,h3⟩:=a;exact ⟨e,h1,h2,h3.keep hk⟩
 | r rest code rng=>obtain ⟨e,h1,h2,h3⟩:=a;exact ⟨e,h1,h2,h3.keep hk⟩
theorem SideAt.mono {D E:Nat→Prop} {h:H} {vo vi:V} {sd:Side} (a:SideAt D h vo vi sd) (hd:∀ b,b < h.n→D b→E b):SideAt E h vo vi sd:=by
 cases sd with
 | w out low rng=>obtain ⟨e,h1,h2,h3⟩:=a;exact ⟨e,h1,h2,h3.mono hd⟩
 | r rest code rng=>obtain ⟨e,h1,h2,h3⟩:=a;exact ⟨e,h1,h2,h3.mono hd⟩
open Go.Zf (wi64)
def Side.val (t:Tb) (v:Int):Side→Nat
 | .w _ _ _=>v.toNat
 | .r _ code rng=>findP t (value code rng)
theorem value_lt (code rng:Nat):value code rng < 32768:=by unfold value;omega
theorem Side.val_may {t:Tb} {v:Int} {sd:Side} (ok:TabOk t) (hv:sd.writes=true→0≤v∧v < t.c.length):sd.val t v < t.c.length∧sd.may (pt t (sd.val t v)) (pt t (sd.val t v+1)):=by
 cases sd with
 | w out low rng =>
   have:=hv rfl
   have h1:v.toNat < t.c.length:=by omega
   exact ⟨h1,pt_lt ok h1,pt_le ok (show v.toNat+1≤_ by omega)⟩
 | r rest code rng =>
   have:=findP_lt ok (value_lt code rng)
   exact ⟨this.1,this.2.1,this.2.2,pt_le ok (Nat.succ_le_of_lt this.1)⟩
theorem writes14_ok {h:H} {p:Nat} {vo vi vs ba bn:V} {sd:Side} {D:Nat→Prop} (hp:h.get p=some (.cells [vo,vi,vs,ba,bn] 92 false)) (s:SideAt D h vo vi sd):KW 42 [.ptr p 0] h=some (.ret (.bool sd.writes),h):=by
 rw [w42,f42,s42]
 cases sd with
 | w out low rng=>obtain ⟨e,rfl,rfl,_⟩:=s;simp [rd1_of hp,Side.writes]
 | r rest code rng=>obtain ⟨e,rfl,rfl,_⟩:=s;simp [rd1_of hp,Side.writes]
theorem none44_ok {h:H} {p:Nat} {vo vi vs ba bn:V} {sd:Side} {D:Nat→Prop} (hp:h.get p=some (.cells [vo,vi,vs,ba,bn] 92 false)) (s:SideAt D h vo vi sd):KW 45 [.ptr p 0] h=some (.ret (.bool false),h):=by
 rw [w45,f45,s45]
 cases sd with
 | w out low rng=>obtain ⟨e,rfl,rfl,_⟩:=s;simp [rd1_of hp,gl_t]
 | r rest code rng=>obtain ⟨e,rfl,rfl,_⟩:=s;simp [rd1_of hp,gl_t]
theorem SideAt.ext {D:Nat→Prop} {h h':H} {vo vi:V} {sd:Side} (a:SideAt D h vo vi sd) (x:Ext h h'):SideAt D h' vo vi sd:=a.keep fun b _ hb=>x.get b hb
theorem value57_ok {D D2:Nat→Prop} {h:H} {p m:Nat} {vo vi vs ba bn vc:V} {sd:Side} {t:Tb} {v:Int} (hp:h.get p=some (.cells [vo,vi,vs,ba,bn] 92 false)) (s:SideAt D h vo vi sd) (so:SideOk m sd) (hD:∀ b,D b→b < h.n) (hDp:¬ D p) (u:U16 D2 h vc t.c) (ok:TabOk t) (hv:sd.writes=true→0≤v∧v < t.c.length) :
   RT (fun w h'=>w=.tup [.int .i64 (sd.val t v:Nat),.int .i64 0]∧SideAt (grow D h h') h' vo vi (sd.code (pt t (sd.val t v)) (pt t (sd.val t v+1)))∧Mod D h h') (KW 87 [.ptr p 0,.agg [vc,.int .i64 t.n],.int .i64 v] h):=by
 obtain ⟨h1,b1,x1,g1,n1,u1⟩:=box72 u
 have hp1:h1.get p=_:=(x1.get _ (H.get_lt hp)).trans hp
 have s1:=s.ext x1
 have e14:=writes14_ok hp1 s1
 obtain ⟨hsl,hmay⟩:=Side.val_may ok hv
 have hpl:=H.get_lt hp
 rw [w87,f87,s87]
 cases sd with
 | w out low rng =>
   obtain ⟨e,rfl,rfl,E1⟩:=s1
   have hv1:=hv rfl
   obtain ⟨k,hk⟩:∃ k:Nat,v=k:=⟨v.toNat,by omega⟩
   subst hk
   simp only [Side.val,Int.toNat_natCast] at hsl hmay ⊢
   obtain ⟨w,h2,e85,rfl,x2⟩:=(bounds85_ok u1 ok hsl).elim
   have hp2:h2.get p=_:=(x2.get _ (H.get_lt hp1)).trans hp1
   have E2:=E1.keep (h':=h2) fun b _ hb=>x2.get b hb
   have s2:SideAt D h2 (.ptr e 0) .nilp (.w out low rng):=⟨e,rfl,rfl,E2⟩
   have e142:=writes14_ok hp2 s2
   obtain ⟨h3,e82,E3,M3⟩:=put82_ok E2 so hmay.1 hmay.2
   have hx:Ext h h2:=x1.trans x2
   simp [b1,e14,Side.writes,rdN_of (o:=0) (n:=2) g1 (by simp),e85,e142,rd1_of hp2,e82]
   refine ⟨rfl,⟨e,rfl,rfl,E3.mono fun b hb hd=>?_⟩,(Mod.of hx).tr M3⟩
   rcases hd with hd | ⟨hd1,hd2⟩
   ·exact .inl hd
   ·exact .inr ⟨by have:=hx.n;omega,hd2⟩
 | r rest code rng =>
   obtain ⟨e,rfl,rfl,E1⟩:=s1
   simp only [Side.val] at hsl hmay ⊢
   obtain ⟨va,da,_⟩:=E1
   have e81:=value21_ok da so.1
   have hE1:DecD D h1 e rest code rng:=by obtain ⟨e',_,he,E⟩:=s.ext x1;cases he;exact E
   obtain ⟨w,h2,e84,rfl,x2⟩:=(find84_ok u1 ok (value_lt code rng)).elim
   have g2:h2.get h.n=_:=(x2.get _ (H.get_lt g1)).trans g1
   obtain ⟨w,h3,e85,rfl,x3⟩:=(bounds85_ok (u1.ext x2) ok hsl).elim
   have hp3:h3.get p=_:=((x2.trans x3).get _ (H.get_lt hp1)).trans hp1
   have E3:=hE1.keep (h':=h3) fun b _ hb=>(x2.trans x3).get b hb
   have s3:SideAt D h3 .nilp (.ptr e 0) (.r rest code rng):=⟨e,rfl,rfl,E3⟩
   have e143:=writes14_ok hp3 s3
   obtain ⟨h4,e83,E4,M4⟩:=take83_ok E3 so hmay.1 hmay.2.1 hmay.2.2
   have hx:Ext h h3:=(x1.trans x2).trans x3
   simp [b1,e14,Side.writes,rd1_of hp1,e81,rdN_of (o:=0) (n:=2) g1 (by simp),e84,rdN_of (o:=0) (n:=2) g2 (by simp),e85,e143,rd1_of hp3,e83]
   exact ⟨rfl,⟨e,rfl,rfl,E4.mono fun b hb hd=>.inl hd⟩,(Mod.of hx).tr M4⟩
open Go.Zf (wi64)
theorem U16.move {D E:Nat→Prop} {h h':H} {v:V} {c:List Nat} (a:U16 D h v c) (hk:∀ b x,D b→h.get b=some (.cells x tU false)→h'.get b=h.get b∧E b):U16 E h' v c:=by
 refine ⟨?_,a.2⟩
 rcases a.1 with a | ⟨b,o,k,x,h1,h2,h3,h4,h5⟩
 · exact .inl a
 · have:=hk b x h5.1 h2
   exact .inr ⟨b,o,k,x,h1,by rw [this.1,h2],h3,h4,this.2,h5.2⟩
theorem Els.move {D E:Nat→Prop} {h h':H} {cs:List V} {r:List Tb} (a:Els D h cs r) (hk:∀ b x,D b→h.get b=some (.cells x tU false)→h'.get b=h.get b∧E b):Els E h' cs r:=fun i t hi=>by
 obtain ⟨vc,h1,h2,h3⟩:=a i t hi;exact ⟨vc,h1,h2,h3.move hk⟩
theorem SetW.tab {D:Nat→Prop} {h:H} {v:V} {S:List (List Tb)} (a:SetW D h v S) {k c:Nat} {r:List Tb} {t:Tb} (hr:S[k]?=some r) (ht:r[c]?=some t) :
   ∃ bO oO vr bb cells vc,iaS 1 v (.int .i64 k)=some (.ptr bO oO)∧h.rd1 bO oO=some vr∧D bO∧bO < h.n∧iaS 2 vr (.int .i64 c)=some (.ptr bb (c*2))∧h.get bb=some (.cells cells 101 false)∧c*2+2≤cells.length∧h.rdN bb (c*2) 2=some [vc,.int .i64 t.n]∧U16 D h vc t.c∧D bb ∧
    ∀ (h1:H) (E:Nat→Prop) (vc':V) (t':Tb),(∀ b,D b→b < h.n→h1.get b=h.get b)→h.n≤h1.n→(∀ b,D b→b < h.n→E b)→U16 E h1 vc' t'.c→SetW E (h1.put bb (.cells (splice cells (c*2) [vc',.int .i64 t'.n]) 101 false)) v (S.set k (r.set c t')):=by
 obtain ⟨cs,B,h1,h2,hB⟩:=a
 have hk:=lt_of_get hr
 have hc:=lt_of_get ht
 obtain ⟨vr,k1,k2⟩:=h2 k r hr
 rcases k2 with ⟨rfl,rfl⟩ | ⟨kk,cells,rfl,g1,g2,g3,g4,g5⟩
 · simp at ht
 rcases h1 with ⟨rfl,rfl,rfl⟩ | ⟨bO,k0,rfl,o1,o2,o3,o4⟩
 · simp at hr
 obtain ⟨vc,e1,e2,e3⟩:=g4 c t ht
 refine ⟨bO,k,_,B k,cells,vc,by simp [hk],by rw [rd1_of o1,k1],o3,H.get_lt o1,by simp [hc],g1,by omega,?_,e3,g3,?_⟩
 · rw [rdN_of g1 (by omega)]
   congr 1
   apply List.ext_getElem?
   intro j
   simp only [List.getElem?_take,List.getElem?_drop]
   match j with
   | 0=>simp [Nat.mul_comm c 2,e1]
   | 1=>simp [Nat.mul_comm c 2,e2]
   | j+2=>simp;omega
 · intro h1 E vc' t' hk1 hn hE u
   obtain ⟨h9,hh9⟩:∃ g,g=h1.put (B k) (.cells (splice cells (c*2) [vc',.int .i64 t'.n]) 101 false):=⟨_,rfl⟩
   rw [← hh9]
   have g1':h1.get (B k)=some (.cells cells 101 false):=by rw [hk1 _ g3 (H.get_lt g1),g1]
   have hne:∀ b x ty,D b→h.get b=some (.cells x ty false)→b ≠ B k→h9.get b=h.get b:=fun b x ty hb hx hne=>by
    rw [hh9,get_put_ne hne,hk1 b hb (H.get_lt hx)]
   have hU:∀ b x,D b→h.get b=some (.cells x tU false)→h9.get b=h.get b:=fun b x hb hx=>hne b x tU hb hx (by rintro rfl;rw [g1] at hx;cases hx)
   refine ⟨cs,B,.inr ⟨bO,k0,by rw [List.length_set],by rw [hne bO _ _ o3 o1 (by rintro rfl;rw [g1] at o1;cases o1),o1],by rw [List.length_set];exact o2,hE _ o3 (H.get_lt o1),by rw [List.length_set];exact o4⟩,fun i s hs=>?_,fun i j hij hj=>hB i j hij (by rw [List.length_set] at hj;exact hj)⟩
   rw [List.getElem?_set] at hs
   by_cases ei:k=i
   ·subst ei
    rw [if_pos rfl,if_pos hk] at hs
    cases hs
    refine ⟨_,k1,.inr ⟨kk,_,by rw [List.length_set],by rw [hh9,get_put_same (H.get_lt g1')],by rw [splice_len (by simp;omega),List.length_set,g2],hE _ g3 (H.get_lt g1),?_,by rw [List.length_set];exact g5⟩⟩
    have hEl:Els E h9 cells r:=g4.move fun b x hb hx=>⟨hU b x hb hx,hE b hb (H.get_lt hx)⟩
    have u9:U16 E h9 vc' t'.c:=u.keep fun b x hb hx=>by rw [hh9,get_put_ne];rintro rfl;rw [g1'] at hx;cases hx
    exact hEl.set g2 hc u9
   ·rw [if_neg ei] at hs
    obtain ⟨vi,j1,j2⟩:=h2 i s hs
    refine ⟨vi,j1,?_⟩
    rcases j2 with j2 | ⟨k',c',a1,a2,a3,a4,a5,a6⟩
    ·exact .inl j2
    ·have hi:=lt_of_get hs
     have hBi:B i ≠ B k:=by
      rcases Nat.lt_or_gt_of_ne ei with e | e
      ·have:=hB k i e hi;omega
      ·have:=hB i k e hk;omega
     exact .inr ⟨k',c',a1,by rw [hne _ _ _ a4 a2 hBi,a2],a3,hE _ a4 (H.get_lt a2),a5.move (fun b x hb hx=>⟨hU b x hb hx,hE b hb (H.get_lt hx)⟩),a6⟩
structure St where
 sd:Side
 S:List (List Tb)
 ad:Bool
 n:Int
def tabOf (S:List (List Tb)) (k c:Nat):Tb:=(S.getD k []).getD c ⟨[],0⟩
theorem SetOk.get {S:List (List Tb)} (a:SetOk S) {k c:Nat} (hk:k < 32) (hc:c < cx k):∃ r,S[k]?=some r∧r[c]?=some (tabOf S k c)∧TabOk (tabOf S k c)∧(tabOf S k c).c.length=vl k:=by
 obtain ⟨r,hr⟩:=get_of_lt (l:=S) (i:=k) (by rw [a.1];exact hk)
 have h1:=a.2 k r hr
 obtain ⟨t,ht⟩:=get_of_lt (l:=r) (i:=c) (by rw [h1.1];exact hc)
 have e:tabOf S k c=t:=by simp [tabOf,hr,ht]
 rw [e]
 exact ⟨r,hr,ht,(h1.2 c t ht).2,(h1.2 c t ht).1⟩
theorem SetOk.set {S:List (List Tb)} (a:SetOk S) {k c:Nat} {t:Tb} (hk:k < 32) (ht:TabOk t) (hl:t.c.length=vl k):SetOk (S.set k ((S.getD k []).set c t)):=by
 refine ⟨by rw [List.length_set];exact a.1,fun i r hr=>?_⟩
 rw [List.getElem?_set] at hr
 by_cases e:k=i
 · subst e
   rw [if_pos rfl,if_pos (by rw [a.1];exact hk)] at hr
   cases hr
   obtain ⟨r,hr⟩:=get_of_lt (l:=S) (i:=k) (by rw [a.1];exact hk)
   have h1:=a.2 k r hr
   have e1:S.getD k []=r:=by simp [hr]
   rw [e1]
   refine ⟨by rw [List.length_set];exact h1.1,fun j s hs=>?_⟩
   rw [List.getElem?_set] at hs
   by_cases e2:c=j
   ·rw [if_pos e2] at hs
    split at hs
    ·cases hs;exact ⟨hl,ht⟩
    ·cases hs
   ·rw [if_neg e2] at hs;exact h1.2 j s hs
 · rw [if_neg e] at hr;exact a.2 i r hr
def St.sym (st:St) (k c:Nat) (v:Int):St :=
 ⟨st.sd.code (pt (tabOf st.S k c) (st.sd.val (tabOf st.S k c) v)) (pt (tabOf st.S k c) (st.sd.val (tabOf st.S k c) v+1)),
  if st.ad then st.S.set k ((st.S.getD k []).set c (adaptP (tabOf st.S k c) (st.sd.val (tabOf st.S k c) v))) else st.S,st.ad,st.n+1⟩
def St.symV (st:St) (k c:Nat) (v:Int):Nat:=st.sd.val (tabOf st.S k c) v
def CoderAt (D:Nat→Prop) (h:H) (p m:Nat) (st:St):Prop :=
 ∃ vo vi vs Ds Dw,h.get p=some (.cells [vo,vi,vs,.bool st.ad,.int .i64 st.n] 92 false)∧D p∧SideAt Ds h vo vi st.sd∧SideOk m st.sd∧SetW Dw h vs st.S∧SetOk st.S∧(0≤st.n∧st.n≤100*m) ∧
   (∀ b,Ds b→D b∧b ≠ p∧b < h.n)∧(∀ b,Dw b→D b∧b ≠ p∧b < h.n∧¬ Ds b)
theorem CoderAt.keep {D:Nat→Prop} {h h':H} {p m:Nat} {st:St} (a:CoderAt D h p m st) (hn:h.n≤h'.n) (hk:∀ b,D b→b < h.n→h'.get b=h.get b):CoderAt D h' p m st:=by
 obtain ⟨vo,vi,vs,Ds,Dw,h1,h2,h3,h4,h5,h6,h7,h8,h9⟩:=a
 exact ⟨vo,vi,vs,Ds,Dw,by rw [hk p h2 (H.get_lt h1),h1],h2,h3.keep fun b hb hb2=>hk b (h8 b hb).1 hb2,h4,h5.keep fun b hb hb2=>hk b (h9 b hb).1 hb2,h6,h7,
   fun b hb=>by have:=h8 b hb;exact ⟨this.1,this.2.1,by omega⟩,fun b hb=>by have:=h9 b hb;exact ⟨this.1,this.2.1,by omega,this.2.2.2⟩⟩
theorem CoderAt.mono {D E:Nat→Prop} {h:H} {p m:Nat} {st:St} (a:CoderAt D h p m st) (hd:∀ b,b < h.n→D b→E b):CoderAt E h p m st:=by
 obtain ⟨vo,vi,vs,Ds,Dw,h1,h2,h3,h4,h5,h6,h7,h8,h9⟩:=a
 exact ⟨vo,vi,vs,Ds,Dw,h1,hd p (H.get_lt h1) h2,h3,h4,h5,h6,h7,
   fun b hb=>by have:=h8 b hb;exact ⟨hd b this.2.2 this.1,this.2.1,this.2.2⟩,fun b hb=>by have:=h9 b hb;exact ⟨hd b this.2.2.1 this.1,this.2.1,this.2.2.1,this.2.2.2⟩⟩
open Go.Zf (wi64)
theorem symbol30_ok {D:Nat→Prop} {h:H} {p m:Nat} {st:St} {k c:Nat} {v:Int} (a:CoderAt D h p m st) (hm:m+1 < 100000000) (hk:k < 32) (hc:c < cx k) (hv:st.sd.writes=true→0≤v∧v < vl k) :
   RT (fun w h'=>w=.tup [.int .i64 (st.symV k c v:Nat),.int .i64 0]∧CoderAt (grow D h h') h' p (m+1) (st.sym k c v)∧Mod D h h') (KW 44 [.ptr p 0,.int .i64 k,.int .i64 c,.int .i64 v] h):=by
 obtain ⟨vo,vi,vs,Ds,Dw,h1,h2,h3,h4,h5,h6,h7,h8,h9⟩:=a
 have e44:=none44_ok h1 h3
 obtain ⟨w,g,e33,rfl,x⟩:=(shape33_ok k h).elim
 rw [if_pos ⟨by omega,by omega⟩,Int.toNat_natCast] at e33
 have xn:=x.n
 have hpl:=H.get_lt h1
 have hp:g.get p=_:=(x.get _ hpl).trans h1
 have e14:=writes14_ok hp (h3.ext x)
 obtain ⟨r,hr,ht,tok,tl⟩:=h6.get hk hc
 have hcx:=cx_le hk
 obtain ⟨t,htd⟩:∃ t,t=tabOf st.S k c:=⟨_,rfl⟩
 rw [← htd] at ht tok tl
 obtain ⟨bO,oO,vr,bb,cells,vc,t1,t2,t3,t4,t5,t6,t7,t8,t9,t10,t11⟩:=(h5.ext x).tab hr ht
 have hDsg:∀ b,Ds b→b < g.n:=fun b hb=>by have:=(h8 b hb).2.2;omega
 have hDp:¬ Ds p:=fun hb=>(h8 p hb).2.1 rfl
 have hv':st.sd.writes=true→0≤v∧v < t.c.length:=by rw [tl];exact hv
 obtain ⟨w,g2,e57,rfl,s2,M2⟩:=(value57_ok hp (h3.ext x) h4 hDsg hDp t9 tok hv').elim
 obtain ⟨hsl,hmay⟩:=Side.val_may tok hv'
 have so2:=Side.code_ok h4 hm hmay
 have M2n:=M2.n
 have hp2:g2.get p=_:=(M2.get p (by omega) hDp).trans hp
 have hDw2:∀ b,Dw b→b < g.n→g2.get b=g.get b:=fun b hb hb2=>M2.get b hb2 (h9 b hb).2.2.2
 have bb2:g2.get bb=_:=(hDw2 bb t10 (H.get_lt t6)).trans t6
 have t8':g2.rdN bb (c*2) 2=some [vc,.int .i64 t.n]:=by rw [← t8];unfold H.rdN;rw [bb2,t6]
 have hbp:bb ≠ p:=(h9 bb t10).2.1
 have zn:IntKind.i64.wrap (st.n+1)=st.n+1:=wi64 (by omega) (by omega)
 obtain ⟨s,hs⟩:∃ s,s=st.sd.val t v:=⟨_,rfl⟩
 have hsv:st.symV k c v=s:=by rw [hs,htd];rfl
 rw [← hs] at e57 s2 hsl so2
 rw [hsv]
 have cw:¬ ((st.sd.writes=true)∧(v < 0∨(vl k:Int)≤v)):=fun hw=>by have:=hv hw.1;omega
 have hsym:st.sym k c v=⟨st.sd.code (pt t s) (pt t (s+1)),if st.ad then st.S.set k ((st.S.getD k []).set c (adaptP t s)) else st.S,st.ad,st.n+1⟩:=by
   rw [St.sym,← htd,← hs]
 have hgr:st.S.getD k []=r:=by simp [hr]
 rw [w44,f44,s44]
 cases had:st.ad with
 | false =>
   obtain ⟨g5,hg5⟩:∃ x,x=g2.put p (.cells [vo,vi,vs,.bool st.ad,.int .i64 (st.n+1)] 92 false):=⟨_,rfl⟩
   have hw5:g2.wr1 p 4 (.int .i64 (st.n+1))=some g5:=by rw [wr1_of hp2 (by simp),hg5];rfl
   have hfin:CoderAt (grow D h g5) g5 p (m+1) (st.sym k c v)∧Mod D h g5:=by
    have hn5:g5.n=g2.n:=by rw [hg5,H.n_put]
    refine ⟨⟨vo,vi,vs,grow Ds g g2,Dw,?_,.inl h2,?_,?_,?_,?_,?_,fun b hb=>?_,fun b hb=>?_⟩,⟨by omega,fun d hd hdd=>?_⟩⟩
    ·rw [hg5,get_put_same (H.get_lt hp2),hsym]
    ·rw [hsym]
     exact s2.keep fun b hb hb2=>by
      rw [hg5,get_put_ne];rintro rfl
      rcases hb with hb | hb
      ·exact hDp hb
      ·omega
    ·rw [hsym];exact so2
    ·rw [hsym,had]
     exact (h5.ext x).keep fun b hb hb2=>by rw [hg5,get_put_ne (h9 b hb).2.1,hDw2 b hb hb2]
    ·rw [hsym,had];exact h6
    ·rw [hsym];show 0≤st.n+1∧st.n+1≤100*((m+1:Nat):Int);omega
    ·rcases hb with hb | hb
     ·have:=h8 b hb;exact ⟨.inl this.1,this.2.1,by omega⟩
     ·exact ⟨.inr ⟨by omega,by omega⟩,by omega,by omega⟩
    ·have:=h9 b hb
     refine ⟨.inl this.1,this.2.1,by omega,?_⟩
     rintro (h | h)
     ·exact this.2.2.2 h
     ·omega
    ·rw [hg5,get_put_ne (fun e=>hdd (by rw [e];exact h2)),M2.get d (by omega) (fun hb=>hdd (h8 d hb).1),x.get d hd]
   rw [had] at hp2 hp
   cases hw:st.sd.writes with
   | false =>
    rw [hw] at e14
    simp [e44,e33,show ¬ (c:Int) < 0 by omega,show ¬ (cx k:Int)≤c by omega,show ¬ cx k≤c by omega,e14,gl_t,rd1_of hp,t1,t2,t5,t8,e57,rd1_of hp2,zn,hw5]
    exact ⟨rfl,hfin⟩
   | true =>
    rw [hw] at e14
    have:=hv hw
    simp [e44,e33,show ¬ (c:Int) < 0 by omega,show ¬ (cx k:Int)≤c by omega,show ¬ cx k≤c by omega,e14,show ¬ v < 0 by omega,show ¬ (vl k:Int)≤v by omega,gl_t,rd1_of hp,t1,t2,t5,t8,e57,rd1_of hp2,zn,hw5]
    exact ⟨rfl,hfin⟩
 | true =>
   have U2:U16 Dw g2 vc t.c:=t9.keep fun b x hb hx=>hDw2 b hb (H.get_lt hx)
   obtain ⟨w,g3,e35,vt,rfl,⟨vc',rfl,U3⟩,x3⟩:=(adapt35_ok U2 tok hsl).elim
   have x3n:=x3.n
   have bb3:g3.get bb=_:=(x3.get _ (H.get_lt bb2)).trans bb2
   have hp3:g3.get p=_:=(x3.get _ (H.get_lt hp2)).trans hp2
   obtain ⟨g4,hg4⟩:∃ x,x=g3.put bb (.cells (splice cells (c*2) [vc',.int .i64 (adaptP t s).n]) 101 false):=⟨_,rfl⟩
   have hw4:g3.wrN bb (c*2) [vc',.int .i64 (adaptP t s).n]=some g4:=by rw [wrN_of bb3 (by simp;omega),hg4]
   have hp4:g4.get p=_:=(show g4.get p=g3.get p by rw [hg4,get_put_ne (fun e=>hbp e.symm)]).trans hp3
   have W4:SetW (fun b=>Dw b∨(g2.n≤b∧b < g3.n)) g4 vs (st.S.set k (r.set c (adaptP t s))):=by
    rw [hg4]
    refine t11 g3 _ vc' (adaptP t s) (fun b hb hb2=>by rw [x3.get b (by omega),hDw2 b hb hb2]) (by omega) (fun b hb _=>.inl hb) (U3.mono fun b hb hd=>.inr ⟨hd,hb⟩)
   obtain ⟨g5,hg5⟩:∃ x,x=g4.put p (.cells [vo,vi,vs,.bool st.ad,.int .i64 (st.n+1)] 92 false):=⟨_,rfl⟩
   have hw5:g4.wr1 p 4 (.int .i64 (st.n+1))=some g5:=by rw [wr1_of hp4 (by simp),hg5];rfl
   have hn4:g4.n=g3.n:=by rw [hg4,H.n_put]
   have hn5:g5.n=g3.n:=by rw [hg5,H.n_put,hn4]
   have hfin:CoderAt (grow D h g5) g5 p (m+1) (st.sym k c v)∧Mod D h g5:=by
    refine ⟨⟨vo,vi,vs,grow Ds g g2,fun b=>Dw b∨(g2.n≤b∧b < g3.n),?_,.inl h2,?_,?_,?_,?_,?_,fun b hb=>?_,fun b hb=>?_⟩,⟨by omega,fun d hd hdd=>?_⟩⟩
    ·rw [hg5,get_put_same (H.get_lt hp4),hsym]
    ·rw [hsym]
     exact s2.keep fun b hb hb2=>by
      have hbp2:b ≠ p:=by
       rintro rfl
       rcases hb with hb | hb
       ·exact hDp hb
       ·omega
      have hbb:b ≠ bb:=by
       rintro rfl
       rcases hb with hb | hb
       ·exact (h9 b t10).2.2.2 hb
       ·have:=(h9 b t10).2.2.1;omega
      rw [hg5,get_put_ne hbp2,hg4,get_put_ne hbb,x3.get b hb2]
    ·rw [hsym];exact so2
    ·rw [hsym,if_pos had,hgr]
     exact W4.keep fun b hb hb2=>by
      rw [hg5,get_put_ne];rintro rfl
      rcases hb with hb | hb
      ·exact (h9 b hb).2.1 rfl
      ·omega
    ·rw [hsym,if_pos had];exact h6.set hk (adaptP_ok tok s) (by rw [adaptP_len,tl])
    ·rw [hsym];show 0≤st.n+1∧st.n+1≤100*((m+1:Nat):Int);omega
    ·rcases hb with hb | hb
     ·have:=h8 b hb;exact ⟨.inl this.1,this.2.1,by omega⟩
     ·exact ⟨.inr ⟨by omega,by omega⟩,by omega,by omega⟩
    ·rcases hb with hb | hb
     ·have:=h9 b hb
      refine ⟨.inl this.1,this.2.1,by omega,?_⟩
      rintro (h | h)
      ·exact this.2.2.2 h
      ·omega
     ·refine ⟨.inr ⟨by omega,by omega⟩,by omega,by omega,?_⟩
      rintro (h | h)
      ·have:=(h8 b h).2.2;omega
      ·omega
    ·rw [hg5,get_put_ne (fun e=>hdd (by rw [e];exact h2)),hg4,get_put_ne (fun e=>hdd (by rw [e];exact (h9 bb t10).1)),x3.get d (by omega),M2.get d (by omega) (fun hb=>hdd (h8 d hb).1),x.get d hd]
   rw [had] at hp2 hp hp4
   cases hw:st.sd.writes with
   | false =>
    rw [hw] at e14
    simp [e44,e33,show ¬ (c:Int) < 0 by omega,show ¬ (cx k:Int)≤c by omega,show ¬ cx k≤c by omega,e14,gl_t,rd1_of hp,t1,t2,t5,t8,e57,rd1_of hp2,t8',e35,hw4,rd1_of hp4,zn,hw5]
    exact ⟨rfl,hfin⟩
   | true =>
    rw [hw] at e14
    have:=hv hw
    simp [e44,e33,show ¬ (c:Int) < 0 by omega,show ¬ (cx k:Int)≤c by omega,show ¬ cx k≤c by omega,e14,show ¬ v < 0 by omega,show ¬ (vl k:Int)≤v by omega,gl_t,rd1_of hp,t1,t2,t5,t8,e57,rd1_of hp2,t8',e35,hw4,rd1_of hp4,zn,hw5]
    exact ⟨rfl,hfin⟩
open Go.Zf (wi64)
def Side.bit (v:Nat):Side→Nat
 | .w _ _ _=>v
 | .r _ code rng=>value code rng / 16384
theorem Side.bit_may {v:Nat} (hv:v < 2) (sd:Side):sd.bit v < 2∧sd.may (sd.bit v*16384) (sd.bit v*16384+16384):=by
 cases sd with
 | w out low rng=>exact ⟨hv,by show v*16384 < v*16384+16384;omega,by show v*16384+16384≤32768;omega⟩
 | r rest code rng =>
   have:=value_lt code rng
   refine ⟨by show value code rng / 16384 < 2;omega,?_,?_,?_⟩
   ·show value code rng / 16384*16384≤value code rng;omega
   ·show value code rng < value code rng / 16384*16384+16384;omega
   ·show value code rng / 16384*16384+16384≤32768;omega
def bits:Nat→Nat→Nat→Side→Nat × Side
 | 0,_,out,sd=>(out,sd)
 | j+1,v,out,sd=>bits j v (2*out+sd.bit (v / 2 ^ j % 2)) (sd.code (sd.bit (v / 2 ^ j % 2)*16384) (sd.bit (v / 2 ^ j % 2)*16384+16384))
theorem bits_ok:∀ (j v out:Nat) {m:Nat} {sd:Side},SideOk m sd→m+j < 100000000→SideOk (m+j) (bits j v out sd).2∧(bits j v out sd).1 < (out+1)*2 ^ j
 | 0,v,out,m,sd,ok,hm=>⟨ok,by simp [bits]⟩
 | j+1,v,out,m,sd,ok,hm=>by
   have h1:=Side.bit_may (v:=v / 2 ^ j % 2) (by omega) sd
   have ih:=bits_ok j v (2*out+sd.bit (v / 2 ^ j % 2)) (Side.code_ok ok (by omega) h1.2) (by omega)
   refine ⟨by rw [show m+(j+1)=m+1+j by omega];exact ih.1,Nat.lt_of_lt_of_le ih.2 ?_⟩
   rw [Nat.pow_succ,Nat.mul_comm (2 ^ j) 2,← Nat.mul_assoc]
   exact Nat.mul_le_mul_right _ (by omega)
theorem bit56_ok {D:Nat→Prop} {h:H} {p m:Nat} {vo vi vs ba bn:V} {sd:Side} {v:Int} (hp:h.get p=some (.cells [vo,vi,vs,ba,bn] 92 false)) (s:SideAt D h vo vi sd) (so:SideOk m sd) (hv:0≤v∧v < 2) :
   RT (fun w h'=>w=.tup [.int .i64 (sd.bit v.toNat:Nat),.int .i64 0]∧SideAt (grow D h h') h' vo vi (sd.code (sd.bit v.toNat*16384) (sd.bit v.toNat*16384+16384))∧Mod D h h') (KW 133 [.ptr p 0,.int .i64 v] h):=by
 have e14:=writes14_ok hp s
 obtain ⟨n,rfl⟩:∃ n:Nat,v=n:=⟨v.toNat,by omega⟩
 rw [Int.toNat_natCast]
 obtain ⟨hb,hmay⟩:=Side.bit_may (v:=n) (by omega) sd
 rw [w133,f133,s133]
 cases sd with
 | w out low rng =>
   obtain ⟨e,rfl,rfl,E1⟩:=s
   simp only [Side.bit] at hb hmay ⊢
   obtain ⟨h3,e82,E3,M3⟩:=put82_ok E1 so hmay.1 hmay.2
   have z1:IntKind.u32.wrap (n:Int)=n:=wu32 (by omega) (by omega)
   have z2:IntKind.u32.wrap ((n:Int)*16384)=n*16384:=wu32 (by omega) (by omega)
   have z3:IntKind.u32.wrap ((n:Int)*16384+16384)=n*16384+16384:=wu32 (by omega) (by omega)
   simp at e82
   simp [e14,Side.writes,z1,z2,z3,rd1_of hp,e82]
   exact ⟨rfl,⟨e,rfl,rfl,E3⟩,M3⟩
 | r rest code rng =>
   obtain ⟨e,rfl,rfl,E1⟩:=s
   simp only [Side.bit] at hb hmay ⊢
   have hE:=E1
   obtain ⟨va,da,_⟩:=E1
   have e81:=value21_ok da so.1
   obtain ⟨h4,e83,E4,M4⟩:=take83_ok hE so hmay.1 hmay.2.1 hmay.2.2
   obtain ⟨b,hbe⟩:∃ b,b=value code rng / 16384:=⟨_,rfl⟩
   rw [← hbe] at e83 hb E4 ⊢
   have hd:((value code rng:Nat):Int).tdiv 16384=(b:Int):=by rw [Int.tdiv_eq_ediv_of_nonneg (by omega),hbe];simp
   have z0:IntKind.u32.wrap (b:Int)=b:=wu32 (by omega) (by omega)
   have z1:IntKind.i64.wrap (b:Int)=b:=wi64 (by omega) (by omega)
   have z2:IntKind.u32.wrap ((b:Int)*16384)=b*16384:=wu32 (by omega) (by omega)
   have z3:IntKind.u32.wrap ((b:Int)*16384+16384)=b*16384+16384:=wu32 (by omega) (by omega)
   simp at e83
   simp [e14,Side.writes,rd1_of hp,e81,hd,z0,z1,z2,z3,e83]
   exact ⟨rfl,⟨e,rfl,rfl,E4.mono fun b hb hd=>.inl hd⟩,M4⟩
theorem or_bit {a b:Nat} (ha:a < 4611686018427387904) (hb:b < 2):IntKind.i64.wrap ((BitVec.ofInt 64 (2*(a:Int)) ||| BitVec.ofInt 64 (b:Int)).toNat:Int)=((2*a+b:Nat):Int):=by
 have e1:(BitVec.ofInt 64 (2*(a:Int))).toNat=2*a:=by
   rw [show (2*(a:Int))=((2*a:Nat):Int) by simp,BitVec.ofInt_natCast,BitVec.toNat_ofNat,Nat.mod_eq_of_lt (by omega)]
 have e2:(BitVec.ofInt 64 (b:Int)).toNat=b:=by
   rw [BitVec.ofInt_natCast,BitVec.toNat_ofNat,Nat.mod_eq_of_lt (by omega)]
 rw [BitVec.toNat_or,e1,e2]
 have:=Nat.shiftLeft_add_eq_or_of_lt (a:=a) (i:=1) (b:=b) (by omega)
 rw [Nat.shiftLeft_eq,Nat.pow_one,Nat.mul_comm a 2] at this
 rw [← this]
 exact wi64 (by omega) (by omega)
open Go.Zf (wi64)
def St.num (st:St) (n v:Nat):St:=⟨(bits n v 0 st.sd).2,st.S,st.ad,st.n+n⟩
def St.numV (st:St) (n v:Nat):Nat:=(bits n v 0 st.sd).1
theorem Side.code_writes (sd:Side) (lo hi:Nat):(sd.code lo hi).writes=sd.writes:=by cases sd <;> rfl
theorem bit_any {sd:Side} {v:Int} (hv:sd.writes=true→0≤v) (j:Nat):sd.bit (v.fdiv (2 ^ j) % 2).toNat=sd.bit (v.toNat / 2 ^ j % 2):=by
 cases sd with
 | w out low rng =>
   have h0:=hv rfl
   obtain ⟨n,rfl⟩:∃ n:Nat,v=n:=⟨v.toNat,by omega⟩
   show ((n:Int).fdiv (2 ^ j) % 2).toNat=(n:Int).toNat / 2 ^ j % 2
   rw [Int.toNat_natCast,Int.fdiv_eq_ediv_of_nonneg _ (Int.pow_nonneg (by decide))]
   have:((n:Int) / 2 ^ j % 2)=((n / 2 ^ j % 2:Nat):Int):=by simp
   rw [this,Int.toNat_natCast]
 | r rest code rng=>rfl
structure I29 (h0:H) (Ds:Nat→Prop) (p m n:Nat) (v:Int) (vo vi:V) (c:List V) (st0:Side) (j:Nat) (e:E) (g:H):Prop where
 hj:j≤n
 md:Mod Ds h0 g
 q:∃ sd out,SideAt (grow Ds h0 g) g vo vi sd∧SideOk (m+(n - j)) sd∧sd.writes=st0.writes∧out < pw (n - j)∧bits j v.toNat out sd=bits n v.toNat 0 st0∧e.s [0,1,2,6,7,8,9,10,11,36,37] 8=.int .i64 (out:Nat)
 e0:e.s [0,1,2,6,7,8,9,10,11,36,37] 0=.ptr p 0
 e1:e.s [0,1,2,6,7,8,9,10,11,36,37] 1=.int .i64 n
 e2:e.s [0,1,2,6,7,8,9,10,11,36,37] 2=.int .i64 v
 e36:e.s [0,1,2,6,7,8,9,10,11,36,37] 36=.int .i64 n
 e37:e.s [0,1,2,6,7,8,9,10,11,36,37] 37=.int .i64 ((n - j:Nat):Int)
theorem loop29 {Ds:Nat→Prop} {h:H} {p m n:Nat} {v:Int} {vo vi vs ba bn:V} {sd0:Side} (hp:h.get p=some (.cells [vo,vi,vs,ba,bn] 92 false)) (hDp:¬ Ds p) (hn:n≤30) (hm:m+n < 100000000) (hv:sd0.writes=true→0≤v) {e:E} {g:H} (hi:I29 h Ds p m n v vo vi [] sd0 n e g) :
   ∃ e' g',loopZ (l84_0 KW loopZ) e g=some ⟨.ex 1,e',g'⟩∧I29 h Ds p m n v vo vi [] sd0 0 e' g':=by
 have loop:=loop_run (body:=l84_0 KW loopZ) (I29 h Ds p m n v vo vi [] sd0) (fun s=>s.x=.ex 1∧I29 h Ds p m n v vo vi [] sd0 0 s.e s.h)
   (fun j e g hi=>by
    obtain ⟨hj,md,⟨sd,out,q1,q2,q3,q4,q5,e8⟩,e0,e1,e2,e36,e37⟩:=hi
    have hpl:=H.get_lt hp
    have hpg:g.get p=_:=(md.get p hpl hDp).trans hp
    have hgn:=md.n
    cases j with
    | zero =>
     simp [l84_0,e36,e37]
     exact ⟨rfl,hj,md,⟨sd,out,q1,q2,q3,q4,q5,by simp [e8]⟩,by simp [e0],by simp [e1],by simp [e2],by simp [e36],by simp [e37]⟩
    | succ j =>
     obtain ⟨i,hi⟩:∃ i,i=n - (j+1):=⟨_,rfl⟩
     have hi2:n - j=i+1:=by omega
     rw [← hi] at e37 q2 q4
     obtain ⟨y,hy⟩:∃ y,y=v.fdiv (2 ^ j) % 2:=⟨_,rfl⟩
     have hy2:0≤y∧y < 2:=by rw [hy];omega
     obtain ⟨w,g1,e56,rfl,s1,M1⟩:=(bit56_ok (D:=grow Ds h g) hpg q1 q2 hy2).elim
     have hb:=bit_any (sd:=sd) (v:=v) (by rw [q3];exact hv) j
     rw [← hy] at hb
     rw [hb] at e56 s1
     have hbm:=Side.bit_may (v:=v.toNat / 2 ^ j % 2) (by omega) sd
     have hpw:pw i≤pw 30:=Nat.pow_le_pow_right (by decide) (by omega)
     have hpw2:pw (i+1)=2*pw i:=by simp [pw,Nat.pow_succ,Nat.mul_comm]
     have hp30:pw 30=1073741824:=by decide
     have z1:IntKind.i64.wrap ((n:Int) - 1)=n - 1:=wi64 (by omega) (by omega)
     have z2:IntKind.i64.wrap ((n:Int) - 1 - (i:Int))=(j:Int):=by rw [wi64 (by omega) (by omega)];omega
     have z3:IntKind.i64.wrap ((i:Int)+1)=i+1:=wi64 (by omega) (by omega)
     have hmin:min j IntKind.i64.bits=j:=Nat.min_eq_left (by rw [show IntKind.i64.bits=64 from rfl];omega)
     have mk:binK 0 .and (.int .i64 (v.fdiv (2 ^ j))) (.int .i64 1)=some (.int .i64 y):=by
      have:=binK_mask 0 (v.fdiv (2 ^ j)) 1 (by decide)
      rw [hy];simpa using this
     obtain ⟨b,hbe⟩:∃ b,b=sd.bit (v.toNat / 2 ^ j % 2):=⟨_,rfl⟩
     rw [← hbe] at e56 s1 hbm
     have z4:IntKind.i64.wrap ((out:Int)*2)=2*out:=by rw [wi64 (by omega) (by omega)];omega
     have mo:binK 0 .or (.int .i64 (2*(out:Int))) (.int .i64 (b:Nat))=some (.int .i64 ((2*out+b:Nat):Int)):=by
      rw [binK_or];exact congrArg (fun x=>some (V.int .i64 x)) (or_bit (by omega) hbm.1)
     have hsh:min (1:Nat) IntKind.i64.bits=1:=rfl
     simp [-binK_and,-binK_or,l84_0,e36,e37,show (i:Int) < n by omega,show i < n by omega,e0,e1,z1,z2,e2,show ¬ (j:Int) < 0 by omega,hmin,mk,e56,e8,hsh,z4,mo,z3]
     have M2:Mod Ds h g1:=md.trans M1
     refine ⟨j,Nat.lt_succ_self j,by omega,M2,⟨_,2*out+b,s1.mono fun d hd hdd=>?_,?_,by rw [Side.code_writes];exact q3,by rw [hi2,hpw2];omega,?_,by simp⟩,by simp [e0],by simp [e1],by simp [e2],by simp [e36],by simp [hi2]⟩
     ·rcases hdd with (hd1 | hd1) | hd1
      ·exact .inl hd1
      ·exact .inr ⟨hd1.1,hd⟩
      ·exact .inr ⟨by omega,hd⟩
     ·rw [hi2,← Nat.add_assoc];exact Side.code_ok q2 (by omega) hbm.2
     ·rw [← q5,bits,← hbe])
 obtain ⟨⟨x,e',g'⟩,r1,r2,r3⟩:=loop n e g hi
 simp only at r2 r3
 subst r2
 exact ⟨e',g',r1,r3⟩
open Go.Zf (wi64)
theorem bits29_ok {D:Nat→Prop} {h:H} {p m n:Nat} {st:St} {v:Int} (a:CoderAt D h p m st) (hn:n≤30) (hm:m+n < 100000000) (hv:st.sd.writes=true→0≤v∧v < pw n) :
   RT (fun w h'=>w=.tup [.int .i64 (st.numV n v.toNat:Nat),.int .i64 0]∧CoderAt (grow D h h') h' p (m+n) (st.num n v.toNat)∧Mod D h h') (KW 84 [.ptr p 0,.int .i64 n,.int .i64 v] h):=by
 obtain ⟨vo,vi,vs,Ds,Dw,h1,h2,h3,h4,h5,h6,h7,h8,h9⟩:=a
 have e44:=none44_ok h1 h3
 have e14:=writes14_ok h1 h3
 have hpl:=H.get_lt h1
 have hDp:¬ Ds p:=fun hb=>(h8 p hb).2.1 rfl
 obtain ⟨e',g',r1,I⟩:=loop29 (v:=v) (n:=n) (m:=m) h1 hDp hn hm (fun hw=>(hv hw).1)
   (e:=⟨[.ptr p 0,.int .i64 n,.int .i64 v,.int .i64 0,.int .i64 0,.int .i64 0,.tup [],.tup [],.tup [],.int .i64 n,.int .i64 0],37,.int .i64 0⟩) (g:=h)
   ⟨Nat.le_refl _,Mod.refl _ _,⟨st.sd,0,h3.mono fun b _ hb=>.inl hb,by rw [Nat.sub_self];exact h4,rfl,by rw [Nat.sub_self];decide,rfl,by simp⟩,by simp,by simp,by simp,by simp,by simp⟩
 obtain ⟨_,md,⟨sd,out,q1,q2,q3,q4,q5,e8⟩,e0,e1,e2,e36,e37⟩:=I
 have q5':(out,sd)=bits n v.toNat 0 st.sd:=q5
 have hout:out=st.numV n v.toNat:=by rw [St.numV,← q5']
 have hsd:sd=(st.num n v.toNat).sd:=by rw [St.num,← q5']
 rw [Nat.sub_zero] at q2
 have mn:=md.n
 have hp':g'.get p=_:=(md.get p hpl hDp).trans h1
 obtain ⟨g5,hg5⟩:∃ x,x=g'.put p (.cells [vo,vi,vs,.bool st.ad,.int .i64 (st.n+n)] 92 false):=⟨_,rfl⟩
 have hw5:g'.wr1 p 4 (.int .i64 (st.n+n))=some g5:=by rw [wr1_of hp' (by simp),hg5];rfl
 have zn:IntKind.i64.wrap (st.n+n)=st.n+n:=wi64 (by omega) (by omega)
 have hfin:CoderAt (grow D h g5) g5 p (m+n) (st.num n v.toNat)∧Mod D h g5:=by
   have hn5:g5.n=g'.n:=by rw [hg5,H.n_put]
   refine ⟨⟨vo,vi,vs,grow Ds h g',Dw,?_,.inl h2,?_,?_,?_,h6,?_,fun b hb=>?_,fun b hb=>?_⟩,⟨by omega,fun d hd hdd=>?_⟩⟩
   ·rw [hg5,get_put_same (H.get_lt hp')];rfl
   ·rw [← hsd]
    exact q1.keep fun b hb hb2=>by
     rw [hg5,get_put_ne];rintro rfl
     rcases hb with hb | hb
     ·exact hDp hb
     ·omega
   ·rw [← hsd];exact q2
   ·exact h5.keep fun b hb hb2=>by rw [hg5,get_put_ne (h9 b hb).2.1,md.get b hb2 (h9 b hb).2.2.2]
   ·show 0≤st.n+n∧st.n+n≤100*((m+n:Nat):Int);omega
   ·rcases hb with hb | hb
    ·have:=h8 b hb;exact ⟨.inl this.1,this.2.1,by omega⟩
    ·exact ⟨.inr ⟨by omega,by omega⟩,by omega,by omega⟩
   ·have:=h9 b hb
    refine ⟨.inl this.1,this.2.1,by omega,?_⟩
    rintro (h | h)
    ·exact this.2.2.2 h
    ·omega
   ·rw [hg5,get_put_ne (fun e=>hdd (by rw [e];exact h2)),md.get d hd (fun hb=>hdd (h8 d hb).1)]
 rw [← hout]
 rw [w84,f84,s84]
 cases hw:st.sd.writes with
 | false =>
   rw [hw] at e14
   simp [e44,show ¬ (n:Int) < 0 by omega,show ¬ (30:Int) < n by omega,show ¬ 30 < n by omega,e14,gl_t,r1,e0,rd1_of hp',e1,zn,hw5,e8]
   exact ⟨rfl,hfin⟩
 | true =>
   rw [hw] at e14
   have hv1:=hv hw
   have hmin:min n IntKind.i64.bits=n:=Nat.min_eq_left (by rw [show IntKind.i64.bits=64 from rfl];omega)
   have hsh:v.fdiv (2 ^ n)=0:=by
    rw [Int.fdiv_eq_ediv_of_nonneg _ (Int.pow_nonneg (by decide))]
    apply Int.ediv_eq_zero_of_lt hv1.1
    have:=hv1.2
    rw [pw] at this
    simpa using this
   simp [e44,show ¬ (n:Int) < 0 by omega,show ¬ (30:Int) < n by omega,show ¬ 30 < n by omega,e14,show ¬ v < 0 by omega,hmin,hsh,gl_t,r1,e0,rd1_of hp',e1,zn,hw5,e8]
   exact ⟨rfl,hfin⟩
theorem count32_ok {D:Nat→Prop} {h:H} {p m:Nat} {st:St} (a:CoderAt D h p m st):KW 12 [.ptr p 0] h=some (.ret (.int .i64 st.n),h):=by
 obtain ⟨vo,vi,vs,Ds,Dw,h1,h2,h3,h4,h5,h6,h7,h8,h9⟩:=a
 have e44:=none44_ok h1 h3
 rw [w12,f12,s12]
 simp [e44,rd1_of h1]
open Go.Zf (wi64)
def newW (S:List (List Tb)) (ad:Bool):St:=⟨.w [] 0 4294967295,S,ad,0⟩
def newR (l:List Nat) (S:List (List Tb)) (ad:Bool):St:=⟨.r (dread l).1 (dread l).2 4294967295,S,ad,0⟩
theorem writer12_ok {D:Nat→Prop} {h:H} {v:V} {S:List (List Tb)} (u:SetR D h v S) (ok:SetOk S) (ad:Bool) :
   RT (fun w h'=>∃ p,w=.tup [.ptr p 0,.int .i64 0]∧CoderAt (fun b=>h.n≤b) h' p 0 (newW S ad)∧Ext h h') (KW 8 [.agg [v],.bool ad] h):=by
 obtain ⟨h1,b1,x1,g1,n1,u1⟩:=box25 u
 obtain ⟨w,h2,e34,rfl,x2⟩:=(check34_ok u1 ok.small).elim
 rw [if_pos ok] at e34
 obtain ⟨h3,e42,E3,m3,f3⟩:=new10_ok h2
 have x3:Ext h2 h3:=⟨by omega,f3⟩
 have x2n:=x2.n
 obtain ⟨w,h4,e38,v',rfl,W,x4⟩:=(copy38_ok ((u1.ext x2).ext x3) ok.small).elim
 have g2:h2.get h.n=_:=(x2.get _ (H.get_lt g1)).trans g1
 have g3:h3.get h.n=_:=(x3.get _ (H.get_lt g2)).trans g2
 obtain ⟨h5,hh5⟩:∃ g,g=h4.new (.cells [.ptr h2.n 0,.nilp,v',.bool ad,.int .i64 0] 92 false):=⟨_,rfl⟩
 have x5:Ext h4 h5:=by rw [hh5];exact (Ext.refl h4).new _
 have n5:h5.n=h4.n+1:=by rw [hh5,H.n_new]
 have r5:h5.get h4.n=some (.cells [.ptr h2.n 0,.nilp,v',.bool ad,.int .i64 0] 92 false):=by rw [hh5,get_new_same]
 have x4n:=x4.n
 have hbx:bx h4 92 (.agg [.ptr h2.n 0,.nilp,v',.bool ad,.int .i64 0])=some (.ptr h4.n 0,h5):=by rw [hh5];rfl
 have hvc:V.cells v'=some [v']:=by
   obtain ⟨cs,k1,k2⟩:=W.setR;exact k1.cells
 rw [w8,f8,s8]
 simp [b1,rdN_of (o:=0) (n:=1) g1 (by simp),e34,e42,rdN_of (o:=0) (n:=1) g2 (by simp),rdN_of (o:=0) (n:=1) g3 (by simp),e38,bl,fillW,splice,hvc,hbx,ck,V.same,V.sames,u.ckv]
 have hvs:=u.ckv (some ())
 simp [ck] at hvs
 simp [hvs]
 refine ⟨h4.n,rfl,⟨.ptr h2.n 0,.nilp,v',fun b=>b=h2.n,fun b=>h3.n≤b∧b < h4.n,r5,(show h.n≤h4.n by omega),⟨h2.n,rfl,rfl,.nils,?_,rfl,fun c o n k e=>by cases e⟩,⟨⟨by decide,by decide,by decide⟩,by simp,by decide⟩,?_,ok,⟨Int.le_refl _,Int.le_refl _⟩,fun b hb=>?_,fun b hb=>?_⟩,?_⟩
 · exact ⟨by rw [x5.get _ (by omega),x4.get _ (by omega)];exact E3.cell,.inl ⟨rfl,rfl⟩,E3.byte,E3.low64⟩
 · exact ((W.setW ok.full).mono fun b hb hd=>⟨hd,hb⟩).ext x5
 · have hb:b=h2.n:=hb
   exact ⟨(show h.n≤b by omega),by omega,by omega⟩
 · exact ⟨(show h.n≤b by omega),by omega,by omega,(show ¬ b=h2.n by omega)⟩
 · exact (((x1.trans x2).trans x3).trans x4).trans x5
theorem reader25_ok {D:Nat→Prop} {h:H} {v bv:V} {l:List Nat} {S:List (List Tb)} (sb:SlB h bv l) (hl:l.length < 140737488355329) (hb:∀ x ∈ l,x < 256) (u:SetR D h v S) (ok:SetOk S) (ad:Bool) :
   RT (fun w h'=>∃ p,w=.tup [.ptr p 0,.int .i64 0]∧CoderAt (fun b=>h.n≤b) h' p 0 (newR l S ad)∧Ext h h') (KW 17 [bv,.agg [v],.bool ad] h):=by
 obtain ⟨h1,b1,x1,g1,n1,u1⟩:=box25 u
 obtain ⟨w,h2,e34,rfl,x2⟩:=(check34_ok u1 ok.small).elim
 rw [if_pos ok] at e34
 have x2n:=x2.n
 obtain ⟨h3,q,v3,e51,hdec,q1,q2,f3⟩:=read19_ok ((sb.keep x1.get).keep x2.get) hl hb
 have hn3:h2.n≤h3.n:=by omega
 have x3:Ext h2 h3:=⟨hn3,f3⟩
 have E3:=hdec (fun c=>c=q∨¬ (h2.n≤c∧c < h3.n)) (.inl rfl) (fun c c1 c2 c3=>by rintro (e | e);exact c3 e;exact e ⟨c1,c2⟩)
 obtain ⟨w,h4,e38,v',rfl,W,x4⟩:=(copy38_ok ((u1.ext x2).ext x3) ok.small).elim
 have g2:h2.get h.n=_:=(x2.get _ (H.get_lt g1)).trans g1
 have g3:h3.get h.n=_:=(x3.get _ (H.get_lt g2)).trans g2
 obtain ⟨h5,hh5⟩:∃ g,g=h4.new (.cells [.nilp,.ptr q 0,v',.bool ad,.int .i64 0] 92 false):=⟨_,rfl⟩
 have x5:Ext h4 h5:=by rw [hh5];exact (Ext.refl h4).new _
 have n5:h5.n=h4.n+1:=by rw [hh5,H.n_new]
 have r5:h5.get h4.n=some (.cells [.nilp,.ptr q 0,v',.bool ad,.int .i64 0] 92 false):=by rw [hh5,get_new_same]
 have x4n:=x4.n
 have hbx:bx h4 92 (.agg [.nilp,.ptr q 0,v',.bool ad,.int .i64 0])=some (.ptr h4.n 0,h5):=by rw [hh5];rfl
 have hvc:V.cells v'=some [v']:=by
   obtain ⟨cs,k1,k2⟩:=W.setR;exact k1.cells
 have hdi:=dread_inv hb
 have hvs:=u.ckv (some ())
 simp [ck] at hvs
 rw [w17,f17,s17]
 simp [b1,rdN_of (o:=0) (n:=1) g1 (by simp),e34,e51,rdN_of (o:=0) (n:=1) g2 (by simp),rdN_of (o:=0) (n:=1) g3 (by simp),e38,bl,fillW,splice,hvc,hbx,ck,V.same,V.sames,hvs]
 have hE3:DecD (fun c=>h2.n≤c∧c < h3.n) h3 q (dread l).1 (dread l).2 4294967295:=⟨v3,E3,⟨q1,q2⟩⟩
 refine ⟨h4.n,rfl,⟨.nilp,.ptr q 0,v',fun b=>h2.n≤b∧b < h3.n,fun b=>h3.n≤b∧b < h4.n,r5,(show h.n≤h4.n by omega),⟨q,rfl,rfl,hE3.keep fun b hb hb2=>by rw [x5.get _ (by omega),x4.get _ hb2]⟩,⟨hdi.1,hdi.2,by decide⟩,?_,ok,⟨Int.le_refl _,Int.le_refl _⟩,fun b hb=>?_,fun b hb=>?_⟩,?_⟩
 · exact ((W.setW ok.full).mono fun b hb hd=>⟨hd,hb⟩).ext x5
 · exact ⟨(show h.n≤b by omega),by omega,by omega⟩
 · exact ⟨(show h.n≤b by omega),by omega,by omega,fun h=>by omega⟩
 · exact (((x1.trans x2).trans x3).trans x4).trans x5
theorem bytes19_ok {D:Nat→Prop} {h:H} {p m:Nat} {st:St} {out:List Nat} {low rng:Nat} (a:CoderAt D h p m st) (hs:st.sd=.w out low rng) :
   RT (fun w h'=>∃ v,w=.tup [v,.int .i64 0]∧Wr h' h.n v (bytes out low)∧Ext h h') (KW 16 [.ptr p 0] h):=by
 obtain ⟨vo,vi,vs,Ds,Dw,h1,h2,h3,h4,h5,h6,h7,h8,h9⟩:=a
 have e44:=none44_ok h1 h3
 have e14:=writes14_ok h1 h3
 rw [hs] at e14 h3 h4
 obtain ⟨e,rfl,rfl,v,ea,_⟩:=h3
 obtain ⟨h',v',k1,k2,k3,k4⟩:=bytes14_wr ea h4.1 (by have:=h4.2.1;have:=h4.2.2;omega)
 rw [w16,f16,s16]
 simp [e44,e14,Side.writes,rd1_of h1,k1]
 exact ⟨v',rfl,k2,k3,k4⟩
open Go.Zf (wi64)
theorem CoderAt.mod {D E:Nat→Prop} {h h':H} {p m:Nat} {st:St} (a:CoderAt D h p m st) (x:Mod E h h') (hd:∀ b,D b→b < h.n→¬ E b):CoderAt D h' p m st :=
 a.keep x.n fun b hb hb2=>x.get b hb2 (hd b hb hb2)
theorem CoderAt.ext {D:Nat→Prop} {h h':H} {p m:Nat} {st:St} (a:CoderAt D h p m st) (x:Ext h h'):CoderAt D h' p m st:=a.keep x.n fun b _ hb=>x.get b hb
theorem CoderAt.under {D:Nat→Prop} {h:H} {p m:Nat} {st:St} (a:CoderAt D h p m st):CoderAt (fun b=>D b∧b < h.n) h p m st:=a.mono fun b hb hd=>⟨hd,hb⟩
def Alike (a b:List Nat):Prop:=∀ i,a.getD i 0=b.getD i 0
theorem Alike.head {a b:List Nat} (h:Alike a b):a.headD 0=b.headD 0:=by
 have:=h 0
 cases a <;> cases b <;> first | rfl | (simpa using this)
theorem Alike.tail {a b:List Nat} (h:Alike a b):Alike a.tail b.tail:=fun i=>by
 have:=h (i+1)
 cases a <;> cases b <;> first | rfl | (simpa using this)
theorem Alike.dsh:∀ (n:Nat) {a b:List Nat} (c:Nat),Alike a b→Alike (dsh n a c).1 (dsh n b c).1∧(dsh n a c).2=(dsh n b c).2
 | 0,a,b,c,h=>⟨h,rfl⟩
 | n+1,a,b,c,h=>by
   simp only [YtbkmdnmncaakdaaGreat.dsh]
   rw [h.head]
   exact Alike.dsh n _ h.tail
theorem Alike.read {a b:List Nat} (h:Alike a b):Alike (dread a).1 (dread b).1∧(dread a).2=(dread b).2:=by
 have:=Alike.dsh 4 0 h
 exact ⟨this.1,by simp only [dread,this.2]⟩
theorem Alike.renorm:∀ (n:Nat) {a b:List Nat} (c w:Nat),Alike a b→Alike (drenorm n a c w).1 (drenorm n b c w).1∧(drenorm n a c w).2=(drenorm n b c w).2
 | 0,a,b,c,w,h=>⟨h,rfl⟩
 | n+1,a,b,c,w,h=>by
   simp only [drenorm]
   split
   ·rw [h.head]
    exact Alike.renorm n _ _ h.tail
   ·exact ⟨h,rfl⟩
theorem Alike.take {a b:List Nat} (h:Alike a b) (c r lo hi:Nat):Alike (take a c r lo hi).1 (take b c r lo hi).1∧(take a c r lo hi).2=(take b c r lo hi).2:=Alike.renorm 3 _ _ h
def shorter (l:List Nat):Nat→Nat
 | 0=>0
 | k+1=>if l[k]?=some 0 then shorter l k else k+1
theorem shorter_alike (l:List Nat):∀ k,k≤l.length→Alike (l.take k) (l.take (shorter l k))
 | 0,_=>fun i=>rfl
 | k+1,hk=>by
   unfold shorter
   split
   ·rename_i h
    intro i
    rw [← shorter_alike l k (by omega) i]
    simp only [List.getD_eq_getElem?_getD,List.getElem?_take]
    by_cases h1:i < k
    ·simp [h1,show i < k+1 by omega]
    ·by_cases h2:i=k
     ·subst h2;simp [h]
     ·simp [h1,show ¬ i < k+1 by omega]
   ·intro i;rfl
def bev (l:List Nat):Nat:=l.foldl (fun a b=>a*256+b) 0
theorem bev_snoc (l:List Nat) (b:Nat):bev (l ++ [b])=bev l*256+b:=by simp [bev]
theorem bev_nil:bev []=0:=rfl
theorem bev_append (a:List Nat):∀ b:List Nat,bev (a ++ b)=bev a*256 ^ b.length+bev b:=by
 intro b
 obtain ⟨n,hn⟩:∃ n,n=b.length:=⟨_,rfl⟩
 induction n generalizing b with
 | zero=>have:b=[]:=List.length_eq_zero_iff.mp hn.symm;subst this;simp [bev_nil]
 | succ n ih =>
   rcases List.eq_nil_or_concat b with h0 | ⟨c,x,h0⟩
   ·subst h0;simp at hn
   ·subst h0
    have h1:=ih c (by simpa using hn)
    rw [List.concat_eq_append,← List.append_assoc,bev_snoc,bev_snoc,h1]
    simp only [List.length_append,List.length_singleton,Nat.pow_succ]
    rw [Nat.add_mul,Nat.mul_assoc,Nat.add_assoc]
theorem bev_lt:∀ l:List Nat,(∀ x ∈ l,x < 256)→bev l < 256 ^ l.length:=by
 intro l
 obtain ⟨n,hn⟩:∃ n,n=l.length:=⟨_,rfl⟩
 induction n generalizing l with
 | zero=>intro _;have:l=[]:=List.length_eq_zero_iff.mp hn.symm;subst this;simp [bev_nil]
 | succ n ih =>
   intro hb
   rcases List.eq_nil_or_concat l with h0 | ⟨c,x,h0⟩
   ·subst h0;simp at hn
   ·subst h0
    have h1:=ih c (by simpa using hn) fun y hy=>hb y (by simp [hy])
    have h2:=hb x (by simp)
    rw [List.concat_eq_append,bev_snoc]
    simp only [List.length_append,List.length_singleton,Nat.pow_succ]
    omega
theorem bev_inc:∀ l:List Nat,(∀ x ∈ l,x < 256)→bev l+1 < 256 ^ l.length→bev (inc l)=bev l+1:=by
 intro l
 obtain ⟨n,hn⟩:∃ n,n=l.length:=⟨_,rfl⟩
 induction n generalizing l with
 | zero=>intro _ h;have:l=[]:=List.length_eq_zero_iff.mp hn.symm;subst this;simp [bev_nil] at h
 | succ n ih =>
   intro hb h
   rcases List.eq_nil_or_concat l with h0 | ⟨c,x,h0⟩
   ·subst h0;simp at hn
   ·subst h0
    have h2:=hb x (by simp)
    rw [List.concat_eq_append] at h ⊢
    rw [bev_snoc] at h
    simp only [List.length_append,List.length_singleton,Nat.pow_succ] at h
    rw [inc_snoc,bev_snoc]
    split
    ·rename_i hx
     rw [bev_snoc,ih c (by simpa using hn) (fun y hy=>hb y (by simp [hy])) (by omega)]
     omega
    ·rw [bev_snoc];omega
def at_ (out:List Nat) (low:Nat):Nat:=bev out*4294967296+low
theorem emit_at {out:List Nat} {low:Nat} (hb:∀ x ∈ out,x < 256) (hl:low < 8589934592) (hf:at_ out low < 4294967296*256 ^ out.length) :
   at_ (emit out low).1 (emit out low).2=at_ out low*256∧∀ x ∈ (emit out low).1,x < 256:=by
 unfold at_ at *
 unfold emit
 split
 · rename_i hc
   have h1:=bev_inc out hb (by
    have:(bev out+1)*4294967296 < 256 ^ out.length*4294967296:=by rw [Nat.mul_comm (256 ^ out.length)];omega
    exact Nat.lt_of_mul_lt_mul_right this)
   refine ⟨?_,fun x hx=>?_⟩
   ·simp only [bev_snoc,h1];omega
   ·rcases List.mem_append.mp hx with h | h
    ·exact inc_byte hb x h
    ·simp at h;omega
 · rename_i hc
   refine ⟨?_,fun x hx=>?_⟩
   ·simp only [bev_snoc];omega
   ·rcases List.mem_append.mp hx with h | h
    ·exact hb x h
    ·simp at h;omega
def steps:Nat→Nat→Nat
 | 0,_=>0
 | n+1,w=>if w < 16777216 then steps n (w*256)+1 else 0
structure SInv (out:List Nat) (low wide:Nat):Prop where
 byte:∀ x ∈ out,x < 256
 lw:low+wide < 8589934592
 fit:at_ out low+wide≤4294967296*256 ^ out.length
 pos:0 < wide
theorem renorm_at:∀ (n:Nat) {out:List Nat} {low wide:Nat},SInv out low wide→wide < 4294967296 →
   SInv (renorm n out low wide).1 (renorm n out low wide).2.1 (renorm n out low wide).2.2∧(renorm n out low wide).1.length=out.length+steps n wide ∧
    at_ (renorm n out low wide).1 (renorm n out low wide).2.1=at_ out low*256 ^ steps n wide∧(renorm n out low wide).2.2=wide*256 ^ steps n wide
 | 0,out,low,wide,h,hw=>⟨h,rfl,by simp [renorm,steps],by simp [renorm,steps]⟩
 | n+1,out,low,wide,h,hw=>by
   simp only [renorm,steps]
   split
   ·rename_i hc
    obtain ⟨h1,h2,h3,h4⟩:=h
    obtain ⟨e1,e2⟩:=emit_at (low:=low) h1 (by omega) (by omega)
    have hel:=emit_length out low
    have hlt:(emit out low).2≤4294967040:=by unfold emit;split <;> simp <;> omega
    have hs:SInv (emit out low).1 (emit out low).2 (wide*256):=by
     refine ⟨e2,by omega,?_,by omega⟩
     rw [e1,hel,Nat.pow_succ]
     omega
    obtain ⟨g1,g2,g3,g4⟩:=renorm_at n hs (by omega)
    refine ⟨g1,by rw [g2,hel];omega,?_,?_⟩
    ·rw [g3,e1,Nat.pow_succ,Nat.mul_assoc,Nat.mul_comm 256]
    ·rw [g4,Nat.pow_succ,Nat.mul_assoc,Nat.mul_comm 256]
   ·exact ⟨h,rfl,by simp,by simp⟩
theorem part_within {out:List Nat} {low rng lo hi:Nat} (h:SInv out low rng) (h0:16777216≤rng) (h1:rng < 4294967296) (h2:lo < hi) (h3:hi≤32768) :
   SInv out (low+(part rng lo hi).1) (part rng lo hi).2:=by
 obtain ⟨m1,m2⟩:=part_bounds h0 h1 h2 h3
 obtain ⟨g1,g2,g3,g4⟩:=h
 exact ⟨g1,by omega,by unfold at_ at *;omega,by omega⟩
def Within (E R L E' R' L':Nat):Prop:=∃ d,L'=L+d∧E*256 ^ d≤E'∧E'+R'≤(E+R)*256 ^ d
theorem Within.refl (E R L:Nat):Within E R L E R L:=⟨0,by simp,by simp,by simp⟩
theorem Within.trans {a b c d e f g h i:Nat} (x:Within a b c d e f) (y:Within d e f g h i):Within a b c g h i:=by
 obtain ⟨m,x1,x2,x3⟩:=x
 obtain ⟨n,y1,y2,y3⟩:=y
 refine ⟨m+n,by omega,?_,?_⟩
 · rw [Nat.pow_add,← Nat.mul_assoc]
   exact Nat.le_trans (Nat.mul_le_mul_right _ x2) y2
 · rw [Nat.pow_add,← Nat.mul_assoc]
   exact Nat.le_trans y3 (Nat.mul_le_mul_right _ x3)
abbrev Sr:=List Nat × Nat × Nat
def putS (s:Sr) (p:Nat × Nat):Sr:=put s.1 s.2.1 s.2.2 p.1 p.2
def puts (s:Sr) (ps:List (Nat × Nat)):Sr:=ps.foldl putS s
def SOk (s:Sr):Prop:=SInv s.1 s.2.1 s.2.2∧EInv s.2.1 s.2.2
def WithinS (s t:Sr):Prop:=Within (at_ s.1 s.2.1) s.2.2 s.1.length (at_ t.1 t.2.1) t.2.2 t.1.length
theorem put_at {s:Sr} {lo hi:Nat} (h:SOk s) (h2:lo < hi) (h3:hi≤32768) :
   SOk (putS s (lo,hi))∧(putS s (lo,hi)).1.length=s.1.length+steps 3 (part s.2.2 lo hi).2 ∧
    at_ (putS s (lo,hi)).1 (putS s (lo,hi)).2.1=(at_ s.1 s.2.1+(part s.2.2 lo hi).1)*256 ^ steps 3 (part s.2.2 lo hi).2 ∧
    (putS s (lo,hi)).2.2=(part s.2.2 lo hi).2*256 ^ steps 3 (part s.2.2 lo hi).2:=by
 obtain ⟨i,e⟩:=h
 have hw:=part_within i e.1 e.2.1 h2 h3
 obtain ⟨m1,m2⟩:=part_bounds e.1 e.2.1 h2 h3
 have:=e.2.1
 obtain ⟨g1,g2,g3,g4⟩:=renorm_at 3 hw (by omega)
 refine ⟨⟨g1,(put_inv e h2 h3).1⟩,g2,?_,g4⟩
 rw [show at_ s.1 s.2.1+(part s.2.2 lo hi).1=at_ s.1 (s.2.1+(part s.2.2 lo hi).1) by unfold at_;omega]
 exact g3
theorem puts_within:∀ (ps:List (Nat × Nat)) {s:Sr},SOk s→(∀ p ∈ ps,p.1 < p.2∧p.2≤32768)→SOk (puts s ps)∧WithinS s (puts s ps)
 | [],s,h,_=>⟨h,Within.refl _ _ _⟩
 | p :: ps,s,h,hp=>by
   obtain ⟨h1,h2⟩:=hp p (by simp)
   obtain ⟨g1,g2,g3,g4⟩:=put_at h h1 h2
   obtain ⟨m1,m2⟩:=part_bounds h.2.1 h.2.2.1 h1 h2
   obtain ⟨k1,k2⟩:=puts_within ps g1 fun q hq=>hp q (by simp [hq])
   refine ⟨k1,Within.trans ⟨steps 3 (part s.2.2 p.1 p.2).2,g2,?_,?_⟩ k2⟩
   ·show _≤at_ (putS s (p.1,p.2)).1 (putS s (p.1,p.2)).2.1
    rw [g3]
    exact Nat.mul_le_mul_right _ (by omega)
   ·show at_ (putS s (p.1,p.2)).1 (putS s (p.1,p.2)).2.1+(putS s (p.1,p.2)).2.2≤_
    rw [g3,g4,← Nat.add_mul]
    exact Nat.mul_le_mul_right _ (by omega)
def pre (B:List Nat):Nat→Nat
 | 0=>0
 | k+1=>pre B k*256+B.getD k 0
theorem pre_succ (B:List Nat) (k:Nat):pre B (k+1)=pre B k*256+B.getD k 0:=rfl
attribute [irreducible] pre
theorem pre_zero (B:List Nat):pre B 0=0:=by unfold pre;rfl
theorem pre_alike {a b:List Nat} (h:Alike a b):∀ k,pre a k=pre b k
 | 0=>by rw [pre_zero,pre_zero]
 | k+1=>by rw [pre_succ,pre_succ,pre_alike h k,h k]
theorem pre_take (l:List Nat):∀ k,k≤l.length→pre l k=bev (l.take k)
 | 0,_=>by rw [pre_zero];rfl
 | k+1,h=>by
   rw [pre_succ,pre_take l k (by omega),List.take_add_one,List.getElem?_eq_getElem (by omega),Option.toList_some,bev_snoc]
   simp [List.getD_eq_getElem?_getD,List.getElem?_eq_getElem (show k < l.length by omega)]
theorem pre_div (l:List Nat) (hb:∀ x ∈ l,x < 256) {k d:Nat} (h:l.length=k+d):pre l k=bev l / 256 ^ d:=by
 rw [pre_take l k (by omega)]
 have e:bev l=bev (l.take k)*256 ^ d+bev (l.drop k):=by
   conv=>lhs;rw [← List.take_append_drop k l]
   rw [bev_append];simp [show l.length - k=d by omega]
 have hlt:=bev_lt (l.drop k) fun x hx=>hb x (List.mem_of_mem_drop hx)
 rw [List.length_drop,show l.length - k=d by omega] at hlt
 have hp:0 < 256 ^ d:=Nat.pow_pos (by decide)
 rw [e,Nat.add_comm,Nat.mul_comm (bev (List.take k l)),Nat.add_mul_div_left _ _ hp,Nat.div_eq_of_lt hlt,Nat.zero_add]
theorem headD_drop (B:List Nat) (k:Nat):(B.drop k).headD 0=B.getD k 0:=by
 rw [List.getD_eq_getElem?_getD,← List.head?_drop]
 cases B.drop k <;> rfl
theorem dsh_pre (B:List Nat):∀ (n k:Nat),dsh n (B.drop k) (pre B k)=(B.drop (k+n),pre B (k+n))
 | 0,k=>rfl
 | n+1,k=>by
   rw [dsh,List.tail_drop,headD_drop,← pre_succ,dsh_pre B n (k+1),show k+1+n=k+(n+1) by omega]
theorem drenorm_pre (B:List Nat):∀ (n k e w:Nat),e≤pre B k→drenorm n (B.drop k) (pre B k - e) w=(B.drop (k+steps n w),pre B (k+steps n w) - e*256 ^ steps n w,w*256 ^ steps n w)
 | 0,k,e,w,h=>by simp [drenorm,steps]
 | n+1,k,e,w,h=>by
   have hb:=pre_succ B k
   have hm:=Nat.mul_le_mul_right 256 h
   have e1:(pre B k - e)*256+B.getD k 0=pre B (k+1) - e*256:=by rw [Nat.sub_mul];omega
   have e2:=drenorm_pre B n (k+1) (e*256) (w*256) (by omega)
   simp only [drenorm,steps]
   split
   ·rw [List.tail_drop,headD_drop,e1,e2]
    generalize steps n (w*256)=j
    rw [Nat.pow_succ,Nat.mul_comm (256 ^ j),← Nat.mul_assoc,← Nat.mul_assoc,show k+1+j=k+(j+1) by omega]
   ·simp
def Lies (B:List Nat) (E R L:Nat):Prop:=E≤pre B (L+4)∧pre B (L+4) < E+R
theorem value_in {q r V A lo hi:Nat} (hq:q=r / 32768) (h0:512≤q) (h3:hi≤32768) (h2:lo < hi) (l1:A+q*lo≤V) (l2:hi ≠ 32768→V < A+q*lo+q*(hi - lo)):lo≤value (V - A) r∧value (V - A) r < hi:=by
 unfold value
 rw [← hq]
 have h5:lo≤(V - A) / q:=(Nat.le_div_iff_mul_le (by omega)).mpr (by rw [Nat.mul_comm];omega)
 refine ⟨by omega,?_⟩
 by_cases hc:hi=32768
 · omega
 · have h6:=l2 hc
   have h7:q*lo+q*(hi - lo)=q*hi:=by rw [← Nat.mul_add];congr 1;omega
   have h8:(V - A) / q < hi:=(Nat.div_lt_iff_lt_mul (by omega)).mpr (by rw [Nat.mul_comm];omega)
   omega
theorem dec_step {B:List Nat} {s:Sr} {lo hi:Nat} (h:SOk s) (h2:lo < hi) (h3:hi≤32768) (hl:Lies B (at_ s.1 s.2.1+(part s.2.2 lo hi).1) (part s.2.2 lo hi).2 s.1.length) :
   (lo≤value (pre B (s.1.length+4) - at_ s.1 s.2.1) s.2.2∧value (pre B (s.1.length+4) - at_ s.1 s.2.1) s.2.2 < hi) ∧
    take (B.drop (s.1.length+4)) (pre B (s.1.length+4) - at_ s.1 s.2.1) s.2.2 lo hi=(B.drop ((putS s (lo,hi)).1.length+4),pre B ((putS s (lo,hi)).1.length+4) - at_ (putS s (lo,hi)).1 (putS s (lo,hi)).2.1,(putS s (lo,hi)).2.2):=by
 obtain ⟨g1,g2,g3,g4⟩:=put_at h h2 h3
 obtain ⟨l1,l2⟩:=hl
 obtain ⟨e1,e2,e3⟩:=h.2
 have hq:512≤s.2.2 / 32768:=by omega
 have ep:(part s.2.2 lo hi).1=s.2.2 / 32768*lo:=rfl
 have l1':at_ s.1 s.2.1+s.2.2 / 32768*lo≤pre B (s.1.length+4):=by rw [← ep];exact l1
 have l2':hi ≠ 32768→pre B (s.1.length+4) < at_ s.1 s.2.1+s.2.2 / 32768*lo+s.2.2 / 32768*(hi - lo):=fun hc=>by
   have e:(part s.2.2 lo hi).2=s.2.2 / 32768*(hi - lo):=by simp only [part,if_neg hc]
   rw [e,ep] at l2
   exact l2
 generalize putS s (lo,hi)=s' at g1 g2 g3 g4 ⊢
 have ht:∀ (a:List Nat) (c r:Nat),take a c r lo hi=drenorm 3 a (c - (part r lo hi).1) (part r lo hi).2:=fun _ _ _=>rfl
 have e5:=drenorm_pre B 3 (s.1.length+4) (at_ s.1 s.2.1+(part s.2.2 lo hi).1) (part s.2.2 lo hi).2 l1
 have hv:=value_in (q:=s.2.2 / 32768) (r:=s.2.2) rfl hq h3 h2 l1' l2'
 refine ⟨hv,?_⟩
 rw [ht,Nat.sub_sub,e5,g2,g3,g4,Nat.add_right_comm]
theorem emits_at:∀ (n:Nat) {out:List Nat} {low:Nat},SInv out low 1→SInv (emits n out low).1 (emits n out low).2 1∧at_ (emits n out low).1 (emits n out low).2=at_ out low*256 ^ n
 | 0,out,low,h=>⟨h,by simp [emits]⟩
 | n+1,out,low,h=>by
   obtain ⟨h1,h2,h3,h4⟩:=h
   obtain ⟨e1,e2⟩:=emit_at (low:=low) h1 (by omega) (by omega)
   have hel:=emit_length out low
   have hlt:=emit_lt out low
   have hs:SInv (emit out low).1 (emit out low).2 1:=⟨e2,by omega,by rw [e1,hel,Nat.pow_succ];omega,by omega⟩
   obtain ⟨g1,g2⟩:=emits_at n hs
   exact ⟨g1,by rw [emits,g2,e1,Nat.pow_succ,Nat.mul_assoc,Nat.mul_comm 256]⟩
theorem emits_lt (n:Nat) (out:List Nat) (low:Nat):(emits (n+1) out low).2 < 4294967296:=by
 induction n generalizing out low with
 | zero=>exact emit_lt out low
 | succ n ih=>exact ih _ _
theorem trim_alike (l:List Nat):∀ k,k≤l.length→Alike (l.take k) (l.take (trimN l k)):=by
 have:∀ k,trimN l k=shorter l k:=by
   intro k
   induction k with
   | zero=>rfl
   | succ k ih=>simp only [trimN,shorter,ih]
 intro k hk
 rw [this];exact shorter_alike l k hk
theorem bytes_lie {s:Sr} (hs:SOk s) {E R L:Nat} (hw:Within E R L (at_ s.1 s.2.1) s.2.2 s.1.length):Lies (bytes s.1 s.2.1) E R L:=by
 obtain ⟨⟨h1,h2,h3,h4⟩,h5⟩:=hs
 obtain ⟨d,w1,w2,w3⟩:=hw
 obtain ⟨g1,g2⟩:=emits_at 4 (out:=s.1) (low:=s.2.1) ⟨h1,by omega,by omega,by omega⟩
 have g3:=emits_lt 3 s.1 s.2.1
 have g4:=emits_length 4 s.1 s.2.1
 have hal:=trim_alike (emits 4 s.1 s.2.1).1 (s.1.length+4) (by omega)
 rw [List.take_of_length_le (by omega)] at hal
 have hpre:pre (bytes s.1 s.2.1) (L+4)=pre (emits 4 s.1 s.2.1).1 (L+4):=by
   rw [bytes];exact (pre_alike hal _).symm
 have hbev:bev (emits 4 s.1 s.2.1).1=at_ s.1 s.2.1:=by
   have p4:(256:Nat) ^ 4=4294967296:=by decide
   rw [p4] at g2
   generalize emits 4 s.1 s.2.1=r at g2 g3 ⊢
   generalize at_ s.1 s.2.1=z at g2 ⊢
   unfold at_ at g2
   omega
 have hp:0 < 256 ^ d:=Nat.pow_pos (by decide)
 unfold Lies
 rw [hpre,pre_div _ g1.byte (k:=L+4) (d:=d) (by omega),hbev]
 exact ⟨(Nat.le_div_iff_mul_le hp).mpr w2,(Nat.div_lt_iff_lt_mul hp).mpr (Nat.lt_of_lt_of_le (Nat.lt_add_of_pos_right h4) w3)⟩
abbrev wS (s:Sr):Side:=.w s.1 s.2.1 s.2.2
abbrev s0:Sr:=([],0,4294967295)
def mate (B:List Nat) (s:Sr):Side:=.r (B.drop (s.1.length+4)) (pre B (s.1.length+4) - at_ s.1 s.2.1) s.2.2
theorem WithinS.trans {a b c:Sr} (x:WithinS a b) (y:WithinS b c):WithinS a c:=Within.trans x y
theorem putS_within {s:Sr} {lo hi:Nat} (h:SOk s) (h2:lo < hi) (h3:hi≤32768):SOk (putS s (lo,hi))∧WithinS s (putS s (lo,hi)) :=
 puts_within [(lo,hi)] h (by simp;omega)
theorem Side.code_r (rest:List Nat) (code rng lo hi:Nat):(Side.r rest code rng).code lo hi=.r (take rest code rng lo hi).1 (take rest code rng lo hi).2.1 (take rest code rng lo hi).2.2:=rfl
theorem Side.code_w (s:Sr) (lo hi:Nat):(wS s).code lo hi=wS (putS s (lo,hi)):=rfl
theorem Side.bit_r (rest:List Nat) (code rng x:Nat):(Side.r rest code rng).bit x=value code rng / 16384:=rfl
theorem Side.bit_w (s:Sr) (x:Nat):(wS s).bit x=x:=rfl
theorem Side.val_r (t:Tb) (x:Int) (rest:List Nat) (code rng:Nat):(Side.r rest code rng).val t x=findP t (value code rng):=rfl
theorem puts_cons (s:Sr) (p:Nat × Nat) (l:List (Nat × Nat)):puts s (p :: l)=puts (putS s p) l:=rfl
theorem puts_nil (s:Sr):puts s []=s:=rfl
theorem side_eq {x:List Nat × Nat × Nat} {a:List Nat} {b c:Nat} (h:x=(a,b,c)):Side.r x.1 x.2.1 x.2.2=.r a b c:=by subst h;rfl
theorem mate_eq {B:List Nat} {s:Sr} {x:List Nat × Nat × Nat} (h:x=(B.drop (s.1.length+4),pre B (s.1.length+4) - at_ s.1 s.2.1,s.2.2)):Side.r x.1 x.2.1 x.2.2=mate B s:=by
 rw [side_eq h,mate]
attribute [local irreducible] putS puts at_ take value dread part bytes steps
theorem mate_code {T s:Sr} {lo hi:Nat} (hT:SOk T) (hs:SOk s) (h2:lo < hi) (h3:hi≤32768) (w:WithinS (putS s (lo,hi)) T) :
   ∃ b c r,mate (bytes T.1 T.2.1) s=.r b c r∧lo≤value c r∧value c r < hi∧(mate (bytes T.1 T.2.1) s).code lo hi=mate (bytes T.1 T.2.1) (putS s (lo,hi)):=by
 obtain ⟨g1,g2,g3,g4⟩:=put_at hs h2 h3
 have hmid:Within (at_ s.1 s.2.1+(part s.2.2 lo hi).1) (part s.2.2 lo hi).2 s.1.length (at_ T.1 T.2.1) T.2.2 T.1.length:=by
   refine Within.trans ⟨steps 3 (part s.2.2 lo hi).2,g2,Nat.le_of_eq g3.symm,?_⟩ w
   rw [g3,g4,← Nat.add_mul]
   exact Nat.le_refl _
 have hl:=bytes_lie hT hmid
 clear w hmid g1 g2 g3 g4
 obtain ⟨B,hB⟩:∃ B,B=bytes T.1 T.2.1:=⟨_,rfl⟩
 rw [← hB] at hl ⊢
 obtain ⟨⟨q1,q2⟩,q3⟩:=dec_step hs h2 h3 hl
 obtain ⟨u,hu⟩:∃ u,u=putS s (lo,hi):=⟨_,rfl⟩
 rw [← hu] at q3 ⊢
 have hm:mate B s=.r (B.drop (s.1.length+4)) (pre B (s.1.length+4) - at_ s.1 s.2.1) s.2.2:=by rw [mate]
 rw [hm]
 obtain ⟨V,hV⟩:∃ V,V=pre B (s.1.length+4) - at_ s.1 s.2.1:=⟨_,rfl⟩
 rw [← hV] at q1 q2 q3 ⊢
 obtain ⟨x,hx⟩:∃ x,x=take (B.drop (s.1.length+4)) V s.2.2 lo hi:=⟨_,rfl⟩
 rw [← hx] at q3
 refine ⟨_,_,_,rfl,q1,q2,?_⟩
 rw [Side.code_r,← hx]
 exact mate_eq q3
def bitsP:Nat→Nat→List (Nat × Nat)
 | 0,_=>[]
 | j+1,v=>(v / 2 ^ j % 2*16384,v / 2 ^ j % 2*16384+16384) :: bitsP j v
theorem bitsP_ok:∀ (j v:Nat),∀ p ∈ bitsP j v,p.1 < p.2∧p.2≤32768
 | 0,v,p,h=>by simp [bitsP] at h
 | j+1,v,p,h=>by
   simp only [bitsP,List.mem_cons] at h
   rcases h with rfl | h
   ·simp only;omega
   ·exact bitsP_ok j v p h
theorem bit_num (j v out:Nat):(2*out+v / 2 ^ j % 2)*2 ^ j+v % 2 ^ j=out*2 ^ (j+1)+v % 2 ^ (j+1):=by
 have h1:v % 2 ^ (j+1)=v % 2 ^ j+2 ^ j*(v / 2 ^ j % 2):=Nat.mod_mul
 rw [h1,Nat.pow_succ,Nat.add_mul,Nat.mul_comm 2 out,Nat.mul_assoc,Nat.mul_comm 2 (2 ^ j),Nat.mul_comm (v / 2 ^ j % 2)]
 omega
attribute [local irreducible] mate
theorem bits_zero (v out:Nat) (sd:Side):bits 0 v out sd=(out,sd):=rfl
theorem bits_succ (j v out:Nat) (sd:Side):bits (j+1) v out sd=bits j v (2*out+sd.bit (v / 2 ^ j % 2)) (sd.code (sd.bit (v / 2 ^ j % 2)*16384) (sd.bit (v / 2 ^ j % 2)*16384+16384)):=rfl
theorem bitsP_succ (j v:Nat):bitsP (j+1) v=(v / 2 ^ j % 2*16384,v / 2 ^ j % 2*16384+16384) :: bitsP j v:=rfl
theorem bits_w (j:Nat):∀ (v out:Nat) (s:Sr),bits j v out (wS s)=(out*2 ^ j+v % 2 ^ j,wS (puts s (bitsP j v))):=by
 induction j with
 | zero =>
   intro v out s
   rw [bits_zero,show bitsP 0 v=[] from rfl,puts_nil];simp [Nat.mod_one]
 | succ j ih =>
   intro v out s
   rw [bits_succ,Side.bit_w,Side.code_w,ih,bit_num,bitsP_succ,puts_cons]
theorem bits_mate {T:Sr} (hT:SOk T) (j:Nat):∀ (v v' out:Nat) (s:Sr),SOk s→WithinS (puts s (bitsP j v)) T →
   bits j v' out (mate (bytes T.1 T.2.1) s)=(out*2 ^ j+v % 2 ^ j,mate (bytes T.1 T.2.1) (puts s (bitsP j v))):=by
 induction j with
 | zero =>
   intro v v' out s hs w
   rw [bits_zero,show bitsP 0 v=[] from rfl,puts_nil];simp [Nat.mod_one]
 | succ j ih =>
   intro v v' out s hs w
   obtain ⟨b,hb⟩:∃ b,b=v / 2 ^ j % 2:=⟨_,rfl⟩
   have hb2:b < 2:=by omega
   have hn:=bit_num j v out
   rw [bitsP_succ,puts_cons] at w
   rw [bitsP_succ,puts_cons]
   rw [← hb] at w hn ⊢
   obtain ⟨k1,k2⟩:=putS_within hs (lo:=b*16384) (hi:=b*16384+16384) (by omega) (by omega)
   have w1:=(puts_within (bitsP j v) k1 (bitsP_ok j v)).2
   obtain ⟨x,c,r,e1,e2,e3,e4⟩:=mate_code hT hs (lo:=b*16384) (hi:=b*16384+16384) (by omega) (by omega) (w1.trans w)
   have hbit:∀ x,(mate (bytes T.1 T.2.1) s).bit x=b:=fun x=>by
    rw [e1,Side.bit_r];omega
   rw [bits_succ,hbit,e4,ih v v' _ _ k1 w,hn]
theorem find_mate {t:Tb} (ok:TabOk t) {v at_:Nat} (hv:v < t.c.length) (h1:pt t v≤at_) (h2:at_ < pt t (v+1)):findP t at_=v :=
 findP_eq hv h2 fun j hj=>Nat.le_trans (pt_mono ok (show j+1≤v by omega) (by omega)) h1
theorem val_mate {T s:Sr} {t:Tb} (ok:TabOk t) {v:Nat} (hT:SOk T) (hs:SOk s) (hv:v < t.c.length) (w:WithinS (putS s (pt t v,pt t (v+1))) T) (x:Int) :
   (mate (bytes T.1 T.2.1) s).val t x=v∧(mate (bytes T.1 T.2.1) s).code (pt t v) (pt t (v+1))=mate (bytes T.1 T.2.1) (putS s (pt t v,pt t (v+1))):=by
 obtain ⟨y,c,r,e1,e2,e3,e4⟩:=mate_code hT hs (pt_lt ok hv) (pt_le ok (Nat.succ_le_of_lt hv)) w
 refine ⟨?_,e4⟩
 rw [e1,Side.val_r]
 exact find_mate ok hv e2 e3
inductive Op where
 | num (n v:Nat)
 | sym (k c v:Nat)
def Op.ok:Op→Prop
 | .num n v=>n < 31∧v < 2 ^ n
 | .sym k c v=>k < 32∧c < cx k∧v < vl k
def St.step (st:St):Op→St
 | .num n v=>st.num n v
 | .sym k c v=>st.sym k c v
def St.run (st:St) (l:List Op):St:=l.foldl St.step st
def mateS (B:List Nat) (s:Sr) (st:St):St:=⟨mate B s,st.S,st.ad,st.n⟩
theorem step_w {st:St} {s:Sr} (hs:st.sd=wS s) (ok:SOk s) (so:SetOk st.S) {o:Op} (ho:o.ok) :
   ∃ s',(st.step o).sd=wS s'∧SOk s'∧WithinS s s'∧SetOk (st.step o).S∧(st.step o).ad=st.ad∧(st.ad=false→(st.step o).S=st.S) ∧
    ∀ T,SOk T→WithinS s' T→match o with
     | .num n v=>((mateS (bytes T.1 T.2.1) s st).num n 0=mateS (bytes T.1 T.2.1) s' (st.step o))∧(mateS (bytes T.1 T.2.1) s st).numV n 0=v∧st.numV n v=v
     | .sym k c v=>((mateS (bytes T.1 T.2.1) s st).sym k c (-1)=mateS (bytes T.1 T.2.1) s' (st.step o))∧(mateS (bytes T.1 T.2.1) s st).symV k c (-1)=v∧st.symV k c v=v:=by
 cases o with
 | num n v =>
   obtain ⟨h1,h2⟩:=ho
   have hv:v % 2 ^ n=v:=Nat.mod_eq_of_lt h2
   have hw:=bits_w n v 0 s
   rw [hv,Nat.zero_mul,Nat.zero_add] at hw
   have k:=puts_within (bitsP n v) ok (bitsP_ok n v)
   refine ⟨puts s (bitsP n v),?_,k.1,k.2,so,rfl,fun _=>rfl,fun T hT w=>?_⟩
   ·show (bits n v 0 st.sd).2=_
    rw [hs,hw]
   ·have hm:=bits_mate hT n v 0 0 s ok w
    rw [hv,Nat.zero_mul,Nat.zero_add] at hm
    refine ⟨?_,?_,?_⟩
    ·show St.mk (bits n 0 0 (mate _ s)).2 st.S st.ad (st.n+n)=_
     rw [hm];rfl
    ·show (bits n 0 0 (mate _ s)).1=v
     rw [hm]
    ·show (bits n v 0 st.sd).1=v
     rw [hs,hw]
 | sym k c v =>
   obtain ⟨h1,h2,h3⟩:=ho
   obtain ⟨r,hr,ht,tok,tl⟩:=so.get h1 h2
   obtain ⟨t,htd⟩:∃ t,t=tabOf st.S k c:=⟨_,rfl⟩
   rw [← htd] at ht tok tl
   have hvl:v < t.c.length:=by omega
   obtain ⟨k1,k2⟩:=putS_within ok (pt_lt tok hvl) (pt_le tok (Nat.succ_le_of_lt hvl))
   have hval:st.sd.val t (v:Int)=v:=by rw [hs];simp [Side.val]
   have hst:st.step (.sym k c v)=⟨wS (putS s (pt t v,pt t (v+1))),if st.ad then st.S.set k ((st.S.getD k []).set c (adaptP t v)) else st.S,st.ad,st.n+1⟩:=by
    show st.sym k c v=_
    rw [St.sym,← htd,hval,hs,Side.code_w]
   refine ⟨putS s (pt t v,pt t (v+1)),by rw [hst],k1,k2,?_,by rw [hst],fun h=>by rw [hst];simp [h],fun T hT w=>?_⟩
   ·rw [hst]
    show SetOk (if st.ad then _ else _)
    split
    ·exact so.set h1 (adaptP_ok tok v) (by rw [adaptP_len,tl])
    ·exact so
   ·obtain ⟨m1,m2⟩:=val_mate tok hT ok hvl w (-1)
    refine ⟨?_,?_,?_⟩
    ·rw [hst]
     show St.sym ⟨mate _ s,st.S,st.ad,st.n⟩ k c (-1)=_
     rw [St.sym]
     simp only
     rw [← htd,m1,m2];rfl
    ·show (mate _ s).val (tabOf st.S k c) (-1)=v
     rw [← htd,m1]
    ·show st.sd.val (tabOf st.S k c) v=v
     rw [← htd,hval]
theorem run_within:∀ (l:List Op) {st:St} {s:Sr},st.sd=wS s→SOk s→SetOk st.S→(∀ o ∈ l,o.ok) →
   ∃ T,(st.run l).sd=wS T∧SOk T∧WithinS s T
 | [],st,s,hs,ok,so,ho=>⟨s,hs,ok,Within.refl _ _ _⟩
 | o :: l,st,s,hs,ok,so,ho=>by
   obtain ⟨s',h1,h2,h3,h4,_,_,_⟩:=step_w hs ok so (ho o (by simp))
   obtain ⟨T,g1,g2,g3⟩:=run_within l h1 h2 h4 fun o' h=>ho o' (by simp [h])
   exact ⟨T,g1,g2,h3.trans g3⟩
theorem newR_mate {T:Sr} (hT:SOk T) (w:WithinS s0 T) (S:List (List Tb)) (ad:Bool) :
   newR (bytes T.1 T.2.1) S ad=mateS (bytes T.1 T.2.1) s0 (newW S ad):=by
 have h0:=dsh_pre (bytes T.1 T.2.1) 4 0
 rw [pre_zero] at h0
 simp only [List.drop_zero,Nat.zero_add] at h0
 have hw:Within 0 4294967295 0 (at_ T.1 T.2.1) T.2.2 T.1.length:=by simpa [WithinS,at_,bev] using w
 have hl:=(bytes_lie hT hw).2
 simp only [Nat.zero_add] at hl
 have hd:dread (bytes T.1 T.2.1)=((bytes T.1 T.2.1).drop 4,pre (bytes T.1 T.2.1) 4):=by
   simp only [dread,h0]
   rw [Nat.min_eq_left (by omega)]
 rw [newR,hd]
 simp [mateS,mate,newW,at_,bev]
end Go.Proofs.YtbkmdnmncaakdaaGreat
