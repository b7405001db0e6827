import Derived.Test.YtbkmdnmncaakdaaPaMr
set_option linter.unusedVariables false
set_option linter.unusedSimpArgs false
set_option maxRecDepth 20000
namespace Go.Proofs.Ytbkmdnmncaakdaa
open Go Go.Zf
open Go.Zf (wi64)
theorem or8 {a b:Nat} (ha:a < 4611686018427387) (hb:b < 8):binK 0 .or (.int .i64 ((8*a:Nat):Int)) (.int .i64 (b:Nat))=some (.int .i64 ((8*a+b:Nat):Int)):=by
 have e1:(BitVec.ofInt 64 ((8*a:Nat):Int)).toNat=8*a:=by
  rw [BitVec.ofInt_natCast,BitVec.toNat_ofNat,Nat.mod_eq_of_lt (by omega)]
 have e2:(BitVec.ofInt 64 (b:Int)).toNat=b:=by
  rw [BitVec.ofInt_natCast,BitVec.toNat_ofNat,Nat.mod_eq_of_lt (by omega)]
 rw [binK_or]
 show some (V.int .i64 (IntKind.i64.wrap ((BitVec.ofInt 64 ((8*a:Nat):Int) ||| BitVec.ofInt 64 (b:Int)).toNat:Int)))=_
 rw [BitVec.toNat_or,e1,e2]
 have:=Nat.shiftLeft_add_eq_or_of_lt (a:=a) (i:=3) (b:=b) (by omega)
 rw [Nat.shiftLeft_eq,show 2 ^ 3=8 from rfl,Nat.mul_comm a 8] at this
 rw [← this,wi64 (by omega) (by omega)]
theorem shl_p {k:Nat} (hk:k≤30) {a:Nat} (ha:a≤1000000):binK 0 .shl (.int .i64 (a:Nat)) (.int .i64 (k:Nat))=some (.int .i64 ((a*2 ^ k:Nat):Int)):=by
 have h1:2 ^ k≤2 ^ 30:=Nat.pow_le_pow_right (by decide) hk
 have h2:a*2 ^ k≤1000000*2 ^ 30:=Nat.mul_le_mul ha h1
 rw [binK_shl,if_neg (by omega),Int.toNat_natCast]
 show some (V.int .i64 (IntKind.i64.wrap ((a:Int)*2 ^ min k 64)))=_
 rw [Nat.min_eq_left (by omega),wi64 (by have:=two_pow_cast k;rw [← this,← Int.natCast_mul];omega) (by have:=two_pow_cast k;rw [← this,← Int.natCast_mul];omega)]
 rw [Int.natCast_mul,two_pow_cast]
def partV (b cl r f:Nat):Int:=if b=1 then -(((2 ^ cl+r - 1)*8+f:Nat):Int) - 1 else (((2 ^ cl+r - 1)*8+f:Nat):Int)+1
theorem part80_ok {P:Nat→Prop} {h:H} {c q m:Nat} {st:St} (a:Co P h c q m st 0) {x:Nat} (hx:x < 2) {v:Int} (hb : -20000≤v∧v≤20000) (hm:m+13 < 100000000) (hw:st.sd.writes=true→v ≠ 0∧v.natAbs≤16376) :
  RT (fun w h'=>∃ r:Int,w=.int .i64 r∧∃ st',(partP x v).exec st=(some r,st')∧(st.sd.writes=true→r=v)∧(-20000≤r∧r≤20000)∧Co P h' c q (m+13) st' 0∧Kp (fun b=>P b∧b ≠ q) h h') (KW 80 [.ptr q 0,.int .i64 (x:Nat),.int .i64 v] h):=by
 have ab:=iabs_b v
 have mb:=imax_b (iabs v) 1
 have hqn:=a.lt q a.pq
 have m3:maxV [.int .i64 v,.int .i64 (-v),.int .i64 1]=some (.int .i64 (imax (iabs v) 1)):=max3 v (-v) 1
 have zn:IntKind.i64.wrap (-v) = -v:=wi64 (by omega) (by omega)
 obtain ⟨M,hM⟩:∃ M,M=mOf v:=⟨_,rfl⟩
 have Mb:M≤20000∧imax (iabs v) 1 - 1=(M:Int):=by rw [hM];unfold mOf;omega
 have zM:IntKind.i64.wrap (imax (iabs v) 1 - 1)=(M:Int):=by rw [wi64 (by omega) (by omega)];exact Mb.2
 -- below
 obtain ⟨h1,hh1⟩:∃ z,z=h.new (.cells [.int .i64 (flg (decide (v < 0)))] 3 false):=⟨_,rfl⟩
 have x1:Ext h h1:=by rw [hh1];exact (Ext.refl h).new _
 have n1:h1.n=h.n+1:=by rw [hh1,H.n_new]
 have g1:h1.get h.n=some (.cells [.int .i64 (flg (decide (v < 0)))] 3 false):=by rw [hh1,get_new_same]
 have a1:Co (fun b=>P b∨b=h.n) h1 c q m st 0:=by rw [hh1];exact a.box _
 have fb:0≤flg (decide (v < 0))∧flg (decide (v < 0))≤1:=by cases decide (v < 0) <;> decide
 obtain ⟨_,h2,a2,rfl,R2⟩:=(bits93_ok a1 (t:=h.n) (o:=0) (n:=1) (v:=flg (decide (v < 0))) g1 (.inr rfl) (by omega) rfl (by omega) (by decide) (fun _=>by show _∧_ < ((2:Nat):Int);omega)).elim
 have bl:=St.numV_lt (v:=(flg (decide (v < 0))).toNat) a.ok.2 (n:=1) (by omega)
 have bw:st.sd.writes=true→st.numV 1 (flg (decide (v < 0))).toNat=(flg (decide (v < 0))).toNat:=fun h=>St.numV_w h 1 _ (by show _ < 2;omega)
 obtain ⟨below,hbe⟩:∃ z,z=st.numV 1 (flg (decide (v < 0))).toNat:=⟨_,rfl⟩
 obtain ⟨st2,hst2⟩:∃ z,z=st.num 1 (flg (decide (v < 0))).toNat:=⟨_,rfl⟩
 rw [← hbe] at R2 bl bw
 rw [← hst2] at R2
 have w2:st2.sd.writes=st.sd.writes:=by rw [hst2];exact St.num_wr _ _ _
 have a2':KW 93 [.ptr q 0,.int .i64 1,.ptr h.n 0] h1=some (.ret (.tup []),h2):=a2
 have n2:=R2.kp.n
 have b2:h2.get h.n=some (.cells [.int .i64 (below:Nat)] 3 false):=R2.box
 -- frac,class,rest
 obtain ⟨h3,hh3⟩:∃ z,z=h2.new (.cells [.int .i64 ((M % 8:Nat):Int)] 3 false):=⟨_,rfl⟩
 have x3:Ext h2 h3:=by rw [hh3];exact (Ext.refl h2).new _
 have n3:h3.n=h2.n+1:=by rw [hh3,H.n_new]
 have a3:Co (fun b=>(P b∨b=h.n)∨b=h2.n) h3 c q (m+1) st2 0:=by rw [hh3];exact R2.co.box _
 have L0:M / 8+1 ≠ 0:=by omega
 have lb:=log2_b L0
 have L11:Nat.log2 (M / 8+1) < 12:=(Nat.log2_lt L0).2 (by omega)
 have lg:=log62_ok L0 (by omega) h3
 obtain ⟨L,hL⟩:∃ L,L=Nat.log2 (M / 8+1):=⟨_,rfl⟩
 rw [← hL] at lb L11 lg
 obtain ⟨h4,hh4⟩:∃ z,z=h3.new (.cells [.int .i64 (L:Nat)] 3 false):=⟨_,rfl⟩
 have x4:Ext h3 h4:=by rw [hh4];exact (Ext.refl h3).new _
 have n4:h4.n=h3.n+1:=by rw [hh4,H.n_new]
 have a4:Co (fun b=>((P b∨b=h.n)∨b=h2.n)∨b=h3.n) h4 c q (m+1) st2 0:=by rw [hh4];exact a3.box _
 have r4:h4.rd1 h3.n 0=some (.int .i64 (L:Nat)):=by rw [hh4];exact rd1_new _ _ _ _ _
 have pc:=two_pow_cast L
 obtain ⟨rest,hrest⟩:∃ z,z=M / 8+1 - 2 ^ L:=⟨_,rfl⟩
 have pL:=Nat.pow_succ 2 L
 have s1:binK 0 .shl (.int .i64 1) (.int .i64 (L:Nat))=some (.int .i64 ((2 ^ L:Nat):Int)):=by have:=shl_p (k:=L) (by omega) (a:=1) (by decide);rw [Nat.one_mul] at this;exact this
 obtain ⟨pw_,hpw⟩:∃ z,z=2 ^ L:=⟨_,rfl⟩
 rw [← hpw] at s1 hrest lb
 rw [pL,← hpw] at lb
 have zr:IntKind.i64.wrap (((M / 8+1:Nat):Int) - (pw_:Nat))=(rest:Nat):=by rw [wi64 (by omega) (by omega)];omega
 obtain ⟨h5,hh5⟩:∃ z,z=h4.new (.cells [.int .i64 (rest:Nat)] 3 false):=⟨_,rfl⟩
 have x5:Ext h4 h5:=by rw [hh5];exact (Ext.refl h4).new _
 have n5:h5.n=h4.n+1:=by rw [hh5,H.n_new]
 have a5:Co (fun b=>(((P b∨b=h.n)∨b=h2.n)∨b=h3.n)∨b=h4.n) h5 c q (m+1) st2 0:=by rw [hh5];exact a4.box _
 have g5a:h5.get h.n=some (.cells [.int .i64 (below:Nat)] 3 false):=by rw [x5.get _ (by omega),x4.get _ (by omega),x3.get _ (by omega)];exact b2
 have g5b:h5.get h2.n=some (.cells [.int .i64 ((M % 8:Nat):Int)] 3 false):=by rw [x5.get _ (by omega),x4.get _ (by omega),hh3];exact get_new_same
 have g5c:h5.get h3.n=some (.cells [.int .i64 (L:Nat)] 3 false):=by rw [x5.get _ (by omega),hh4];exact get_new_same
 have g5d:h5.get h4.n=some (.cells [.int .i64 (rest:Nat)] 3 false):=by rw [hh5];exact get_new_same
 -- the class
 have hwv:st.sd.writes=true→M≤16375∧L < 11∧M+1=v.natAbs:=fun h=>by
  obtain ⟨h1,h2⟩:=hw h
  have e:M+1=v.natAbs:=by rw [hM];unfold mOf;omega
  refine ⟨by omega,?_,e⟩
  rw [hL];exact (Nat.log2_lt L0).2 (by omega)
 have cw:st2.sd.writes=true→0≤(L:Int) - 0∧(L:Int) - 0 < (vl 18:Nat):=fun h=>by
  have:=hwv (by rw [← w2];exact h)
  show _∧_ < ((11:Nat):Int);omega
 obtain ⟨_,h6,a6,rfl,R6⟩:=(symbol60_ok a5 (t:=h3.n) (o:=0) (k:=18) (x:=x) (v:=(L:Nat)) (f:=0) g5c (.inl (.inr rfl)) (by omega) rfl (by omega) (by decide) hx (by omega) (by decide) cw).elim
 rw [Int.sub_zero,Int.add_zero] at R6
 have cl_l:st2.symV 18 x (L:Nat) < 11:=St.symV_lt a5.ok.1 (k:=18) (by decide) hx (fun h=>by have:=cw h;omega)
 have cl_w:st2.sd.writes=true→st2.symV 18 x (L:Nat)=L:=fun h=>by rw [St.symV_w h];omega
 obtain ⟨cl,hcl⟩:∃ z,z=st2.symV 18 x (L:Nat):=⟨_,rfl⟩
 obtain ⟨st6,hst6⟩:∃ z,z=st2.sym 18 x (L:Nat):=⟨_,rfl⟩
 rw [← hcl] at R6 cl_l cl_w
 rw [← hst6] at R6
 have w6:st6.sd.writes=st.sd.writes:=by rw [hst6,St.sym_wr,w2]
 have n6:=R6.kp.n
 have a6':KW 60 [.ptr q 0,.int .i64 18,.int .i64 (x:Nat),.int .i64 0,.ptr h3.n 0] h5=some (.ret (.tup []),h6):=a6
 have g6a:h6.get h.n=_:=(R6.kp.get _ ⟨.inl (.inl (.inl (.inr rfl))),by omega,by omega⟩).trans g5a
 have g6b:h6.get h2.n=_:=(R6.kp.get _ ⟨.inl (.inl (.inr rfl)),by omega,by omega⟩).trans g5b
 have g6c:h6.get h3.n=some (.cells [.int .i64 (cl:Nat)] 3 false):=R6.box
 have g6d:h6.get h4.n=_:=(R6.kp.get _ ⟨.inr rfl,by omega,by omega⟩).trans g5d
 -- what is more
 have rw_:st6.sd.writes=true→0≤(rest:Int)∧(rest:Int) < pw cl:=fun h=>by
  have hh:=hwv (by rw [← w6];exact h)
  have:=cl_w (by rw [w2,← w6];exact h)
  unfold pw
  rw [this,← hpw];omega
 obtain ⟨_,h7,a7,rfl,R7⟩:=(bits93_ok R6.co (t:=h4.n) (o:=0) (n:=cl) (v:=(rest:Nat)) g6d (.inr rfl) (by omega) rfl (by omega) (by omega) rw_).elim
 rw [Int.toNat_natCast] at R7
 have re_l:=St.numV_lt (v:=rest) R6.co.ok.2 (n:=cl) (by omega)
 have re_w:st6.sd.writes=true→st6.numV cl rest=rest:=fun h=>St.numV_w h cl _ (by have:=(rw_ h).2;unfold pw at this;omega)
 obtain ⟨re,hre⟩:∃ z,z=st6.numV cl rest:=⟨_,rfl⟩
 obtain ⟨st7,hst7⟩:∃ z,z=st6.num cl rest:=⟨_,rfl⟩
 rw [← hre] at R7 re_l re_w
 rw [← hst7] at R7
 have w7:st7.sd.writes=st.sd.writes:=by rw [hst7,St.num_wr,w6]
 have n7:=R7.kp.n
 have g7a:h7.get h.n=_:=(R7.kp.get _ ⟨.inl (.inl (.inl (.inr rfl))),by omega,by omega⟩).trans g6a
 have g7b:h7.get h2.n=_:=(R7.kp.get _ ⟨.inl (.inl (.inr rfl)),by omega,by omega⟩).trans g6b
 have g7c:h7.get h3.n=_:=(R7.kp.get _ ⟨.inl (.inr rfl),by omega,by omega⟩).trans g6c
 have g7d:h7.get h4.n=some (.cells [.int .i64 (re:Nat)] 3 false):=R7.box
 -- the fraction
 obtain ⟨_,h8,a8,rfl,R8⟩:=(symbol60_ok R7.co (t:=h2.n) (o:=0) (k:=19) (x:=x) (v:=((M % 8:Nat):Int)) (f:=0) g7b (.inl (.inl (.inr rfl))) (by omega) rfl (by omega) (by decide) hx (by omega) (by decide) (fun _=>by show _∧_ < ((8:Nat):Int);omega)).elim
 rw [Int.sub_zero,Int.add_zero] at R8
 have f_l:st7.symV 19 x ((M % 8:Nat):Int) < 8:=St.symV_lt R7.co.ok.1 (k:=19) (by decide) hx (fun _=>by show _∧_ < ((8:Nat):Int);omega)
 have f_w:st7.sd.writes=true→st7.symV 19 x ((M % 8:Nat):Int)=M % 8:=fun h=>by rw [St.symV_w h];omega
 obtain ⟨f,hf⟩:∃ z,z=st7.symV 19 x ((M % 8:Nat):Int):=⟨_,rfl⟩
 rw [← hf] at R8 f_l f_w
 have n8:=R8.kp.n
 have a8':KW 60 [.ptr q 0,.int .i64 19,.int .i64 (x:Nat),.int .i64 0,.ptr h2.n 0] h7=some (.ret (.tup []),h8):=a8
 have q8a:=rd1_of (o:=0) ((R8.kp.get h.n ⟨.inl (.inl (.inl (.inr rfl))),by omega,by omega⟩).trans g7a)
 have q8b:h8.rd1 h2.n 0=some (.int .i64 (f:Nat)):=by rw [rd1_of R8.box];rfl
 have q8c:=rd1_of (o:=0) ((R8.kp.get h3.n ⟨.inl (.inr rfl),by omega,by omega⟩).trans g7c)
 have q8d:=rd1_of (o:=0) ((R8.kp.get h4.n ⟨.inr rfl,by omega,by omega⟩).trans g7d)
 have q6c:=rd1_of (o:=0) g6c
 have pcl:2 ^ cl≤2 ^ 10:=Nat.pow_le_pow_right (by decide) (by omega)
 have pcl0:=Nat.two_pow_pos cl
 have s2:binK 0 .shl (.int .i64 1) (.int .i64 (cl:Nat))=some (.int .i64 ((2 ^ cl:Nat):Int)):=by have:=shl_p (k:=cl) (by omega) (a:=1) (by decide);rw [Nat.one_mul] at this;exact this
 have exP:(partP x v).exec st=(some (partV below cl re f),st7.sym 19 x ((M % 8:Nat):Int)):=by
  unfold partP partV
  rw [← hM,← hL,← hpw,← hrest]
  rw [Pr.exec_num,← hbe,← hst2,Pr.exec_sym,← hcl,← hst6,Pr.exec_num,Int.toNat_natCast,← hre,← hst7,Pr.exec_sym,← hf,Pr.exec_done]
 obtain ⟨pc_,hpc⟩:∃ z,z=2 ^ cl:=⟨_,rfl⟩
 have hpv:partV below cl re f=if below=1 then -((8*(pc_+re - 1)+f:Nat):Int) - 1 else ((8*(pc_+re - 1)+f:Nat):Int)+1:=by
  unfold partV;rw [← hpc,Nat.mul_comm]
 rw [← hpc] at s2 pcl pcl0 re_l
 obtain ⟨A,hA⟩:∃ A,A=pc_+re - 1:=⟨_,rfl⟩
 rw [← hA] at hpv
 have Ab:A≤2046:=by omega
 have zz1:IntKind.i64.wrap ((pc_:Int)+re)=((pc_+re:Nat):Int):=by rw [wi64 (by omega) (by omega)];omega
 have zz2:IntKind.i64.wrap (((pc_+re:Nat):Int) - 1)=(A:Nat):=by rw [wi64 (by omega) (by omega)];omega
 have s3:binK 0 .shl (.int .i64 (A:Nat)) (.int .u64 3)=some (.int .i64 ((8*A:Nat):Int)):=by
  rw [binK_shl,if_neg (by decide)]
  show some (V.int .i64 (IntKind.i64.wrap ((A:Int)*2 ^ min (3:Int).toNat 64)))=_
  rw [show min (3:Int).toNat 64=3 by decide,show (2:Int) ^ 3=8 by decide,wi64 (by omega) (by omega)]
  congr 2;omega
 have s4:=or8 (a:=A) (b:=f) (by omega) f_l
 have s5:binK 0 .shr (.int .i64 (M:Nat)) (.int .u64 3)=some (.int .i64 ((M / 8:Nat):Int)):=by
  rw [binK_shr,if_neg (by decide)]
  show some (V.int .i64 ((M:Int).fdiv (2 ^ min (3:Int).toNat 64)))=_
  rw [show min (3:Int).toNat 64=3 by decide,show (2:Int) ^ 3=8 by decide]
  congr 2;rw [Int.fdiv_eq_ediv_of_nonneg _ (by decide)];omega
 have s6:binK 0 .and (.int .i64 (M:Nat)) (.int .i64 7)=some (.int .i64 ((M % 8:Nat):Int)):=by
  have:=binK_mask 0 (M:Int) 3 (by decide)
  rw [show (2:Int) ^ 3 - 1=7 by decide,show (2:Int) ^ 3=8 by decide] at this
  rw [this];congr 2
 obtain ⟨M8,hM8⟩:∃ z,z=M / 8:=⟨_,rfl⟩
 obtain ⟨Mr,hMr⟩:∃ z,z=M % 8:=⟨_,rfl⟩
 rw [← hM8] at s5 zr lg
 rw [← hMr] at s6 hh3
 have zM8:IntKind.i64.wrap ((M8:Int)+1)=((M8+1:Nat):Int):=by rw [wi64 (by omega) (by omega)];omega
 obtain ⟨T,hT⟩:∃ z,z=8*A+f:=⟨_,rfl⟩
 rw [← hT] at s4 hpv
 obtain ⟨A8,hA8⟩:∃ z,z=8*A:=⟨_,rfl⟩
 rw [← hA8] at s3 s4
 have zT1:IntKind.i64.wrap (-(T:Int)) = -(T:Int):=wi64 (by omega) (by omega)
 have zT2:IntKind.i64.wrap (-(T:Int) - 1) = -(T:Int) - 1:=wi64 (by omega) (by omega)
 have zT3:IntKind.i64.wrap ((T:Int)+1)=(T:Int)+1:=wi64 (by omega) (by omega)
 have coF:Co P h8 c q (m+13) (st7.sym 19 x ((M % 8:Nat):Int)) 0:=(R8.co.less a.pq fun b hb=>.inl (.inl (.inl (.inl hb)))).more (by omega) hm
 have kpF:Kp (fun b=>P b∧b ≠ q) h h8:=by
  refine ⟨by have:=x1.n;omega,?_⟩
  rintro i ⟨hi,iq⟩
  have hin:=a.lt i hi
  rw [R8.kp.get i ⟨.inl (.inl (.inl (.inl hi))),iq,by omega⟩,R7.kp.get i ⟨.inl (.inl (.inl (.inl hi))),iq,by omega⟩,R6.kp.get i ⟨.inl (.inl (.inl (.inl hi))),iq,by omega⟩,x5.get i (by omega),x4.get i (by omega),x3.get i (by omega),R2.kp.get i ⟨.inl hi,iq,by omega⟩,x1.get i hin]
 have hval:st.sd.writes=true→partV below cl re f=v:=fun h=>by
  obtain ⟨h1,h2,h3⟩:=hwv h
  have e1:=bw h
  have e2:=cl_w (by rw [w2];exact h)
  have e3:=re_w (by rw [w6];exact h)
  have e4:=f_w (by rw [w7];exact h)
  have e5:pc_=pw_:=by rw [hpc,hpw,e2]
  rw [hpv]
  have e6:T=M:=by omega
  rw [e6]
  by_cases c0:v < 0
  ·have:below=1:=by rw [e1];simp [flg,c0]
   rw [if_pos this];omega
  ·have:¬ below=1:=by rw [e1];simp [flg,c0]
   rw [if_neg this];omega
 obtain ⟨Q,hQ⟩:∃ Q:V→H→Prop,Q=fun w h'=>∃ r:Int,w=.int .i64 r∧∃ st',(partP x v).exec st=(some r,st')∧(st.sd.writes=true→r=v)∧(-20000≤r∧r≤20000)∧Co P h' c q (m+13) st' 0∧Kp (fun b=>P b∧b ≠ q) h h':=⟨_,rfl⟩
 rw [← hQ]
 have hq:∀ r,r=partV below cl re f→Q (.int .i64 r) h8:=fun r e=>by
  rw [hQ];exact ⟨r,rfl,_,by rw [e];exact exP,fun h=>by rw [e];exact hval h,by rw [e,hpv];split <;> omega,coF,kpF⟩
 rw [w80,f80,s80]
 have wr1:(h.new (.cells [.int .i64 0] 3 false)).wr1 h.n 0 (.int .i64 1)=some (h.new (.cells [.int .i64 1] 3 false)):=wr1_new _ _ _ _ _ (by simp)
 by_cases c0:v < 0
 ·have e1:flg (decide (v < 0))=1:=by simp [flg,c0]
  rw [e1] at hh1
  by_cases cb:below=1
  ·have cb':(below:Int)=1:=by omega
   rw [if_pos cb] at hpv
   have:=hq _ hpv.symm
   simp [zn,m3,zM,nw,wr1,c0,← hh1,a2',-binK_shr,s5,-binK_and,s6,← hh3,zM8,-Int.natCast_add,lg,← hh4,r4,-binK_shl,s1,zr,← hh5,a6',q6c,a7,a8',q8a,q8b,q8c,q8d,s2,zz1,zz2,s3,-binK_or,s4,eq_true cb',zT1,zT2]
   exact this
  ·have cb':¬ (below:Int)=1:=by omega
   rw [if_neg cb] at hpv
   have:=hq _ hpv.symm
   simp [zn,m3,zM,nw,wr1,c0,← hh1,a2',-binK_shr,s5,-binK_and,s6,← hh3,zM8,-Int.natCast_add,lg,← hh4,r4,-binK_shl,s1,zr,← hh5,a6',q6c,a7,a8',q8a,q8b,q8c,q8d,s2,zz1,zz2,s3,-binK_or,s4,cb',zT3]
   exact this
 ·have e1:flg (decide (v < 0))=0:=by simp [flg,c0]
  rw [e1] at hh1
  have wr0:h1.wr1 h.n 0 (.int .i64 0)=some h1:=by rw [hh1,wr1_new _ _ _ _ _ (by simp)];rfl
  by_cases cb:below=1
  ·have cb':(below:Int)=1:=by omega
   rw [if_pos cb] at hpv
   have:=hq _ hpv.symm
   simp [zn,m3,zM,nw,wr0,c0,← hh1,a2',-binK_shr,s5,-binK_and,s6,← hh3,zM8,-Int.natCast_add,lg,← hh4,r4,-binK_shl,s1,zr,← hh5,a6',q6c,a7,a8',q8a,q8b,q8c,q8d,s2,zz1,zz2,s3,-binK_or,s4,eq_true cb',zT1,zT2]
   exact this
  ·have cb':¬ (below:Int)=1:=by omega
   rw [if_neg cb] at hpv
   have:=hq _ hpv.symm
   simp [zn,m3,zM,nw,wr0,c0,← hh1,a2',-binK_shr,s5,-binK_and,s6,← hh3,zM8,-Int.natCast_add,lg,← hh4,r4,-binK_shl,s1,zr,← hh5,a6',q6c,a7,a8',q8a,q8b,q8c,q8d,s2,zz1,zz2,s3,-binK_or,s4,cb',zT3]
   exact this
end Go.Proofs.Ytbkmdnmncaakdaa
