import Derived.Test.YtbkmdnmncaakdaaPaMw
set_option linter.unusedVariables false
set_option linter.unusedSimpArgs false
set_option maxRecDepth 20000
namespace Go.Proofs.Ytbkmdnmncaakdaa
open Go Go.Zf
open Go.Zf (wi64)
theorem there24_ok {D:Nat→Prop} {h:H} {c m:Nat} {st:St} (C:CoderAt D h c m st) (hm:m < 100000000) {Dg:Nat→Prop} {g:Nat} {G:Gr} (ga:GridAt Dg h g G) (dis:∀ b,Dg b→¬ D b) :
  RT (fun w h'=>w=.int .i64 0∧CoderAt (grow D h h') h' c m st∧Mod D h h') (KW 24 [.ptr c 0,.ptr g 0] h):=by
 obtain ⟨_,h1,a1,rfl,C1,M1⟩:=(bits29_ok C (n:=0) (v:=0) (by decide) (by omega) (fun _=>by decide)).elim
 rw [Int.toNat_zero,St.num_zero] at C1
 have a1':KW 49 [.ptr c 0,.int .i64 0,.int .i64 0] h=some (.ret (.tup [.int .i64 (st.numV 0 0:Nat),.int .i64 0]),h1):=a1
 have M1n:=M1.n
 have ga1:GridAt Dg h1 g G:=ga.keep M1.n fun b hb=>M1.get b (ga.hD b hb) (dis b hb)
 obtain ⟨_,h2,a2,rfl,x2⟩:=(skip25_ok ga1 (x:=0) (y:=0) ⟨by decide,by decide,by decide,by decide,by decide,by decide⟩).elim
 rw [if_pos (show inT 0 0 by decide)] at a2
 rw [w24,f24,s24]
 simp [a1',a2]
 refine ⟨rfl,(C1.keep x2.n fun b _ hb=>x2.get b hb).mono fun b hb hd=>?_,⟨by have:=x2.n;omega,fun b hb hd=>by rw [x2.get b (by omega),M1.get b hb hd]⟩⟩
 rcases hd with hd | hd
 ·exact .inl hd
 ·exact .inr ⟨hd.1,hb⟩
abbrev K10:List Nat:=[0,1,2,3,4,7,10,11,12,13,14,15,16,17]
structure E10 (c g q t t0:Nat) (key ll:Bool) (sc ic:Nat) (e:E):Prop where
 e0:e.s K10 0=.ptr c 0
 e1:e.s K10 1=.ptr g 0
 e3:e.s K10 3=.bool key
 e4:e.s K10 4=.bool ll
 e7:e.s K10 7=.ptr t 0
 e10:e.s K10 10=.ptr t0 0
 e13:e.s K10 13=.int .i64 (sc:Nat)
 e15:e.s K10 15=.int .i64 (ic:Nat)
 e17:e.s K10 17=.ptr q 0
@[simp] theorem bl_np (c:Nat):bl [.nilp,.int .i64 0] [(some (0,1),.ptr c 0)]=some (.agg [.ptr c 0,.int .i64 0]):=id rfl
def CEnd (D:Nat→Prop) (h:H) (c m:Nat) (R:Option Bk × St) (w:V) (h':H):Prop :=
 CoderAt (grow D h h') h' c m R.2∧Mod D h h'∧w=(match R.1 with | some r=>.tup [r.v,.int .i64 0] | none=>.tup [bkZ.v,.int .i64 4])
def inB (wr:Bool) (b:Bk):Bk:=if wr then b else shapeB b
theorem inB_sh (wr:Bool) (b:Bk):shapeB (inB wr b)=shapeB b:=by cases wr <;> rfl
theorem small_of {key ll:Bool} {b:Bk} (mb:MayB key ll b):SmallB b∧SmallE b:=by
 obtain ⟨sh,nk,si,hi⟩:=mb
 cases it:b.inter with
 | true =>
  rw [it,if_pos rfl] at hi
  obtain ⟨⟨_,z2,z3,z4,z5,z6,z7⟩,r,mm,v0,fl,sec⟩:=hi
  unfold vecB at v0
  refine ⟨⟨by omega,by omega,by omega,by omega,by omega,by omega⟩,⟨⟨by omega,?_⟩,by omega,by omega,⟨by omega,by omega⟩,?_⟩⟩
  ·unfold secondB at sec
   cases hc:b.comp with
   | true=>rw [hc,if_pos rfl] at sec;omega
   | false=>rw [hc,if_neg (by decide)] at sec;omega
  ·unfold secondB at sec
   cases hc:b.comp with
   | true=>rw [hc,if_pos rfl] at sec;have:=sec.2.1;unfold vecB at this;exact ⟨by omega,by omega⟩
   | false=>rw [hc,if_neg (by decide)] at sec;rw [sec.2];exact ⟨by decide,by decide⟩
 | false =>
  rw [it,if_neg (by decide)] at hi
  obtain ⟨⟨_,z2,z3,z4,z5,z6,z7,z8,z9⟩,hy,hu,dy,du,hc⟩:=hi
  unfold deltaB at dy du
  refine ⟨⟨by omega,by omega,by omega,by omega,?_,?_⟩,⟨⟨by omega,by omega⟩,by omega,by omega,by rw [z6];exact ⟨by decide,by decide⟩,by rw [z7];exact ⟨by decide,by decide⟩⟩⟩
  ·unfold cflB at hc;split at hc <;> omega
  ·unfold cflB at hc;split at hc <;> omega
theorem small_z (b:Bk):SmallB (shapeB b)∧SmallE (shapeB b):=by
 have z:(-1000:Int)≤0∧(0:Int)≤1000:=by decide
 have y:(-5000:Int)≤0∧(0:Int)≤5000:=by decide
 exact ⟨⟨z,z,z,z,z,z⟩,⟨⟨z,z⟩,z,z,⟨y,y⟩,⟨y,y⟩⟩⟩
structure St10 (P:Nat→Prop) (hk:H) (c q t m:Nat) (st:St) (b:Bk) (h:H):Prop where
 R:Res P hk c q t 45 m st b.cs h
theorem code10_ok {D:Nat→Prop} {h:H} {c m:Nat} {st:St} (C:CoderAt D h c m st) (hD:∀ b,D b→b < h.n) {Dg:Nat→Prop} {g:Nat} {G:Gr} (ga:GridAt Dg h g G) (dis:∀ b,Dg b→¬ D b) {b:Bk} (ig:InG G b) (hm:m+72 < 100000000) {key ll:Bool}
  (hw:st.sd.writes=true→MayB key ll b∧AgreeB (vsOf G b) b) :
  RT (fun w h'=>CEnd D h c (m+72) ((blockP st.sd.writes key ll (cntP Bk.skip G b.x b.y) (cntP Bk.inter G b.x b.y) (vsOf G b) (inB st.sd.writes b)).exec st) w h') (KW 10 [.ptr c 0,.ptr g 0,b.v,.bool key,.bool ll] h):=by
 obtain ⟨h1,hh1⟩:∃ z,z=h.new (.cells b.cs 45 false):=⟨_,rfl⟩
 obtain ⟨h2,hh2⟩:∃ z,z=h1.new (.cells bkZ.cs 45 false):=⟨_,rfl⟩
 have n1:h1.n=h.n+1:=by rw [hh1,H.n_new]
 have n2:h2.n=h1.n+1:=by rw [hh2,H.n_new]
 have x2:Ext h h2:=by rw [hh2,hh1];exact ((Ext.refl h).new _).new _
 have t2:h2.get h.n=some (.cells b.cs 45 false):=by rw [hh2,get_new_lt (by omega),hh1,get_new_same]
 have z2:h2.get h1.n=some (.cells bkZ.cs 45 false):=by rw [hh2,get_new_same]
 have nDt:¬ D h.n∧¬ D h1.n:=⟨fun hd=>by have:=hD _ hd;omega,fun hd=>by have:=hD _ hd;omega⟩
 have C2:CoderAt D h2 c m st:=C.keep x2.n fun b _ hb=>x2.get b hb
 obtain ⟨_,h3,a3,rfl,C3,M3⟩:=(there24_ok C2 (by omega) (ga.ext x2) dis).elim
 have M3n:=M3.n
 have t3:h3.get h.n=_:=(M3.get _ (by omega) nDt.1).trans t2
 have z3:h3.get h1.n=_:=(M3.get _ (by omega) nDt.2).trans z2
 have ga3:GridAt Dg h3 g G:=(ga.ext x2).keep M3.n fun b hb=>M3.get b ((ga.ext x2).hD b hb) (dis b hb)
 have rd3:∀ o,h3.rd1 h.n o=b.cs[o]?:=fun o=>rd1_of t3
 obtain ⟨_,h4,a4,rfl,x4⟩:=(skip25_ok ga3 ig.pl).elim
 rw [if_pos ig.i1] at a4
 have t4:h4.get h.n=_:=(x4.get _ (H.get_lt t3)).trans t3
 have rd4:∀ o,h4.rd1 h.n o=b.cs[o]?:=fun o=>rd1_of t4
 obtain ⟨_,h5,a5,rfl,x5⟩:=(inter26_ok (ga3.ext x4) ig.pl).elim
 rw [if_pos ig.i1] at a5
 have t5:h5.get h.n=_:=(x5.get _ (H.get_lt t4)).trans t4
 have rb5:h5.rdN h.n 0 23=some b.cs:=by rw [rdN_of t5 (by simp)];rfl
 obtain ⟨_,h6,a6,rfl,x6⟩:=(shaped27_ok b h5).elim
 have x36:=(x4.trans x5).trans x6
 have C6:CoderAt (grow D h2 h3) h6 c m st:=C3.keep x36.n fun b _ hb=>x36.get b hb
 have wr6:=writes26_ok C6
 have t6:h6.get h.n=_:=(x6.get _ (H.get_lt t5)).trans t5
 have z6:h6.get h1.n=_:=(x36.get _ (H.get_lt z3)).trans z3
 have rb6:h6.rdN h.n 0 23=some b.cs:=by rw [rdN_of t6 (by simp)];rfl
 have x36n:=x36.n
 obtain ⟨sc,hsc⟩:∃ z,z=cntP Bk.skip G b.x b.y:=⟨_,rfl⟩
 obtain ⟨ic,hic⟩:∃ z,z=cntP Bk.inter G b.x b.y:=⟨_,rfl⟩
 have sc3:sc < 3:=by rw [hsc];exact cntP_le _ _ _ _
 have ic3:ic < 3:=by rw [hic];exact cntP_le _ _ _ _
 rw [← hsc] at a4
 rw [← hic] at a5
 rw [← hsc,← hic]
 obtain ⟨RR,hRR⟩:∃ z,z=(blockP st.sd.writes key ll sc ic (vsOf G b) (inB st.sd.writes b)).exec st:=⟨_,rfl⟩
 rw [← hRR]
 obtain ⟨Q,hQ⟩:∃ Q:V→H→Prop,Q=fun w h'=>CEnd D h c (m+72) RR w h':=⟨_,rfl⟩
 rw [← hQ]
 have ga6:=ga3.ext x36
 obtain ⟨b0,hb0⟩:∃ z,z=inB st.sd.writes b:=⟨_,rfl⟩
 have sh0:shapeB b0=shapeB b:=by rw [hb0];exact inB_sh _ _
 rw [w10,f10,s10]
 simp [bx,nw,← hh1,← hh2,a3,rd3,a4,rd4,a5]
 refine sq_in (C:=fun o=>RT Q (fin Try.prog _ _ o)) (fun e g'=>((e.s K10 0=.ptr c 0∧e.s K10 1=.ptr g 0∧e.s K10 3=.bool key∧e.s K10 4=.bool ll∧e.s K10 7=.ptr h.n 0)∧e.s K10 10=.ptr h1.n 0∧e.s K10 13=.int .i64 (sc:Nat)∧e.s K10 15=.int .i64 (ic:Nat)) ∧
  CoderAt (grow D h2 h3) g' c m st∧h6.n≤g'.n∧g'.get h.n=some (.cells b0.cs 45 false)∧∀ x,x < h6.n→x ≠ h.n→g'.get x=h6.get x) ?_ ?_
 ·cases hww:st.sd.writes with
  | false =>
   have e0:b0=shapeB b:=by rw [hb0,hww];rfl
   obtain ⟨_,h7,a7,rfl,x7⟩:=(shape29_ok b h6).elim
   have t7:h7.get h.n=_:=(x7.get _ (H.get_lt t6)).trans t6
   have w7:h7.wrN h.n 0 (shapeB b).cs=some (h7.put h.n (.cells (shapeB b).cs 45 false)):=by
    rw [wrN_of t7 (by simp)]
    have:splice b.cs 0 (shapeB b).cs=(shapeB b).cs:=by simp [splice]
    rw [this]
   rw [hww] at wr6
   have C8:CoderAt (grow D h2 h3) (h7.put h.n (.cells b0.cs 45 false)) c m st:=(C6.keep x7.n fun b _ hb=>x7.get b hb).keep (by rw [H.n_put];exact Nat.le_refl _) fun b hb hb2=>get_put_ne (by
    rintro rfl
    rcases hb with hb | hb
    ·exact nDt.1 hb
    ·omega)
   simp [rb5,a6,ig.sh,wr6,rb6,a7,w7,NmP]
   rw [← e0]
   exact ⟨C8,by rw [H.n_put];exact x7.n,get_put_same (H.get_lt t7),fun x hx hxt=>by rw [get_put_ne hxt,x7.get x hx]⟩
  | true =>
   have e0:b0=b:=by rw [hb0,hww];rfl
   obtain ⟨mb,ag⟩:=hw hww
   obtain ⟨_,h7,a7,rfl,x7⟩:=(check11_ok b key ll h6).elim
   rw [if_pos mb] at a7
   have t7:h7.get h.n=_:=(x7.get _ (H.get_lt t6)).trans t6
   have rb7:h7.rdN h.n 0 23=some b.cs:=by rw [rdN_of t7 (by simp)];rfl
   obtain ⟨_,h8,a8,rfl,x8⟩:=(agrees30_ok (ga6.ext x7) ig (fun hi=>by have:=mb.2.2.2;rw [hi] at this;exact this)).elim
   have x68:=x7.trans x8
   rw [hww] at wr6
   simp only [ag,decide_true] at a8
   simp [rb5,a6,ig.sh,wr6,rb6,a7,rb7,a8,NmP]
   rw [e0]
   exact ⟨C6.keep x68.n fun b _ hb=>x68.get b hb,x68.n,(x8.get _ (H.get_lt t7)).trans t7,fun x hx _=>x68.get x hx⟩
 rintro e g' ⟨⟨⟨e0,e1,e3,e4,e7⟩,e10,e13,e15⟩,Cg,gn,tg,keep⟩
 obtain ⟨hk,hhk⟩:∃ z,z=g'.new (.cells [.ptr c 0,.int .i64 0] 87 false):=⟨_,rfl⟩
 have nk:hk.n=g'.n+1:=by rw [hhk,H.n_new]
 have xk:Ext g' hk:=by rw [hhk];exact (Ext.refl g').new _
 have kk:hk.get g'.n=some (.cells [.ptr c 0,.int .i64 0] 87 false):=by rw [hhk,get_new_same]
 obtain ⟨P,hP⟩:∃ P:Nat→Prop,P=fun x=>x < hk.n∧¬ grow D h2 h3 x:=⟨_,rfl⟩
 obtain ⟨q,hqn⟩:∃ q,q=g'.n:=⟨_,rfl⟩
 obtain ⟨t,htn⟩:∃ t,t=h.n:=⟨_,rfl⟩
 rw [← hqn] at nk kk
 rw [← htn] at e7 tg keep
 have nG:∀ x,(x=q∨x=t∨x=h1.n)→¬ grow D h2 h3 x:=by
  rintro x hx (hd | hd)
  ·have:=hD x hd;omega
  ·omega
 have Pq:P q:=by rw [hP];exact ⟨by omega,nG q (.inl rfl)⟩
 have Pt:P t:=by rw [hP];exact ⟨by omega,nG t (.inr (.inl rfl))⟩
 have P0:P h1.n:=by rw [hP];exact ⟨by omega,nG _ (.inr (.inr rfl))⟩
 have ntq:t ≠ q:=by omega
 have Ck:Co P hk c q m st 0:=⟨⟨grow D h2 h3,Cg.keep xk.n fun b _ hb=>xk.get b hb,fun b hb=>⟨by
   rcases hb with hb | hb
   ·have:=hD b hb;omega
   ·omega,by rw [hP];exact fun hp=>hp.2 hb⟩⟩,kk,Pq,fun b hb=>by rw [hP] at hb;exact hb.1⟩
 have tk:hk.get t=some (.cells b0.cs 45 false):=(xk.get t (H.get_lt tg)).trans tg
 have zk:hk.get h1.n=some (.cells bkZ.cs 45 false):=by rw [xk.get _ (by omega),keep _ (by omega) (by omega)];exact z6
 have dP:∀ x,Dg x→P x∧x ≠ q∧x ≠ t:=fun x hx=>by
  have:=ga.hD x hx
  have ng:¬ grow D h2 h3 x:=by
   rintro (hd | hd)
   ·exact dis x hx hd
   ·omega
  exact ⟨by rw [hP];exact ⟨by omega,ng⟩,by omega,by omega⟩
 have gak:GridAt Dg hk g G:=ga6.keep (by omega) fun x hx=>by
  have:=ga.hD x hx
  rw [xk.get x (by omega),keep x (by omega) (by omega)]
 have ig0:InG G b0:=ig.sh' sh0
 have small:SmallB b0∧SmallE b0:=by
  rw [hb0]
  cases hww:st.sd.writes with
  | false=>exact small_z b
  | true=>exact small_of (hw hww).1
 have hw0:st.sd.writes=true→MayB key ll b0∧AgreeB (vsOf G b0) b0:=fun h=>by
  have:b0=b:=by rw [hb0,h];rfl
  rw [this];exact hw h
 -- what a run's end says
 have done:∀ {hE hF:H} {r:Option Bk} {stF:St} {eE:Int} {w:V},RR=(r,stF)→Co P hE c q (m+72) stF eE→Kp (fun b=>P b∧b ≠ q∧b ≠ t) hk hE→(hF.n=hE.n∧∀ x,x ≠ h1.n→hF.get x=hE.get x)→w=(match r with | some r=>.tup [r.v,.int .i64 0] | none=>.tup [bkZ.v,.int .i64 4])→Q w hF:=by
  intro hE hF r stF eE w hr co kp hf hww
  rw [hQ]
  have kpn:=kp.n
  obtain ⟨⟨D',C',hD'⟩,k,pq,lt⟩:=co
  refine ⟨?_,⟨by omega,fun x hx hdx=>?_⟩,by rw [hr];exact hww⟩
  ·rw [hr]
   refine (C'.keep (by omega) fun x hx _=>hf.2 x (by rintro rfl;exact (hD' _ hx).2 P0)).mono fun x hx hdx=>?_
   have h1:=hD' x hdx
   rw [hP] at h1
   by_cases hxk:x < hk.n
   ·have:grow D h2 h3 x:=Classical.byContradiction fun hc=>h1.2 ⟨hxk,hc⟩
    rcases this with hd | hd
    ·exact .inl hd
    ·exact .inr ⟨by omega,hx⟩
   ·exact .inr ⟨by omega,hx⟩
  ·have hPx:P x:=by
    rw [hP]
    refine ⟨by omega,?_⟩
    rintro (hd | hd)
    ·exact hdx hd
    ·omega
   rw [hf.2 x (by omega),kp.get x ⟨hPx,by omega,by omega⟩,xk.get x (by omega),keep x (by omega) (by omega),x36.get x (by omega),M3.get x (by omega) hdx,x2.get x hx]
 -- the flags
 obtain ⟨_,k1,b1,rfl,R1⟩:=(flag31_ok Ck (t:=t) (o:=4) (k:=2) (x:=sc) (b:=b0.skip) tk Pt ntq rfl (by omega) (by decide) sc3 rfl).elim
 have skw:st.sd.writes=true→decide (st.symV 2 sc (flg b0.skip)=1)=b0.skip:=fun h=>by rw [St.symV_w h];cases b0.skip <;> rfl
 have exB:RR=((if key then Pr.done b0.inter else flagP 3 ic b0.inter).bind fun it=>(if it then Pr.done { b0 with skip:=decide (st.symV 2 sc (flg b0.skip)=1),inter:=it } else intraP { b0 with skip:=decide (st.symV 2 sc (flg b0.skip)=1),inter:=it }).bind fun b1 =>
   (sizeP st.sd.writes ll b1).bind fun tx=>if it then interP (vsOf G b) { b1 with tx:=tx } else Pr.done { b1 with tx:=tx }).exec (st.sym 2 sc (flg b0.skip)):=by
  rw [hRR,← hb0];rfl
 obtain ⟨sk,hsk⟩:∃ z,z=decide (st.symV 2 sc (flg b0.skip)=1):=⟨_,rfl⟩
 obtain ⟨st1,hst1⟩:∃ z,z=st.sym 2 sc (flg b0.skip):=⟨_,rfl⟩
 rw [← hsk,← hst1] at R1 exB
 rw [← hsk] at skw
 have w1:st1.sd.writes=st.sd.writes:=by rw [hst1];exact St.sym_wr _ _ _ _
 obtain ⟨bb1,hbb1⟩:∃ z:Bk,z={ b0 with skip:=sk }:=⟨_,rfl⟩
 have R1:Res P hk c q t 45 (m+1) st1 bb1.cs k1:=by rw [hbb1];exact R1
 have b1':KW 31 [.ptr q 0,.int .i64 2,.int .i64 (sc:Nat),.ptr t 4] hk=some (.ret (.tup []),k1):=b1
 simp [e0,bx,← hhk,← hqn,e7,e13,b1']
 obtain ⟨Pos1,hPos1⟩:∃ Pos:H→Prop,∀ k2,Pos k2 ↔ (∃ it st2,(if key then Pr.done b0.inter else flagP 3 ic b0.inter).exec st1=(some it,st2)∧(st.sd.writes=true→it=b0.inter)∧(key=true→it=false)∧Res P hk c q t 45 (m+2) st2 ({ bb1 with inter:=it }:Bk).cs k2):=⟨_,fun _=>Iff.rfl⟩
 refine sq_in (C:=fun o=>RT Q (fin Try.prog _ _ o)) (fun e k2=>E10 c g q t h1.n key ll sc ic e∧Pos1 k2) ?_ ?_
 ·cases hkey:key with
  | true =>
   have i0:b0.inter=false:=by
    cases hww:st.sd.writes with
    | false=>rw [hb0,hww];rfl
    | true =>
     cases hi:b0.inter with
     | false=>rfl
     | true=>exact ((hw0 hww).1.2.1 ⟨hi,hkey⟩).elim
   have pos:=(hPos1 k1).2 ⟨b0.inter,st1,by rw [hkey];rfl,fun _=>rfl,fun _=>i0,by
    have:({ bb1 with inter:=b0.inter }:Bk)=bb1:=by rw [hbb1]
    rw [this];exact R1.more (by omega) (by omega)⟩
   rw [hkey] at e3
   simp [e3,NmP]
   exact ⟨⟨by simp [e0],by simp [e1],by simp [e3],by simp [e4],by simp [e7],by simp [e10],by simp [e13],by simp [e15],by simp⟩,pos⟩
  | false =>
   obtain ⟨_,k2,b2,rfl,R2⟩:=(flag31_ok R1.co (t:=t) (o:=5) (k:=3) (x:=ic) (b:=b0.inter) R1.box Pt ntq (by rw [hbb1];rfl) (by omega) (by decide) ic3 rfl).elim
   have b2':KW 31 [.ptr q 0,.int .i64 3,.int .i64 (ic:Nat),.ptr t 5] k1=some (.ret (.tup []),k2):=b2
   have pos:=(hPos1 k2).2 ⟨_,_,by rw [hkey];rfl,fun h=>by rw [St.symV_w (by rw [w1];exact h)];cases b0.inter <;> rfl,(fun h=>by rw [hkey] at h;cases h),R1.trans R2⟩
   rw [hkey] at e3
   simp [e3,e7,e15,b2',NmP]
   exact ⟨⟨by simp [e0],by simp [e1],by simp [e3],by simp [e4],by simp [e7],by simp [e10],by simp [e13],by simp [e15],by simp⟩,pos⟩
 rintro e k2 ⟨E,pos⟩
 obtain ⟨it,st2,exI,wi,ki,R2⟩:=(hPos1 k2).1 pos
 obtain ⟨bb2,hbb2⟩:∃ z:Bk,z={ bb1 with inter:=it }:=⟨_,rfl⟩
 rw [← hbb2] at R2
 rw [Pr.exec_some exI] at exB
 have w2:st2.sd.writes=st.sd.writes:=(exec_wr' exI).trans w1
 have hbb2':bb2={ b0 with skip:=sk,inter:=it }:=by rw [hbb2,hbb1]
 rw [← hbb2'] at exB
 have sh2:shapeB bb2=shapeB b:=by rw [hbb2'];exact sh0
 have bbw:st.sd.writes=true→bb2=b0:=fun h=>by rw [hbb2',skw h,wi h]
 have i5:k2.rd1 t 5=some (.bool it):=by rw [rd1_of R2.box,hbb2];rfl
 have sm2:SmallB bb2∧SmallE bb2:=by rw [hbb2'];exact ⟨small.1,⟨small.2.r,small.2.mm,small.2.fl,small.2.m0,small.2.m1⟩⟩
 have i2:bb2.inter=it:=by rw [hbb2]
 -- intra
 obtain ⟨Pos2,hPos2⟩:∃ Pos:H→Prop,∀ k3,Pos k3 ↔ (∃ bb3 st3,(if it then Pr.done bb2 else intraP bb2).exec st2=(some bb3,st3)∧(st.sd.writes=true→bb3=b0)∧(shapeB bb3=shapeB b∧bb3.skip=bb2.skip∧bb3.inter=it∧bb3.tx=bb2.tx)∧(it=true→bb3=bb2)∧Res P hk c q t 45 (m+9) st3 bb3.cs k3):=⟨_,fun _=>Iff.rfl⟩
 refine sq_in (C:=fun o=>RT Q (fin Try.prog _ _ o)) (fun e k3=>E10 c g q t h1.n key ll sc ic e∧Pos2 k3) ?_ ?_
 ·cases hit:it with
  | true =>
   have pos:=(hPos2 k2).2 ⟨bb2,st2,by rw [hit];rfl,bbw,⟨sh2,rfl,i2,rfl⟩,fun _=>rfl,R2.more (by omega) (by omega)⟩
   rw [hit] at i5
   simp [E.e7,i5,NmP]
   exact ⟨⟨by simp [E.e0],by simp [E.e1],by simp [E.e3],by simp [E.e4],by simp [E.e7],by simp [E.e10],by simp [E.e13],by simp [E.e15],by simp [E.e17]⟩,pos⟩
  | false =>
   obtain ⟨_,k3,b3,rfl,r,st3,x1,x2,x3,R3⟩:=(intra32_ok R2.co R2.box Pt ntq (by omega) (ig.sh' sh2).sh sm2.1 (fun h=>by
    rw [w2] at h
    rw [bbw h]
    have:=(hw0 h).1.2.2.2
    rw [← wi h,hit,if_neg (by decide)] at this
    exact this)).elim
   have pos:=(hPos2 k3).2 ⟨r,st3,by rw [hit];exact x1,fun h=>(x2 (by rw [w2];exact h)).trans (bbw h),⟨x3.1.trans sh2,x3.2.1,by rw [x3.2.2.1,i2],x3.2.2.2⟩,(fun h=>by rw [hit] at h;cases h),R2.trans R3⟩
   rw [hit] at i5
   simp [E.e7,i5,E.e17,b3,NmP]
   exact ⟨⟨by simp [E.e0],by simp [E.e1],by simp [E.e3],by simp [E.e4],by simp [E.e7],by simp [E.e10],by simp [E.e13],by simp [E.e15],by simp [E.e17]⟩,pos⟩
 rintro e k3 ⟨E,pos⟩
 obtain ⟨bb3,st3,exJ,wb3,⟨sh3,s31,s32,s33⟩,ib3,R3⟩:=(hPos2 k3).1 pos
 rw [Pr.exec_some exJ] at exB
 have w3:st3.sd.writes=st.sd.writes:=(exec_wr' exJ).trans w2
 -- the size
 obtain ⟨_,k4,b4,rfl,tx,st4,x1,x2,R4⟩:=(size33_ok R3.co R3.box Pt ntq (by omega) (ig.sh' sh3).sh ll (fun h=>by
  rw [w3] at h
  rw [wb3 h];exact (hw0 h).1.2.2.1)).elim
 rw [w3] at x1 x2
 rw [Pr.exec_some x1] at exB
 have R4:=R3.trans R4
 obtain ⟨bb4,hbb4⟩:∃ z:Bk,z={ bb3 with tx:=tx }:=⟨_,rfl⟩
 rw [← hbb4] at R4 exB
 have w4:st4.sd.writes=st.sd.writes:=(exec_wr' x1).trans w3
 have bw4:st.sd.writes=true→bb4=b0:=fun h=>by rw [hbb4,x2 h,wb3 h]
 have sh4:shapeB bb4=shapeB b:=by rw [hbb4];exact sh3
 have i45:k4.rd1 t 5=some (.bool it):=by rw [rd1_of R4.box,hbb4];show some (V.bool bb3.inter)=_;rw [s32]
 simp [E.e17,E.e7,E.e4,b4]
 -- inter
 obtain ⟨Pos3,hPos3⟩:∃ Pos:H→Prop,∀ k5,Pos k5 ↔ (∃ r st5 eE,RR=(r,st5)∧Co P k5 c q (m+72) st5 eE∧Kp (fun b=>P b∧b ≠ q∧b ≠ t) hk k5∧(match r with | some r=>eE=0∧k5.get t=some (.cells r.cs 45 false) | none=>eE=4)):=⟨_,fun _=>Iff.rfl⟩
 refine sq_in (C:=fun o=>RT Q (fin Try.prog _ _ o)) (fun e k5=>E10 c g q t h1.n key ll sc ic e∧Pos3 k5) ?_ ?_
 ·cases hit:it with
  | false =>
   rw [hit] at i45 exB
   have pos:=(hPos3 k4).2 ⟨some bb4,st4,0,exB,R4.co.more (by omega) (by omega),R4.kp,rfl,R4.box⟩
   simp [E.e7,i45,NmP]
   exact ⟨⟨by simp [E.e0],by simp [E.e1],by simp [E.e3],by simp [E.e4],by simp [E.e7],by simp [E.e10],by simp [E.e13],by simp [E.e15],by simp [E.e17]⟩,pos⟩
  | true =>
   have e43:bb4={ bb2 with tx:=tx }:=by rw [hbb4,ib3 hit]
   obtain ⟨_,k5,b5,rfl,V5⟩:=(inter34_ok R4.co (gak.keep R4.kp.n fun x hx=>R4.kp.get x (dP x hx)) dP R4.box Pt ntq (ig.sh' sh4) (by omega) (by rw [e43];exact ⟨sm2.2.r,sm2.2.mm,sm2.2.fl,sm2.2.m0,sm2.2.m1⟩) (fun h=>by
    rw [w4] at h
    rw [bw4 h]
    have:=(hw0 h).1.2.2.2
    rw [← wi h,hit,if_pos rfl] at this
    exact ⟨this,(hw0 h).2⟩)).elim
   rw [vsOf_sh G sh4] at V5
   rw [hit] at i45 exB
   have exB:RR=(interP (vsOf G b) bb4).exec st4:=exB
   generalize hV:(interP (vsOf G b) bb4).exec st4=RV at V5 exB
   obtain ⟨r,st5⟩:=RV
   have pos:∃ r st5 eE,RR=(r,st5)∧Co P k5 c q (m+72) st5 eE∧Kp (fun b=>P b∧b ≠ q∧b ≠ t) hk k5∧(match r with | some r=>eE=0∧k5.get t=some (.cells r.cs 45 false) | none=>eE=4):=by
    cases r with
    | some r=>exact ⟨some r,st5,0,exB,V5.2.2.co.more (by omega) (by omega),R4.kp.trans V5.2.2.kp,rfl,V5.2.2.box⟩
    | none=>exact ⟨none,st5,4,exB,V5.2.1.more (by omega) (by omega),R4.kp.trans V5.2.2.2,rfl⟩
   have pos':=(hPos3 k5).2 pos
   simp [E.e7,i45,E.e17,E.e1,b5,NmP]
   exact ⟨⟨by simp [E.e0],by simp [E.e1],by simp [E.e3],by simp [E.e4],by simp [E.e7],by simp [E.e10],by simp [E.e13],by simp [E.e15],by simp [E.e17]⟩,pos'⟩
 rintro e k5 ⟨E,pos⟩
 obtain ⟨r,st5,eE,hr,co5,kp5,hr2⟩:=(hPos3 k5).1 pos
 have q1:=rd1_of (o:=1) co5.k
 have z5:k5.get h1.n=some (.cells bkZ.cs 45 false):=by rw [kp5.get h1.n ⟨P0,by omega,by omega⟩,zk]
 have zl:=H.get_lt z5
 have rdp:∀ bq:Bk,(k5.put h1.n (.cells bq.cs 45 false)).rdN h1.n 0 23=some bq.cs:=fun bq=>by rw [rdN_of (get_put_same zl) (by simp)];rfl
 cases r with
 | some r =>
  obtain ⟨rfl,bx5⟩:=hr2
  have rt:k5.rdN t 0 23=some r.cs:=by rw [rdN_of bx5 (by simp)];rfl
  have w5:k5.wrN h1.n 0 r.cs=some (k5.put h1.n (.cells r.cs 45 false)):=by
   rw [wrN_of z5 (by simp)]
   have:splice bkZ.cs 0 r.cs=r.cs:=by simp [splice]
   rw [this]
  have hq:=done (w:=.tup [r.v,.int .i64 0]) (hF:=k5.put h1.n (.cells r.cs 45 false)) hr co5 kp5 ⟨by rw [H.n_put],fun x hx=>get_put_ne hx⟩ rfl
  simp [E.e17,q1,E.e7,rt,E.e10,w5,rdp]
  exact hq
 | none =>
  have hr2:eE=4:=hr2
  subst hr2
  have w5:k5.wrN h1.n 0 bkZ.cs=some (k5.put h1.n (.cells bkZ.cs 45 false)):=by
   rw [wrN_of z5 (by simp)];rfl
  have hq:=done (w:=.tup [bkZ.v,.int .i64 4]) (hF:=k5.put h1.n (.cells bkZ.cs 45 false)) hr co5 kp5 ⟨by rw [H.n_put],fun x hx=>get_put_ne hx⟩ rfl
  have q1':(k5.put h1.n (.cells bkZ.cs 45 false)).rd1 q 1=some (.int .i64 4):=by
   have:=q1
   unfold H.rd1 at this ⊢
   rw [get_put_ne (by omega)];exact this
  simp [E.e17,q1,E.e10,w5,q1',rdp]
  exact hq
end Go.Proofs.Ytbkmdnmncaakdaa
