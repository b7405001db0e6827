import Derived.Test.YtbkmdnmncaakdaaGreatPfMr
set_option linter.unusedVariables false
set_option linter.unusedSimpArgs false
set_option maxRecDepth 20000
namespace Go.Proofs.YtbkmdnmncaakdaaGreat
open Go Go.Zf
open Go.Zf (ZS)
open Pr (Rd Fit MN ML Rs Bd)
variable{P:Nat->Prop}{h:H}{c q m t:Nat}{st:St}{b:Bk}
theorem FZ(a:Co P h c q m st 0)(ht:h.get t=some (.cells b.cs 42 false))(pt:P t)(nt:t≠q)(hm:m+3<100000000)(VJ : -1000<=b.cu/\b.cu<=1000)(Yv : -1000<=b.cv/\b.cv<=1000)
  (hw:st.sd.writes=true->¬(b.cu=0/\b.cv=0)/\(-16<=b.cu/\b.cu<=16)/\(-16<=b.cv/\b.cv<=16)) :
  RT (λw h'=>w=.Zt []/\Ends (Rq (b.cu,b.cv)) st (b.cu,b.cv) λr YI=>Se P h c q t 42 (m+3) YI ({b with cu:=r.1,cv:=r.2}:Bk).cs h') (KW 103 [.ptr q 0,.ptr t 0] h):=by
 have su:=JE b.cu;have sv:=JE b.cv;have rd:∀o,h.Zp t o=b.cs[o]?:=λo=>ZZ ht;have z1:IntKind.i64.wrap (3*(Xv b.cu:Int))=3*(Xv b.cu:Int):=ZS (by omega) (by omega);have z2:IntKind.i64.wrap (3*(Xv b.cu:Int)+(Xv b.cv:Int))=3*(Xv b.cu:Int)+(Xv b.cv:Int):=ZS (by omega) (by omega);obtain⟨h1,ZL⟩:∃z,z=h.new (.cells [.int .i64 (3*(Xv b.cu:Int)+(Xv b.cv:Int))] 3 false):=⟨_,rfl⟩
 have x1:Ext h h1:=by rw[ZL];exact (Ext.refl h).new _
 have n1:h1.n=h.n+1:=by rw[ZL,H.ZP]
 have g1:h1.get h.n=some (.cells [.int .i64 (3*(Xv b.cu:Int)+(Xv b.cv:Int))] 3 false):=by rw[ZL,ZY]
 have a1:Co (λb=>P b\/b=h.n) h1 c q m st 0:=by rw[ZL];exact a.box _
 have KS:=a.lt q a.pq;have Kv:=a.lt t pt;have hwj:st.sd.writes=true->0<=3*(Xv b.cu:Int)+(Xv b.cv:Int)-1/\3*(Xv b.cu:Int)+(Xv b.cv:Int)-1<(vl 8:Nat):=λh=>by have:=hw h;show _/\_<((8:Nat):Int);omega
 obtain⟨_,h2,a2,rfl,R⟩:=(Yt a1 (t:=h.n) (o:=0) (k:=8) (x:=0) (v:=3*(Xv b.cu:Int)+(Xv b.cv:Int)) (f:=1) g1 (.inr rfl) (by omega) rfl (by omega) (by decide) (by decide) (by omega) (by decide) hwj).elim;have j8:st.ZC 8 0 (3*(Xv b.cu:Int)+(Xv b.cv:Int)-1)<8:=St.YF a.ok.1 (k:=8) (by decide) (by decide) hwj;have jw:st.sd.writes=true->((st.ZC 8 0 (3*(Xv b.cu:Int)+(Xv b.cv:Int)-1):Nat):Int)=3*(Xv b.cu:Int)+(Xv b.cv:Int)-1:=λh=>by rw[St.Yx h];have:=hwj h;omega
 have ex:(Rq (b.cu,b.cv)).exec st=(QN (st.ZC 8 0 (3*(Xv b.cu:Int)+(Xv b.cv:Int)-1)) 0 (b.cu,b.cv)).exec (st.sym 8 0 (3*(Xv b.cu:Int)+(Xv b.cv:Int)-1)):=rfl;obtain⟨j,hj⟩:∃j,j=st.ZC 8 0 (3*(Xv b.cu:Int)+(Xv b.cv:Int)-1):=⟨_,rfl⟩
 rw[<-hj]at R j8 jw ex;have Rn:=R.kp.n;have t2:h2.get t=_:=(R.kp.get t ⟨.inl pt,nt,by omega⟩).trans ((x1.get t Kv).trans ht);obtain⟨r,Py,hR⟩:=A4 j (b.cu,b.cv) (st.sym 8 0 (3*(Xv b.cu:Int)+(Xv b.cv:Int)-1));have wF:Py.sd.writes=st.sd.writes:=(YS hR).trans (St.YG _ _ _ _);have start:Se (λb=>P b\/b=h.n) h2 c q t 42 (m+1+0) (st.sym 8 0 (3*(Xv b.cu:Int)+(Xv b.cv:Int)-1)) ({b with cu:=b.cu,cv:=b.cv}:Bk).cs h2:=⟨R.co,t2,Kp.refl _ _⟩
 have jb:h2.get h.n=some (.cells [.int .i64 ((j:Int)+1)] 3 false):=R.box;have KB:KW 98 [.ptr q 0,.int .i64 8,.int .i64 0,.int .i64 1,.ptr h.n 0] h1=some (.ret (.Zt []),h2):=a2;rw[W2 WqL,gM];simp[rd,wU,z1,z2,nw,<-ZL,KB];refine XV (C:=λo=>RT _ (fin Tryz.prog _ _ (Y9 0 o))) _ _ (lZ (P:=P) (h0:=h2) (c:=c) (q:=q) (t:=t) (J:=h.n) (M:=m+1) (b:=b) (R:=(some r,Py)) (j:=j) rfl pt a.pq nt ⟨by omega,by omega⟩ (by omega) j8 (λh=>by
  rw[wF]at h;have h1:=hw h;have h2:=jw h;exact⟨⟨by omega,h1.2.1⟩,⟨by omega,h1.2.2⟩⟩)) 2 ⟨Nat.le_refl _,⟨(b.cu,b.cv),_,start,hR.symm,VJ,Yv,λ_=>rfl⟩,jb,by simp,by simp,by simp,by simp⟩ ?_
 rintro⟨sx,se,sh⟩ ⟨s1,⟨⟨v,YI,Re,pK,_,_,En⟩,_,_,_,_,_⟩⟩;simp only at s1 Re;subst s1;simp;have e2:(QN j 2 v).exec YI=(some v,YI):=rfl;rw[e2]at pK;refine⟨rfl,v,YI,by rw[ex,hR,pK],λh=>En (by rw[<-wF]at h;cases pK;exact h),⟨(Re.co.less a.pq λb hb=>.inl hb).more (by omega) hm,Re.box,⟨by have:=Re.kp.n;have:=x1.n;omega,?_⟩⟩⟩;rintro i ⟨hi,iq,it⟩;have:=a.lt i hi;rw[Re.kp.get i ⟨.inl hi,iq,it⟩,R.kp.get i ⟨.inl hi,iq,by omega⟩,x1.get i this]
def Sc(b:Bk):Prop:=(-1000<=b.ym/\b.ym<=1000)/\(-1000<=b.yd/\b.yd<=1000)/\(-1000<=b.um/\b.um<=1000)/\(-1000<=b.ud/\b.ud<=1000)/\(-1000<=b.cu/\b.cu<=1000)/\(-1000<=b.cv/\b.cv<=1000)
theorem D5(a:Co P h c q m st 0)(ht:h.get t=some (.cells b.cs 42 false))(pt:P t)(nt:t≠q)(hm:m+7<100000000)(sh:YR b)(sm:Sc b)(hw:st.sd.writes=true->Xc b):
  RT (λw h'=>w=.Zt []/\Ends (Xd b) st b λr YI=>(ZD r=ZD b/\r.skip=b.skip/\r.inter=b.inter/\r.tx=b.tx)/\Se P h c q t 42 (m+7) YI r.cs h') (KW 52 [.ptr q 0,.ptr t 0] h):=by
 obtain⟨sy,syd,su,sud,scu,scv⟩:=sm;obtain⟨n,n3,n6,Dn,lg⟩:=sh.min;have rb:h.Ze t 0 23=some b.cs:=by rw[ZU ht (by simp)];rfl
 obtain⟨_,h1,a1,rfl,x1⟩:=(Qp b h).elim;have pn:2^n≠0:=by have:=Nat.two_pow_pos n;omega
 have pn2:2^n<=2^6:=Nat.pow_le_pow_right (by decide) n6;rw[Dn]at a1;have l1:=TE pn (by omega) h1;rw[Nat.log2_two_pow]at l1;obtain⟨mn,TN⟩:∃z,z=2^n:=⟨_,rfl⟩
 rw[<-TN]at a1 l1;have l8:=TE (x:=8) (by decide) (by decide) h1;rw[show Nat.log2 8=3 by decide,show ((8:Nat):Int)=8 from rfl,show ((3:Nat):Int)=3 from rfl]at l8;have z3:IntKind.i64.wrap ((n:Int)-3)=((n-3:Nat):Int):=by rw[ZS (by omega) (by omega)];omega
 have t1:h1.get t=_:=(x1.get t (H.ZW ht)).trans ht;have iw:=hw;have wk:st.sd.writes=true->(0<=b.ym/\b.ym<=12)/\(0<=b.um/\b.um<=13)/\XX b.ym b.yd/\XX b.um b.ud/\S3 b:=λh=>(hw h).2;obtain⟨_,h2,a2,rfl,r1,T5,tQ,w1,⟨k1,k2⟩,d1,R1⟩:=(Jw (a.ext x1) (o1:=6) (o2:=7) (k:=4) (x:=n-3) (v:=b.ym) (d:=b.yd) t1 pt nt rfl rfl (by decide) (by omega) (by decide) (by show n-3<4;omega) sy syd (λh=>by
  obtain⟨h1,_,h3,_⟩:=wk h;unfold XX at h3;exact⟨⟨h1.1,by show _<((13:Nat):Int);omega⟩,λhd=>by omega⟩)).elim
 obtain⟨b1,VJ⟩:∃b1:Bk,b1={b with ym:=r1.1,yd:=r1.2}:=⟨_,rfl⟩
 have R1:Se P h1 c q t 42 (m+2) T5 b1.cs h2:=by rw[VJ];exact R1
 have Ql:h2.Ze t 0 23=some b1.cs:=by rw[ZU R1.box (by simp)];rfl
 obtain⟨_,h3,a3,rfl,x3⟩:=(Gp b1 h2).elim;have t3:h3.get t=_:=(x3.get t (H.ZW R1.box)).trans R1.box;have WO:=YS tQ;have uk:Xw b1=Xw b:=by rw[VJ];rfl
 have tY:Xw b<32/\cx (Xw b)=1/\(vl (Xw b):Int)=(if imax b.w b.h<=32 then 14 else 13):=by unfold Xw;split<;>refine⟨by decide,rfl,?_⟩<;>rfl
 obtain⟨_,h4,a4,rfl,r2,Xz,rh,w2,⟨k3,k4⟩,d2,R2⟩:=(Jw (R1.co.ext x3) (o1:=8) (o2:=9) (k:=Xw b) (x:=0) (v:=b.um) (d:=b.ud) t3 pt nt (by rw[VJ];rfl) (by rw[VJ];rfl) (by decide) (by omega) tY.1 (by rw[tY.2.1];decide) su sud (λh=>by
  rw[WO]at h;obtain⟨_,h1,_,h3,h4⟩:=wk h;unfold XX at h3;unfold S3 at h4;refine⟨⟨h1.1,?_⟩,λhd=>by omega⟩;rw[tY.2.2];by_cases Tq:b.um=13
  .rw[if_pos Tq]at h4;rw[if_pos h4.2.1];omega
  .split<;>omega)).elim
 obtain⟨b2,Yv⟩:∃b2:Bk,b2={b1 with um:=r2.1,ud:=r2.2}:=⟨_,rfl⟩
 have R2:Se P h3 c q t 42 (m+2+2) Xz b2.cs h4:=by rw[Yv];exact R2
 have Gb:=(YS rh).trans WO;have SB:∀o,h4.Zp t o=b2.cs[o]?:=λo=>ZZ R2.box;have re4:=ZZ (o:=1) R2.co.k;have Fz:Kp (λi=>P i/\i≠q/\i≠t) h h4:=(((Kp.of x1 λi hi=>a.lt i hi.1).trans R1.kp).trans (Kp.of x3 λi hi=>R1.co.lt i hi.1)).trans R2.kp;have Ju:(Xd b).exec st=(if r2.1=13 then (Rq (b.cu,b.cv)).bind λc=>.done {b with ym:=r1.1,yd:=r1.2,um:=r2.1,ud:=r2.2,cu:=c.1,cv:=c.2}else .done {b with ym:=r1.1,yd:=r1.2,um:=r2.1,ud:=r2.2}).exec Xz:=by
  unfold Xd;rw[lg,Pr.Zj tQ,Pr.Zj rh]
 have tS:KW 99 [.ptr q 0,.int .i64 (if imax b.w b.h<=32 then 7 else 6),.int .i64 0,.ptr t 8,.ptr t 9] h3=some (.ret (.Zt []),h4):=by
  rw[<-a4];unfold Xw;split<;>rfl
 have bwh:b1.w=b.w/\b1.h=b.h:=by rw[VJ];exact⟨rfl,rfl⟩
 rw[bwh.1,bwh.2]at a3;have KB:KW 99 [.ptr q 0,.int .i64 4,.int .i64 ((n-3:Nat):Int),.ptr t 6,.ptr t 7] h1=some (.ret (.Zt []),h2):=a2;have um2:b2.um=r2.1:=by rw[Yv]
 obtain⟨Q,hQ⟩:∃Q:V->H->Prop,Q=λw h'=>w=.Zt []/\Ends (Xd b) st b λr YI=>(ZD r=ZD b/\r.skip=b.skip/\r.inter=b.inter/\r.tx=b.tx)/\Se P h c q t 42 (m+7) YI r.cs h':=⟨_,rfl⟩
 rw[<-hQ];have eqb:st.sd.writes=true->b.ym=r1.1/\b.yd=r1.2/\b.um=r2.1/\b.ud=r2.2:=λh=>by
  have e1:=w1 h;have e2:=w2 (by rw[WO];exact h);rw[e1,e2];exact⟨rfl,rfl,rfl,rfl⟩
 rw[W2 r52,s52];by_cases Tq:r2.1=13
 .rw[if_pos Tq]at Ju
  obtain⟨_,h5,a5,rfl,r3,SY,rf,w3,R3⟩:=(FZ R2.co (b:=b2) R2.box pt nt (by omega) (by rw[Yv,VJ];exact scu) (by rw[Yv,VJ];exact scv) (λh=>by
   rw[Gb]at h;obtain⟨_,h1,_,h3,h4⟩:=wk h;have yqx:b.um=13:=(eqb h).2.2.1.trans Tq;unfold S3 at h4;rw[if_pos yqx]at h4;rw[Yv,VJ];exact⟨h4.1,h4.2.2.1,h4.2.2.2⟩)).elim
  have ecu:b2.cu=b.cu/\b2.cv=b.cv:=by rw[Yv,VJ];exact⟨rfl,rfl⟩
  rw[ecu.1,ecu.2]at rf w3;have hq:Q (.Zt []) h5:=by
   rw[hQ];refine⟨rfl,({b with ym:=r1.1,yd:=r1.2,um:=r2.1,ud:=r2.2,cu:=r3.1,cv:=r3.2}:Bk),SY,by rw[Ju,Pr.Zj rf,Pr.VI],λh=>?_,⟨rfl,rfl,rfl,rfl⟩,⟨R3.co.more (by omega) hm,by rw[R3.box,Yv,VJ],Fz.trans R3.kp⟩⟩;have e3:=w3 (by rw[Gb];exact h);obtain⟨q1,q2,q3,q4⟩:=eqb h;rw[e3,<-q1,<-q2,<-q3,<-q4]
  have vM:b2.um=13:=um2.trans Tq;by_cases cc:imax b.w b.h<=32
  .rw[if_pos cc]at tS
   simp[rb,a1,l1,l8,z3,KB,Ql,a3,cc,tS,SB,vM,re4,a5];exact hq
  .rw[if_neg cc]at tS
   simp[rb,a1,l1,l8,z3,KB,Ql,a3,cc,tS,SB,vM,re4,a5];exact hq
 .rw[if_neg Tq]at Ju
  have vM:¬b2.um=13:=λh=>Tq (um2.symm.trans h);have hq:Q (.Zt []) h4:=by
   rw[hQ];refine⟨rfl,({b with ym:=r1.1,yd:=r1.2,um:=r2.1,ud:=r2.2}:Bk),Xz,by rw[Ju,Pr.VI],λh=>?_,⟨rfl,rfl,rfl,rfl⟩,⟨R2.co.more (by omega) hm,by rw[R2.box,Yv,VJ],Fz⟩⟩;obtain⟨q1,q2,q3,q4⟩:=eqb h;rw[<-q1,<-q2,<-q3,<-q4]
  by_cases cc:imax b.w b.h<=32
  .rw[if_pos cc]at tS
   simp[rb,a1,l1,l8,z3,KB,Ql,a3,cc,tS,SB,vM];exact hq
  .rw[if_neg cc]at tS
   simp[rb,a1,l1,l8,z3,KB,Ql,a3,cc,tS,SB,vM];exact hq
open Go.Zf (ZS)
variable{ll:Bool}{n:Nat}
theorem Mf(sh:YR b)(si:VY ll b)(nl:ll=false)(c:¬(b.skip=true/\b.inter=true))(n3:3<=n)(n6:n<=6)(hm:Xg b.w b.h=((2^n:Nat):Int)):
  ∃d:Nat,d<(if n=3 then 2 else 3)/\b.tx=((2^n/2^d:Nat):Int)/\QB true b=(d:Nat):=by
 subst nl;unfold VY at si;simp only[Bool.false_eq_true,if_false,if_neg c]at si;rw[hm]at si;have hd:∃d:Nat,d<(if n=3 then 2 else 3)/\b.tx=((2^n/2^d:Nat):Int):=by
  rcases si with e|e|⟨e0,e⟩
  .exact⟨0,by split<;>omega,by rw[e];simp⟩
  .exact⟨1,by split<;>omega,by rw[e];rfl⟩
  .exact⟨2,by rw[if_neg (by rintro rfl;revert e0;decide)];omega,by rw[e];rfl⟩
 obtain⟨d,d1,d2⟩:=hd;have hdn:d<=2:=by split at d1<;>omega
 refine⟨d,d1,d2,?_⟩;unfold QB;rw[if_pos rfl,hm,d2];simp only[Int.toNat_natCast];rw[Nat.pow_div (by omega) (by decide),Nat.pow_div (by omega) (by decide),show n-(n-d)=d by omega,Nat.log2_two_pow]
theorem oV(b:Bk)(x:Int):b.cs.set 12 (.int .i64 x)=({b with tx:=x}:Bk).cs:=id rfl
theorem AN(a:Co P h c q m st 0)(ht:h.get t=some (.cells b.cs 42 false))(pt:P t)(nt:t≠q)(hm:m+1<100000000)(sh:YR b)(ll:Bool)(hw:st.sd.writes=true->VY ll b):
  RT (λw h'=>w=.Zt []/\Ends (Vb st.sd.writes ll b) st b.tx λr YI=>Se P h c q t 42 (m+1) YI ({b with tx:=r}:Bk).cs h') (KW 53 [.ptr q 0,.ptr t 0,.bool ll] h):=by
 obtain⟨n,n3,n6,Dn,lg⟩:=sh.min;have rb:h.Ze t 0 23=some b.cs:=by rw[ZU ht (by simp)];rfl
 obtain⟨_,h1,a1,rfl,x1⟩:=(Qp b h).elim;have t1:h1.get t=_:=(x1.get t (H.ZW ht)).trans ht;have Zp:∀o,h1.Zp t o=b.cs[o]?:=λo=>ZZ t1;have oU:=a.ext x1;obtain⟨F,hF⟩:∃F:Int->List V,∀r,F r=({b with tx:=r}:Bk).cs:=⟨_,λ_=>rfl⟩
 have wtx:∀r:Int,h1.WO t 12 (.int .i64 r)=some (h1.put t (.cells (F r) 42 false)):=λr=>by rw[Zw t1 (by simp),oV,hF]
 have yqw:∀r:Int,Se P h c q t 42 (m+1) st ({b with tx:=r}:Bk).cs (h1.put t (.cells ({b with tx:=r}:Bk).cs 42 false)):=λr =>
  ⟨(oU.put pt nt _).more (by omega) hm,ZV (H.ZW t1),⟨by rw[H.ZJ];exact x1.n,λi ⟨hi,_,it⟩=>by rw[ZX it,x1.get i (a.lt i hi)]⟩⟩
 obtain⟨Q,hQ⟩:∃Q:V->H->Prop,Q=λw h'=>w=.Zt []/\Ends (Vb st.sd.writes ll b) st b.tx λr YI=>Se P h c q t 42 (m+1) YI ({b with tx:=r}:Bk).cs h':=⟨_,rfl⟩
 rw[<-hQ];have ixe:∀r:Int,(Vb st.sd.writes ll b).exec st=(some r,st)->(st.sd.writes=true->r=b.tx)->Q (.Zt []) (h1.put t (.cells (F r) 42 false)):=λr e1 e2=>by
  rw[hQ,hF];exact⟨rfl,r,st,e1,e2,yqw r⟩
 rw[W3 r53,s53];cases ll with
 |true =>
  have hq:=ixe 4 rfl (λh=>by have:=hw h;unfold VY at this;rw[if_pos rfl]at this;exact this.symm);simp[rb,a1,wtx];exact hq
 |false =>
  by_cases c0:b.skip=true/\b.inter=true
  .have hq:=ixe (Xg b.w b.h) (by unfold Vb;rw[if_neg (by decide),if_pos c0];rfl) (λh=>by have:=hw h;unfold VY at this;simp only[Bool.false_eq_true,if_false,if_pos c0]at this;exact this.symm)
   simp[rb,a1,Zp,c0.1,c0.2,wtx];exact hq
  have KG:(Vb st.sd.writes false b).exec st=(Pr.sym (if An b=3 then 10 else 11) (An b-4) (QB st.sd.writes b) λd=>Pr.done (((Xg b.w b.h).toNat/2^d:Nat):Int)).exec st:=by
   unfold Vb;rw[if_neg (by decide),if_neg c0]
  rw[lg,Dn]at KG;simp only[Int.toNat_natCast]at KG;rw[Dn]at a1;obtain⟨dp,qk⟩:∃dp,dp=QB st.sd.writes b:=⟨_,rfl⟩
  rw[<-qk]at KG;have kv:(if n=3 then 10 else 11)<32/\n-4<cx (if n=3 then 10 else 11)/\vl (if n=3 then 10 else 11)=(if n=3 then 2 else 3):=by
   rcases (by omega:n=3\/n=4\/n=5\/n=6)with rfl|rfl|rfl|rfl<;>decide
  have dw:st.sd.writes=true->∃d:Nat,d<(if n=3 then 2 else 3)/\b.tx=((2^n/2^d:Nat):Int)/\dp=(d:Nat):=λh=>by
   obtain⟨d,d1,d2,d3⟩:=Mf sh (hw h) rfl c0 n3 n6 Dn;exact⟨d,d1,d2,by rw[qk,h];exact d3⟩
  have d0:st.sd.writes=false->dp=0:=λh=>by rw[qk,h];rfl
  have dpb:0<=dp/\dp<=2:=by
   cases WH:st.sd.writes with
   |true=>obtain⟨d,d1,_,d3⟩:=dw WH;split at d1<;>omega
   |false=>have:=d0 WH;omega
  obtain⟨h2,Zq⟩:∃z,z=h1.new (.cells [.int .i64 dp] 3 false):=⟨_,rfl⟩
  have x2:Ext h1 h2:=by rw[Zq];exact (Ext.refl h1).new _
  have n2:h2.n=h1.n+1:=by rw[Zq,H.ZP]
  have g2:h2.get h1.n=some (.cells [.int .i64 dp] 3 false):=by rw[Zq,ZY]
  have co2:Co (λb=>P b\/b=h1.n) h2 c q m st 0:=by rw[Zq];exact oU.box _
  have KS:=oU.lt q a.pq;have Kv:=oU.lt t pt;have fh:st.sd.writes=true->0<=dp-0/\dp-0<(vl (if n=3 then 10 else 11):Nat):=λh=>by
   obtain⟨d,d1,_,d3⟩:=dw h;rw[kv.2.2];omega
  obtain⟨_,h3,a3,rfl,R⟩:=(Yt co2 (t:=h1.n) (o:=0) (k:=if n=3 then 10 else 11) (x:=n-4) (v:=dp) (f:=0) g2 (.inr rfl) (by omega) rfl (by omega) kv.1 kv.2.1 (by omega) (by decide) fh).elim;rw[Int.sub_zero,Int.add_zero]at R;have sl:=St.YF a.ok.1 kv.1 kv.2.1 (v:=dp) (λh=>by have:=fh h;omega);rw[kv.2.2]at sl;have sw:st.sd.writes=true->((st.ZC (if n=3 then 10 else 11) (n-4) dp:Nat):Int)=dp:=λh=>by rw[St.Yx h];omega
  rw[Pr.X2,Pr.VI]at KG;obtain⟨s,hs⟩:∃s,s=st.ZC (if n=3 then 10 else 11) (n-4) dp:=⟨_,rfl⟩
  rw[<-hs]at R sl sw KG;have s3:s<3:=by split at sl<;>omega
  have t3:h3.get t=_:=(R.kp.get t ⟨.inl pt,nt,by omega⟩).trans ((x2.get t Kv).trans t1);have r3:h3.Zp h1.n 0=some (.int .i64 (s:Nat)):=by rw[ZZ R.box];rfl
  obtain⟨mn,TN⟩:∃z,z=2^n:=⟨_,rfl⟩
  have yL:8<=mn/\mn<=64/\((mn:Int)=8↔n=3):=by rw[TN];rcases (by omega:n=3\/n=4\/n=5\/n=6)with rfl|rfl|rfl|rfl<;>decide
  rw[<-TN]at a1 KG;have shr:(mn:Int).fdiv (2^min s 64)=((mn/2^s:Nat):Int):=by
   rw[TN];rcases (by omega:n=3\/n=4\/n=5\/n=6)with rfl|rfl|rfl|rfl<;>rcases (by omega:s=0\/s=1\/s=2)with rfl|rfl|rfl<;>decide
  have w4:h3.WO t 12 (.int .i64 ((mn/2^s:Nat):Int))=some (h3.put t (.cells (F ((mn/2^s:Nat):Int)) 42 false)):=by rw[Zw t3 (by simp),oV,hF]
  obtain⟨y,hy⟩:∃y,y=mn/2^s:=⟨_,rfl⟩
  rw[<-hy]at shr w4 KG;have Ng:ZQ 0 .shr (.int .i64 (mn:Nat)) (.int .i64 (s:Nat))=some (.int .i64 (y:Nat)):=by
   rw[XZ,if_neg (by omega),Int.toNat_natCast]
   show some (V.int .i64 ((mn:Int).fdiv (2^min s 64)))=_
   rw[shr]
  have hq:Q (.Zt []) (h3.put t (.cells (F (y:Nat)) 42 false)):=by
   rw[hQ,hF];refine⟨rfl,(y:Nat),_,KG,λh=>?_,⟨(R.co.put (.inl pt) nt _).less a.pq λb hb=>.inl hb,ZV (H.ZW t3),⟨by rw[H.ZJ];have:=x1.n;have:=x2.n;have:=R.kp.n;omega,?_⟩⟩⟩
   . obtain⟨d,d1,d2,d3⟩:=dw h
     have:=sw h;have e:s=d:=by omega
     rw[d2,hy,TN,e]
   . rintro i ⟨hi,iq,it⟩
     rw[ZX it,R.kp.get i ⟨.inl hi,iq,by have:=oU.lt i hi;omega⟩,x2.get i (oU.lt i hi),x1.get i (a.lt i hi)]
  -- the depth as it is found
  have t10:∀X,(h1.new X).Zp t 12=some (.int .i64 b.tx):=λX=>by rw[ZZ (by rw[ZR Kv];exact t1)];rfl
  have DM:∀X,(h1.new X).Zp q 0=some (.ptr c 0):=λX=>by rw[ZZ (by rw[ZR KS];exact oU.k)];rfl
  have q20:h2.Zp q 0=some (.ptr c 0):=by rw[ZZ co2.k];rfl
  have wrt:∀X,KW 42 [.ptr c 0] (h1.new X)=some (.ret (.bool st.sd.writes),h1.new X):=λX=>by
   obtain⟨⟨D,C,_⟩,_⟩:=oU.box X;exact Ug C
  have l16:=TE (x:=16) (by decide) (by decide) h2;rw[show Nat.log2 16=4 by decide,show ((16:Nat):Int)=16 from rfl,show ((4:Nat):Int)=4 from rfl]at l16;have lmn:=TE (x:=mn) (by omega) (by omega) h2;rw[TN,Nat.log2_two_pow,<-TN]at lmn;have z4:n≠3->IntKind.i64.wrap ((n:Int)-4)=((n-4:Nat):Int):=λh=>by rw[ZS (by omega) (by omega)];omega
  have zc:n=3->KW 98 [.ptr q 0,.int .i64 10,.int .i64 0,.int .i64 0,.ptr h1.n 0] h2=some (.ret (.Zt []),h3):=λh=>by rw[<-a3,if_pos h,h];rfl
  have zd:n≠3->KW 98 [.ptr q 0,.int .i64 11,.int .i64 ((n-4:Nat):Int),.int .i64 0,.ptr h1.n 0] h2=some (.ret (.Zt []),h3):=λh=>by rw[<-a3,if_neg h];rfl
  have tail:∀e:E,e.s [0,1,2,6,7] 0=.ptr q 0->e.s [0,1,2,6,7] 1=.ptr t 0->e.s [0,1,2,6,7] 6=.int .i64 (mn:Nat)->e.s [0,1,2,6,7] 7=.ptr h1.n 0->True:=λ_ _ _ _ _=>trivial;cases WH:st.sd.writes with
  |false =>
   have e0:=d0 WH;rw[e0]at Zq;have qR:KW 42 [.ptr c 0] h2=some (.ret (.bool false),h2):=by rw[Zq,wrt,WH]
   have w20:h2.WO h1.n 0 (.int .i64 0)=some h2:=by rw[Zq,PE _ _ _ _ _ (by simp)];rfl
   by_cases cs:b.skip=true
   . have ci:b.inter=false:=by cases h:b.inter with
      |false=>rfl
      |true=>exact (c0 ⟨cs,h⟩).elim
     by_cases c3:n=3
     .simp[rb,a1,Zp,cs,ci,nw,<-Zq,w20,q20,qR,eq_true (yL.2.2.2 c3),zc c3,r3,-XZ,Ng,w4]
      exact hq
     .have m8:¬(mn:Int)=8:=λh=>c3 (yL.2.2.1 h)
      simp[rb,a1,Zp,cs,ci,nw,<-Zq,w20,q20,qR,m8,lmn,l16,z4 c3,zd c3,r3,-XZ,Ng,w4];exact hq
   . by_cases c3:n=3
     .simp[rb,a1,Zp,cs,nw,<-Zq,w20,q20,qR,eq_true (yL.2.2.2 c3),zc c3,r3,-XZ,Ng,w4]
      exact hq
     .have m8:¬(mn:Int)=8:=λh=>c3 (yL.2.2.1 h)
      simp[rb,a1,Zp,cs,nw,<-Zq,w20,q20,qR,m8,lmn,l16,z4 c3,zd c3,r3,-XZ,Ng,w4];exact hq
  |true =>
   obtain⟨d,d1,d2,d3⟩:=dw WH;have d2':d<=2:=by split at d1<;>omega
   rw[<-TN]at d2;have qQ:∀X,KW 42 [.ptr c 0] (h1.new X)=some (.ret (.bool true),h1.new X):=λX=>by rw[wrt,WH]
   have qP:¬b.tx=0/\(mn:Int).tdiv b.tx=((2^d:Nat):Int):=by
     rw[d2,TN];rcases (by omega:n=3\/n=4\/n=5\/n=6)with rfl|rfl|rfl|rfl<;>rcases (by omega:d=0\/d=1\/d=2)with rfl|rfl|rfl<;>decide
   obtain⟨pd,fg⟩:∃z,z=2^d:=⟨_,rfl⟩
   have pdb:pd≠0/\pd<=4:=by rw[fg];rcases (by omega:d=0\/d=1\/d=2)with rfl|rfl|rfl<;>decide
   rw[<-fg]at qP;have zpd:IntKind.i64.wrap (pd:Int)=pd:=ZS (by omega) (by omega);have lpd:∀X,KW 100 [.int .i64 (pd:Nat)] (h1.new X)=some (.ret (.int .i64 dp),h1.new X):=λX=>by
     rw[TE pdb.1 (by omega),fg,Nat.log2_two_pow,d3]
   by_cases cs:b.skip=true
   . have ci:b.inter=false:=by cases h:b.inter with
      |false=>rfl
      |true=>exact (c0 ⟨cs,h⟩).elim
     by_cases c3:n=3
     .simp[rb,a1,Zp,cs,ci,nw,DM,qQ,t10,qP.1,qP.2,zpd,lpd,<-Zq,eq_true (yL.2.2.2 c3),zc c3,r3,-XZ,Ng,w4]
      exact hq
     .have m8:¬(mn:Int)=8:=λh=>c3 (yL.2.2.1 h)
      simp[rb,a1,Zp,cs,ci,nw,DM,qQ,t10,qP.1,qP.2,zpd,lpd,<-Zq,m8,lmn,l16,z4 c3,zd c3,r3,-XZ,Ng,w4];exact hq
   . by_cases c3:n=3
     .simp[rb,a1,Zp,cs,nw,DM,qQ,t10,qP.1,qP.2,zpd,lpd,<-Zq,eq_true (yL.2.2.2 c3),zc c3,r3,-XZ,Ng,w4]
      exact hq
     .have m8:¬(mn:Int)=8:=λh=>c3 (yL.2.2.1 h)
      simp[rb,a1,Zp,cs,nw,DM,qQ,t10,qP.1,qP.2,zpd,lpd,<-Zq,m8,lmn,l16,z4 c3,zd c3,r3,-XZ,Ng,w4];exact hq
open Go.Zf (ZS)
variable{a:Nat}
theorem or8{b:Nat}(ha:a<4611686018427387)(hb:b<8):ZQ 0 .or (.int .i64 ((8*a:Nat):Int)) (.int .i64 (b:Nat))=some (.int .i64 ((8*a+b:Nat):Int)):=by
 have e1:(BitVec.ofInt 64 ((8*a:Nat):Int)).toNat=8*a:=by
  rw[BitVec.ofInt_natCast,BitVec.toNat_ofNat,Nat.mod_eq_of_lt (by omega)]
 have e2:(BitVec.ofInt 64 (b:Int)).toNat=b:=by
  rw[BitVec.ofInt_natCast,BitVec.toNat_ofNat,Nat.mod_eq_of_lt (by omega)]
 rw[S4]
 show some (V.int .i64 (IntKind.i64.wrap ((BitVec.ofInt 64 ((8*a:Nat):Int) ||| BitVec.ofInt 64 (b:Int)).toNat:Int)))=_
 rw[BitVec.toNat_or,e1,e2];have:=Nat.shiftLeft_add_eq_or_of_lt (a:=a) (i:=3) (b:=b) (by omega);rw[Nat.shiftLeft_eq,show 2^3=8 from rfl,Nat.mul_comm a 8]at this;rw[<-this,ZS (by omega) (by omega)]
variable{k:Nat}
theorem vL(hk:k<=30)(ha:a<=1000000):ZQ 0 .shl (.int .i64 (a:Nat)) (.int .i64 (k:Nat))=some (.int .i64 ((a*2^k:Nat):Int)):=by
 have h1:2^k<=2^30:=Nat.pow_le_pow_right (by decide) hk;have h2:a*2^k<=1000000*2^30:=Nat.mul_le_mul ha h1;rw[TD,if_neg (by omega),Int.toNat_natCast]
 show some (V.int .i64 (IntKind.i64.wrap ((a:Int)*2^min k 64)))=_
 rw[Nat.min_eq_left (by omega),ZS (by have:=U6 k;rw[<-this,<-Int.natCast_mul];omega) (by have:=U6 k;rw[<-this,<-Int.natCast_mul];omega)];rw[Int.natCast_mul,U6]
def U7(b cl r f:Nat):Int:=if b=1 then -(((2^cl+r-1)*8+f:Nat):Int)-1 else (((2^cl+r-1)*8+f:Nat):Int)+1
theorem Jn(a:Co P h c q m st 0){x:Nat}(hx:x<2){v:Int}(hb : -20000<=v/\v<=20000)(hm:m+13<100000000)(hw:st.sd.writes=true->v≠0/\v.natAbs<=16376):
  RT (λw h'=>∃r:Int,w=.int .i64 r/\∃YI,(Po x v).exec st=(some r,YI)/\(st.sd.writes=true->r=v)/\(-20000<=r/\r<=20000)/\Co P h' c q (m+13) YI 0/\Kp (λb=>P b/\b≠q) h h') (KW 145 [.ptr q 0,.int .i64 (x:Nat),.int .i64 v] h):=by
 have ab:=OR v;have mb:=Tn (X3 v) 1;have KS:=a.lt q a.pq;have m3:Rg [.int .i64 v,.int .i64 (-v),.int .i64 1]=some (.int .i64 (imax (X3 v) 1)):=cF v (-v) 1;have zn:IntKind.i64.wrap (-v)=-v:=ZS (by omega) (by omega);obtain⟨M,hM⟩:∃M,M=uj v:=⟨_,rfl⟩
 have Mb:M<=20000/\imax (X3 v) 1-1=(M:Int):=by rw[hM];unfold uj;omega
 have zM:IntKind.i64.wrap (imax (X3 v) 1-1)=(M:Int):=by rw[ZS (by omega) (by omega)];exact Mb.2
 -- below
 obtain⟨h1,ZL⟩:∃z,z=h.new (.cells [.int .i64 (Yc (decide (v<0)))] 3 false):=⟨_,rfl⟩
 have x1:Ext h h1:=by rw[ZL];exact (Ext.refl h).new _
 have n1:h1.n=h.n+1:=by rw[ZL,H.ZP]
 have g1:h1.get h.n=some (.cells [.int .i64 (Yc (decide (v<0)))] 3 false):=by rw[ZL,ZY]
 have a1:Co (λb=>P b\/b=h.n) h1 c q m st 0:=by rw[ZL];exact a.box _
 have fb:0<=Yc (decide (v<0))/\Yc (decide (v<0))<=1:=by cases decide (v<0)<;>decide
 obtain⟨_,h2,a2,rfl,R2⟩:=(Jx a1 (t:=h.n) (o:=0) (n:=1) (v:=Yc (decide (v<0))) g1 (.inr rfl) (by omega) rfl (by omega) (by decide) (λ_=>by show _/\_<((2:Nat):Int);omega)).elim;have bl:=St.Jf (v:=(Yc (decide (v<0))).toNat) a.ok.2 (n:=1) (by omega);have bw:st.sd.writes=true->st.WG 1 (Yc (decide (v<0))).toNat=(Yc (decide (v<0))).toNat:=λh=>St.Fu h 1 _ (by show _<2;omega);obtain⟨below,KQ⟩:∃z,z=st.WG 1 (Yc (decide (v<0))).toNat:=⟨_,rfl⟩
 obtain⟨Xz,Tz⟩:∃z,z=st.num 1 (Yc (decide (v<0))).toNat:=⟨_,rfl⟩
 rw[<-KQ]at R2 bl bw;rw[<-Tz]at R2;have w2:Xz.sd.writes=st.sd.writes:=by rw[Tz];exact St.Je _ _ _
 have KB:KW 169 [.ptr q 0,.int .i64 1,.ptr h.n 0] h1=some (.ret (.Zt []),h2):=a2;have n2:=R2.kp.n;have b2:h2.get h.n=some (.cells [.int .i64 (below:Nat)] 3 false):=R2.box
 -- wqV,class,rest
 obtain⟨h3,Zc⟩:∃z,z=h2.new (.cells [.int .i64 ((M%8:Nat):Int)] 3 false):=⟨_,rfl⟩
 have x3:Ext h2 h3:=by rw[Zc];exact (Ext.refl h2).new _
 have n3:h3.n=h2.n+1:=by rw[Zc,H.ZP]
 have a3:Co (λb=>(P b\/b=h.n)\/b=h2.n) h3 c q (m+1) Xz 0:=by rw[Zc];exact R2.co.box _
 have L0:M/8+1≠0:=by omega
 have lb:=Fv L0;have L11:Nat.log2 (M/8+1)<12:=(Nat.log2_lt L0).2 (by omega);have lg:=TE L0 (by omega) h3;obtain⟨L,hL⟩:∃L,L=Nat.log2 (M/8+1):=⟨_,rfl⟩
 rw[<-hL]at lb L11 lg;obtain⟨h4,Xs⟩:∃z,z=h3.new (.cells [.int .i64 (L:Nat)] 3 false):=⟨_,rfl⟩
 have x4:Ext h3 h4:=by rw[Xs];exact (Ext.refl h3).new _
 have n4:h4.n=h3.n+1:=by rw[Xs,H.ZP]
 have a4:Co (λb=>((P b\/b=h.n)\/b=h2.n)\/b=h3.n) h4 c q (m+1) Xz 0:=by rw[Xs];exact a3.box _
 have r4:h4.Zp h3.n 0=some (.int .i64 (L:Nat)):=by rw[Xs];exact rW _ _ _ _ _
 have pc:=U6 L;obtain⟨rest,Ph⟩:∃z,z=M/8+1-2^L:=⟨_,rfl⟩
 have pL:=Nat.pow_succ 2 L;have s1:ZQ 0 .shl (.int .i64 1) (.int .i64 (L:Nat))=some (.int .i64 ((2^L:Nat):Int)):=by have:=vL (k:=L) (by omega) (a:=1) (by decide);rw[Nat.one_mul]at this;exact this
 obtain⟨pw_,sF⟩:∃z,z=2^L:=⟨_,rfl⟩
 rw[<-sF]at s1 Ph lb;rw[pL,<-sF]at lb;have zr:IntKind.i64.wrap (((M/8+1:Nat):Int)-(pw_:Nat))=(rest:Nat):=by rw[ZS (by omega) (by omega)];omega
 obtain⟨h5,Vv⟩:∃z,z=h4.new (.cells [.int .i64 (rest:Nat)] 3 false):=⟨_,rfl⟩
 have x5:Ext h4 h5:=by rw[Vv];exact (Ext.refl h4).new _
 have n5:h5.n=h4.n+1:=by rw[Vv,H.ZP]
 have a5:Co (λb=>(((P b\/b=h.n)\/b=h2.n)\/b=h3.n)\/b=h4.n) h5 c q (m+1) Xz 0:=by rw[Vv];exact a4.box _
 have g5a:h5.get h.n=some (.cells [.int .i64 (below:Nat)] 3 false):=by rw[x5.get _ (by omega),x4.get _ (by omega),x3.get _ (by omega)];exact b2
 have g5b:h5.get h2.n=some (.cells [.int .i64 ((M%8:Nat):Int)] 3 false):=by rw[x5.get _ (by omega),x4.get _ (by omega),Zc];exact ZY
 have g5c:h5.get h3.n=some (.cells [.int .i64 (L:Nat)] 3 false):=by rw[x5.get _ (by omega),Xs];exact ZY
 have g5d:h5.get h4.n=some (.cells [.int .i64 (rest:Nat)] 3 false):=by rw[Vv];exact ZY
 -- the class
 have En:st.sd.writes=true->M<=16375/\L<11/\M+1=v.natAbs:=λh=>by
  obtain⟨h1,h2⟩:=hw h;have e:M+1=v.natAbs:=by rw[hM];unfold uj;omega
  refine⟨by omega,?_,e⟩;rw[hL];exact (Nat.log2_lt L0).2 (by omega)
 have cw:Xz.sd.writes=true->0<=(L:Int)-0/\(L:Int)-0<(vl 18:Nat):=λh=>by
  have:=En (by rw[<-w2];exact h)
  show _/\_<((11:Nat):Int);omega
 obtain⟨_,h6,a6,rfl,R6⟩:=(Yt a5 (t:=h3.n) (o:=0) (k:=18) (x:=x) (v:=(L:Nat)) (f:=0) g5c (.inl (.inr rfl)) (by omega) rfl (by omega) (by decide) hx (by omega) (by decide) cw).elim;rw[Int.sub_zero,Int.add_zero]at R6;have kY:Xz.ZC 18 x (L:Nat)<11:=St.YF a5.ok.1 (k:=18) (by decide) hx (λh=>by have:=cw h;omega);have AL:Xz.sd.writes=true->Xz.ZC 18 x (L:Nat)=L:=λh=>by rw[St.Yx h];omega
 obtain⟨cl,V3⟩:∃z,z=Xz.ZC 18 x (L:Nat):=⟨_,rfl⟩
 obtain⟨T1,D4⟩:∃z,z=Xz.sym 18 x (L:Nat):=⟨_,rfl⟩
 rw[<-V3]at R6 kY AL;rw[<-D4]at R6;have w6:T1.sd.writes=st.sd.writes:=by rw[D4,St.YG,w2]
 have n6:=R6.kp.n;have AX:KW 98 [.ptr q 0,.int .i64 18,.int .i64 (x:Nat),.int .i64 0,.ptr h3.n 0] h5=some (.ret (.Zt []),h6):=a6;have g6a:h6.get h.n=_:=(R6.kp.get _ ⟨.inl (.inl (.inl (.inr rfl))),by omega,by omega⟩).trans g5a;have g6b:h6.get h2.n=_:=(R6.kp.get _ ⟨.inl (.inl (.inr rfl)),by omega,by omega⟩).trans g5b;have g6c:h6.get h3.n=some (.cells [.int .i64 (cl:Nat)] 3 false):=R6.box;have g6d:h6.get h4.n=_:=(R6.kp.get _ ⟨.inr rfl,by omega,by omega⟩).trans g5d
 -- what is more
 have rw_:T1.sd.writes=true->0<=(rest:Int)/\(rest:Int)<pw cl:=λh=>by
  have hh:=En (by rw[<-w6];exact h);have:=AL (by rw[w2,<-w6];exact h);unfold pw;rw[this,<-sF];omega
 obtain⟨_,h7,a7,rfl,R7⟩:=(Jx R6.co (t:=h4.n) (o:=0) (n:=cl) (v:=(rest:Nat)) g6d (.inr rfl) (by omega) rfl (by omega) (by omega) rw_).elim;rw[Int.toNat_natCast]at R7;have vK:=St.Jf (v:=rest) R6.co.ok.2 (n:=cl) (by omega);have BqS:T1.sd.writes=true->T1.WG cl rest=rest:=λh=>St.Fu h cl _ (by have:=(rw_ h).2;unfold pw at this;omega);obtain⟨re,pU⟩:∃z,z=T1.WG cl rest:=⟨_,rfl⟩
 obtain⟨HW,F9⟩:∃z,z=T1.num cl rest:=⟨_,rfl⟩
 rw[<-pU]at R7 vK BqS;rw[<-F9]at R7;have w7:HW.sd.writes=st.sd.writes:=by rw[F9,St.Je,w6]
 have n7:=R7.kp.n;have g7a:h7.get h.n=_:=(R7.kp.get _ ⟨.inl (.inl (.inl (.inr rfl))),by omega,by omega⟩).trans g6a;have g7b:h7.get h2.n=_:=(R7.kp.get _ ⟨.inl (.inl (.inr rfl)),by omega,by omega⟩).trans g6b;have g7c:h7.get h3.n=_:=(R7.kp.get _ ⟨.inl (.inr rfl),by omega,by omega⟩).trans g6c;have g7d:h7.get h4.n=some (.cells [.int .i64 (re:Nat)] 3 false):=R7.box
 -- the fraction
 obtain⟨_,h8,a8,rfl,R8⟩:=(Yt R7.co (t:=h2.n) (o:=0) (k:=19) (x:=x) (v:=((M%8:Nat):Int)) (f:=0) g7b (.inl (.inl (.inr rfl))) (by omega) rfl (by omega) (by decide) hx (by omega) (by decide) (λ_=>by show _/\_<((8:Nat):Int);omega)).elim;rw[Int.sub_zero,Int.add_zero]at R8;have f_l:HW.ZC 19 x ((M%8:Nat):Int)<8:=St.YF R7.co.ok.1 (k:=19) (by decide) hx (λ_=>by show _/\_<((8:Nat):Int);omega);have f_w:HW.sd.writes=true->HW.ZC 19 x ((M%8:Nat):Int)=M%8:=λh=>by rw[St.Yx h];omega
 obtain⟨f,hf⟩:∃z,z=HW.ZC 19 x ((M%8:Nat):Int):=⟨_,rfl⟩
 rw[<-hf]at R8 f_l f_w;have n8:=R8.kp.n;have wg:KW 98 [.ptr q 0,.int .i64 19,.int .i64 (x:Nat),.int .i64 0,.ptr h2.n 0] h7=some (.ret (.Zt []),h8):=a8;have q8a:=ZZ (o:=0) ((R8.kp.get h.n ⟨.inl (.inl (.inl (.inr rfl))),by omega,by omega⟩).trans g7a);have q8b:h8.Zp h2.n 0=some (.int .i64 (f:Nat)):=by rw[ZZ R8.box];rfl
 have q8c:=ZZ (o:=0) ((R8.kp.get h3.n ⟨.inl (.inr rfl),by omega,by omega⟩).trans g7c);have q8d:=ZZ (o:=0) ((R8.kp.get h4.n ⟨.inr rfl,by omega,by omega⟩).trans g7d);have q6c:=ZZ (o:=0) g6c;have pcl:2^cl<=2^10:=Nat.pow_le_pow_right (by decide) (by omega);have kX:=Nat.two_pow_pos cl;have s2:ZQ 0 .shl (.int .i64 1) (.int .i64 (cl:Nat))=some (.int .i64 ((2^cl:Nat):Int)):=by have:=vL (k:=cl) (by omega) (a:=1) (by decide);rw[Nat.one_mul]at this;exact this
 have exP:(Po x v).exec st=(some (U7 below cl re f),HW.sym 19 x ((M%8:Nat):Int)):=by
  unfold Po U7;rw[<-hM,<-hL,<-sF,<-Ph];rw[Pr.SE,<-KQ,<-Tz,Pr.X2,<-V3,<-D4,Pr.SE,Int.toNat_natCast,<-pU,<-F9,Pr.X2,<-hf,Pr.VI]
 obtain⟨Fy,Av⟩:∃z,z=2^cl:=⟨_,rfl⟩
 have RA:U7 below cl re f=if below=1 then -((8*(Fy+re-1)+f:Nat):Int)-1 else ((8*(Fy+re-1)+f:Nat):Int)+1:=by
  unfold U7;rw[<-Av,Nat.mul_comm]
 rw[<-Av]at s2 pcl kX vK;obtain⟨A,hA⟩:∃A,A=Fy+re-1:=⟨_,rfl⟩
 rw[<-hA]at RA;have Ab:A<=2046:=by omega
 have qO:IntKind.i64.wrap ((Fy:Int)+re)=((Fy+re:Nat):Int):=by rw[ZS (by omega) (by omega)];omega
 have qN:IntKind.i64.wrap (((Fy+re:Nat):Int)-1)=(A:Nat):=by rw[ZS (by omega) (by omega)];omega
 have s3:ZQ 0 .shl (.int .i64 (A:Nat)) (.int .u64 3)=some (.int .i64 ((8*A:Nat):Int)):=by
  rw[TD,if_neg (by decide)]
  show some (V.int .i64 (IntKind.i64.wrap ((A:Int)*2^min (3:Int).toNat 64)))=_
  rw[show min (3:Int).toNat 64=3 by decide,show (2:Int)^3=8 by decide,ZS (by omega) (by omega)]
  congr 2;omega
 have s4:=or8 (a:=A) (b:=f) (by omega) f_l;have s5:ZQ 0 .shr (.int .i64 (M:Nat)) (.int .u64 3)=some (.int .i64 ((M/8:Nat):Int)):=by
  rw[XZ,if_neg (by decide)]
  show some (V.int .i64 ((M:Int).fdiv (2^min (3:Int).toNat 64)))=_
  rw[show min (3:Int).toNat 64=3 by decide,show (2:Int)^3=8 by decide]
  congr 2;rw[Int.fdiv_eq_ediv_of_nonneg _ (by decide)];omega
 have s6:ZQ 0 .and (.int .i64 (M:Nat)) (.int .i64 7)=some (.int .i64 ((M%8:Nat):Int)):=by
  have:=Oz 0 (M:Int) 3 (by decide);rw[show (2:Int)^3-1=7 by decide,show (2:Int)^3=8 by decide]at this;rw[this];congr 2
 obtain⟨M8,hM8⟩:∃z,z=M/8:=⟨_,rfl⟩
 obtain⟨Mr,hMr⟩:∃z,z=M%8:=⟨_,rfl⟩
 rw[<-hM8]at s5 zr lg;rw[<-hMr]at s6 Zc;have qM:IntKind.i64.wrap ((M8:Int)+1)=((M8+1:Nat):Int):=by rw[ZS (by omega) (by omega)];omega
 obtain⟨T,hT⟩:∃z,z=8*A+f:=⟨_,rfl⟩
 rw[<-hT]at s4 RA;obtain⟨A8,hA8⟩:∃z,z=8*A:=⟨_,rfl⟩
 rw[<-hA8]at s3 s4;have zT1:IntKind.i64.wrap (-(T:Int))=-(T:Int):=ZS (by omega) (by omega);have zT2:IntKind.i64.wrap (-(T:Int)-1)=-(T:Int)-1:=ZS (by omega) (by omega);have zT3:IntKind.i64.wrap ((T:Int)+1)=(T:Int)+1:=ZS (by omega) (by omega);have coF:Co P h8 c q (m+13) (HW.sym 19 x ((M%8:Nat):Int)) 0:=(R8.co.less a.pq λb hb=>.inl (.inl (.inl (.inl hb)))).more (by omega) hm;have kpF:Kp (λb=>P b/\b≠q) h h8:=by
  refine⟨by have:=x1.n;omega,?_⟩;rintro i ⟨hi,iq⟩;have Rf:=a.lt i hi;rw[R8.kp.get i ⟨.inl (.inl (.inl (.inl hi))),iq,by omega⟩,R7.kp.get i ⟨.inl (.inl (.inl (.inl hi))),iq,by omega⟩,R6.kp.get i ⟨.inl (.inl (.inl (.inl hi))),iq,by omega⟩,x5.get i (by omega),x4.get i (by omega),x3.get i (by omega),R2.kp.get i ⟨.inl hi,iq,by omega⟩,x1.get i Rf]
 have hval:st.sd.writes=true->U7 below cl re f=v:=λh=>by
  obtain⟨h1,h2,h3⟩:=En h;have e1:=bw h;have e2:=AL (by rw[w2];exact h);have e3:=BqS (by rw[w6];exact h);have e4:=f_w (by rw[w7];exact h);have e5:Fy=pw_:=by rw[Av,sF,e2]
  rw[RA];have e6:T=M:=by omega
  rw[e6];by_cases c0:v<0
  .have:below=1:=by rw[e1];simp[Yc,c0]
   rw[if_pos this];omega
  .have:¬below=1:=by rw[e1];simp[Yc,c0]
   rw[if_neg this];omega
 obtain⟨Q,hQ⟩:∃Q:V->H->Prop,Q=λw h'=>∃r:Int,w=.int .i64 r/\∃YI,(Po x v).exec st=(some r,YI)/\(st.sd.writes=true->r=v)/\(-20000<=r/\r<=20000)/\Co P h' c q (m+13) YI 0/\Kp (λb=>P b/\b≠q) h h':=⟨_,rfl⟩
 rw[<-hQ];have hq:∀r,r=U7 below cl re f->Q (.int .i64 r) h8:=λr e=>by
  rw[hQ];exact⟨r,rfl,_,by rw[e];exact exP,λh=>by rw[e];exact hval h,by rw[e,RA];split<;>omega,coF,kpF⟩
 rw[W3 Wql,fM];have WO:(h.new (.cells [.int .i64 0] 3 false)).WO h.n 0 (.int .i64 1)=some (h.new (.cells [.int .i64 1] 3 false)):=PE _ _ _ _ _ (by simp);by_cases c0:v<0
 .have e1:Yc (decide (v<0))=1:=by simp[Yc,c0]
  rw[e1]at ZL;by_cases cb:below=1
  .have kW:(below:Int)=1:=by omega
   rw[if_pos cb]at RA;have:=hq _ RA.symm;simp[zn,m3,zM,nw,WO,c0,<-ZL,KB,-XZ,s5,-WC,s6,<-Zc,qM,-Int.natCast_add,lg,<-Xs,r4,-TD,s1,zr,<-Vv,AX,q6c,a7,wg,q8a,q8b,q8c,q8d,s2,qO,qN,s3,-S4,s4,eq_true kW,zT1,zT2];exact this
  .have kW:¬(below:Int)=1:=by omega
   rw[if_neg cb]at RA;have:=hq _ RA.symm;simp[zn,m3,zM,nw,WO,c0,<-ZL,KB,-XZ,s5,-WC,s6,<-Zc,qM,-Int.natCast_add,lg,<-Xs,r4,-TD,s1,zr,<-Vv,AX,q6c,a7,wg,q8a,q8b,q8c,q8d,s2,qO,qN,s3,-S4,s4,kW,zT3];exact this
 .have e1:Yc (decide (v<0))=0:=by simp[Yc,c0]
  rw[e1]at ZL;have wr0:h1.WO h.n 0 (.int .i64 0)=some h1:=by rw[ZL,PE _ _ _ _ _ (by simp)];rfl
  by_cases cb:below=1
  .have kW:(below:Int)=1:=by omega
   rw[if_pos cb]at RA;have:=hq _ RA.symm;simp[zn,m3,zM,nw,wr0,c0,<-ZL,KB,-XZ,s5,-WC,s6,<-Zc,qM,-Int.natCast_add,lg,<-Xs,r4,-TD,s1,zr,<-Vv,AX,q6c,a7,wg,q8a,q8b,q8c,q8d,s2,qO,qN,s3,-S4,s4,eq_true kW,zT1,zT2];exact this
  .have kW:¬(below:Int)=1:=by omega
   rw[if_neg cb]at RA;have:=hq _ RA.symm;simp[zn,m3,zM,nw,wr0,c0,<-ZL,KB,-XZ,s5,-WC,s6,<-Zc,qM,-Int.natCast_add,lg,<-Xs,r4,-TD,s1,zr,<-Vv,AX,q6c,a7,wg,q8a,q8b,q8c,q8d,s2,qO,qN,s3,-S4,s4,kW,zT3];exact this
open Go.Zf (ZS)
structure Slot(G:Vc->List V)(o:Nat):Prop where
 len:∀v,o+2<=(G v).length
 g0:∀v,(G v)[o]?=some (.int .i64 v.1)
 g1:∀v,(G v)[o+1]?=some (.int .i64 v.2)
 sp:∀v x y,splice (G v) o [.int .i64 x,.int .i64 y]=G (x,y)
 s0:∀v x,(G v).set o (.int .i64 x)=G (x,v.2)
 s1:∀v y,(G v).set (o+1) (.int .i64 y)=G (v.1,y)
 tk:∀v,((G v).drop o).take 2=[.int .i64 v.1,.int .i64 v.2]
theorem BqR(b:Bk):Slot (λv=>({b with m0:=v}:Bk).cs) 17:=⟨λ_=>by show 19<=23;omega,λ_=>rfl,λ_=>rfl,λ_ _ _=>rfl,λ_ _=>rfl,λ_ _=>rfl,λ_=>rfl⟩
theorem BqQ(b:Bk):Slot (λv=>({b with m1:=v}:Bk).cs) 19:=⟨λ_=>by show 21<=23;omega,λ_=>rfl,λ_=>rfl,λ_ _ _=>rfl,λ_ _=>rfl,λ_ _=>rfl,λ_=>rfl⟩
theorem BqP(j:Nat):ZQ 0 .and (.int .i64 (j:Nat)) (.int .i64 1)=some (.int .i64 ((j%2:Nat):Int)):=by
 have:=Oz 0 (j:Int) 1 (by decide);rw[show (2:Int)^1-1=1 by decide,show (2:Int)^1=2 by decide]at this;rw[this];congr 2
theorem BqO{j:Nat}(h:j<4):ZQ 0 .and (.int .i64 (j:Nat)) (.int .i64 2)=some (.int .i64 (if 2<=j then 2 else 0)):=by
 rcases (by omega:j=0\/j=1\/j=2\/j=3)with rfl|rfl|rfl|rfl<;>rfl
abbrev K66:List Nat:=[0,1,2,3,6,8,9,10]
def FY(P:Nat->Prop)(h:H)(c q t tt m:Nat)(st:St)(G:Vc->List V)(v:Vc)(R:Option Vc×St)(h':H):Prop :=
 match R with
 |(some r,YI)=>(st.sd.writes=true->r=v)/\Se P h c q t tt m YI (G r) h'
 |(none,YI)=>st.sd.writes=false/\Co P h' c q m YI 4/\(∃r,h'.get t=some (.cells (G r) tt false))/\Kp (λb=>P b/\b≠q/\b≠t) h h'
structure E66(q t o B8 B9:Nat)(e:E):Prop where
 e0:e.s K66 0=.ptr q 0
 e3:e.s K66 3=.ptr t o
 e8:e.s K66 8=.ptr B8 0
 e9:e.s K66 9=.ptr B9 0
variable{v:Vc}
theorem Nw(a:Co P h c q m st 0){o tt:Nat}{G:Vc->List V}{mode:Int}{l:Vc×Vc}(S:Slot G o)(ht:h.get t=some (.cells (G v) tt false))(pt:P t)(nt:t≠q)
  (hm:m+27<100000000) (hv:(-5000<=v.1/\v.1<=5000)/\(-5000<=v.2/\v.2<=5000)) (hl:Y5 l.1/\Y5 l.2) (hw:st.sd.writes=true->if mode=3 then Y5 v else v=Y2 mode l) :
  RT (λw h'=>w=.Zt []/\FY P h c q t tt (m+27) st G v ((Y8 mode (Y2 mode l) v).exec st) h') (KW 104 [.ptr q 0,.int .i64 mode,.agg [.int .i64 l.1.1,.int .i64 l.1.2,.int .i64 l.2.1,.int .i64 l.2.2],.ptr t o] h):=by
 have Kv:=a.lt t pt;have KS:=a.lt q a.pq;obtain⟨h1,ZL⟩:∃z,z=h.new (.cells [.int .i64 l.1.1,.int .i64 l.1.2,.int .i64 l.2.1,.int .i64 l.2.2] 40 false):=⟨_,rfl⟩
 have x1:Ext h h1:=by rw[ZL];exact (Ext.refl h).new _
 have n1:h1.n=h.n+1:=by rw[ZL,H.ZP]
 have r1:h1.Ze h.n 0 4=some [.int .i64 l.1.1,.int .i64 l.1.2,.int .i64 l.2.1,.int .i64 l.2.2]:=by rw[ZL];exact VZ _ _ _ _ _ _ (by simp)
 obtain⟨_,h2,a2,rfl,x2⟩:=(Jy mode l h1).elim;have va:Y5 (Y2 mode l):=by
  unfold Y2;split
  .exact hl.2
  .split
   . decide
   . exact hl.1
 obtain⟨A,hA⟩:∃A,A=Y2 mode l:=⟨_,rfl⟩
 rw[<-hA]at a2 va hw ⊢;obtain⟨vA1,vA2,vA3,vA4⟩:=va;obtain⟨h3,Zc⟩:∃z,z=h2.new (.cells [.int .i64 A.1,.int .i64 A.2] 39 false):=⟨_,rfl⟩
 have x3:Ext h2 h3:=by rw[Zc];exact (Ext.refl h2).new _
 have n3:h3.n=h2.n+1:=by rw[Zc,H.ZP]
 have g3:h3.get h2.n=some (.cells [.int .i64 A.1,.int .i64 A.2] 39 false):=by rw[Zc,ZY]
 have r3:h3.Ze h2.n 0 2=some [.int .i64 A.1,.int .i64 A.2]:=by rw[ZU g3 (by simp)];rfl
 have HJ:(h2.new (.cells [.int .i64 0,.int .i64 0] 39 false)).X4 h2.n 0 [.int .i64 A.1,.int .i64 A.2]=some h3:=by rw[Zc];exact YO _ _ _ _ rfl
 have JD:=x1.trans x2;have PN:=JD.trans x3;have wqU:=JD.n;have a3:Co (λb=>P b\/b=h2.n) h3 c q m st 0:=by rw[Zc];exact (a.ext JD).box _
 have t3:h3.get t=_:=(PN.get t Kv).trans ht;have vA:(A.1,A.2)=A:=rfl;have wA:∀{g:H} {u:Vc},g.get t=some (.cells (G u) tt false)->g.X4 t o [.int .i64 A.1,.int .i64 A.2]=some (g.put t (.cells (G A) tt false)):=λ{g u} hg=>by
  rw[ZF hg (S.len u),S.sp,vA]
 rw[W4 WqK,gL];by_cases c3:mode=3;rotate_left
 .have hq:V.Zt []=V.Zt []/\FY P h c q t tt (m+27) st G v ((Y8 mode A v).exec st) (h3.put t (.cells (G A) tt false)):=by
   have e:(Y8 mode A v).exec st=(some A,st):=by unfold Y8;rw[if_pos c3];rfl
   rw[e];refine⟨rfl,λh=>by have:=hw h;rw[if_neg c3]at this;exact this.symm,((a3.put (.inl pt) nt _).less a.pq λb hb=>.inl hb).more (by omega) hm,ZV (H.ZW t3),⟨by rw[H.ZJ];exact PN.n,?_⟩⟩;rintro i ⟨hi,iq,it⟩;rw[ZX it,PN.get i (a.lt i hi)]
  simp[bx,nw,<-ZL,r1,a2,HJ,c3,r3,wA t3];exact hq
 subst c3;have ex:(Y8 3 A v).exec st=((T8 (decide (st.ZC 17 0 ((if v.1≠A.1 then 1 else 0)+(if v.2≠A.2 then 2 else 0))%2=1)) 0 A.1 v.1).bind λx=>(T8 (decide (2<=st.ZC 17 0 ((if v.1≠A.1 then 1 else 0)+(if v.2≠A.2 then 2 else 0)))) 1 A.2 v.2).bind λy=>if Y5 (x,y)then Pr.done (x,y)else .stop).exec (st.sym 17 0 ((if v.1≠A.1 then 1 else 0)+(if v.2≠A.2 then 2 else 0))):=by
  unfold Y8;rw[if_neg (by simp)];rfl
 obtain⟨J0,Hv⟩:∃J0:Nat,((if v.1≠A.1 then 1 else 0)+(if v.2≠A.2 then 2 else 0):Int)=(J0:Nat):=⟨(if v.1≠A.1 then 1 else 0)+(if v.2≠A.2 then 2 else 0),by split<;>split<;>rfl⟩
 have J4:J0<4:=by split at Hv<;>split at Hv<;>omega
 rw[Hv]at ex
 -- the xqR
 obtain⟨h4,Xs⟩:∃z,z=h3.new (.cells [.int .i64 (J0:Nat)] 3 false):=⟨_,rfl⟩
 have x4:Ext h3 h4:=by rw[Xs];exact (Ext.refl h3).new _
 have n4:h4.n=h3.n+1:=by rw[Xs,H.ZP]
 have g4:h4.get h3.n=some (.cells [.int .i64 (J0:Nat)] 3 false):=by rw[Xs,ZY]
 have a4:Co (λb=>(P b\/b=h2.n)\/b=h3.n) h4 c q m st 0:=by rw[Xs];exact a3.box _
 obtain⟨_,h5,a5,rfl,R5⟩:=(Yt a4 (t:=h3.n) (o:=0) (k:=17) (x:=0) (v:=(J0:Nat)) (f:=0) g4 (.inr rfl) (by omega) rfl (by omega) (by decide) (by decide) (by omega) (by decide) (λ_=>by show _/\_<((4:Nat):Int);omega)).elim;rw[Int.sub_zero,Int.add_zero]at R5;have j4:st.ZC 17 0 (J0:Nat)<4:=St.YF a.ok.1 (k:=17) (by decide) (by decide) (λ_=>by show _/\_<((4:Nat):Int);omega);have jw:st.sd.writes=true->st.ZC 17 0 (J0:Nat)=J0:=λh=>by rw[St.Yx h];omega
 obtain⟨j,hj⟩:∃j,j=st.ZC 17 0 (J0:Nat):=⟨_,rfl⟩
 obtain⟨Ux,Li⟩:∃z,z=st.sym 17 0 (J0:Nat):=⟨_,rfl⟩
 rw[<-hj]at R5 j4 jw ex;rw[<-Li]at R5 ex;have w5:Ux.sd.writes=st.sd.writes:=by rw[Li];exact St.YG _ _ _ _
 have ph:KW 98 [.ptr q 0,.int .i64 17,.int .i64 0,.int .i64 0,.ptr h3.n 0] h4=some (.ret (.Zt []),h5):=a5;have n5:=R5.kp.n;have t5:h5.get t=_:=(R5.kp.get t ⟨.inl (.inl pt),nt,by omega⟩).trans ((x4.get t (by omega)).trans t3);have g5:h5.get h2.n=_:=(R5.kp.get h2.n ⟨.inl (.inr rfl),by omega,by omega⟩).trans ((x4.get h2.n (by omega)).trans g3);have q50:=ZZ (o:=0) g5;have q51:=ZZ (o:=1) g5;have v50:=(ZZ (o:=o) t5).trans (S.g0 v);have v51:=(ZZ (o:=o+1) t5).trans (S.g1 v);have zd0:IntKind.i64.wrap (v.1-A.1)=v.1-A.1:=ZS (by omega) (by omega);have zd1:IntKind.i64.wrap (v.2-A.2)=v.2-A.2:=ZS (by omega) (by omega)
 -- the kV
 obtain⟨h6,OP⟩:∃z,z=h5.new (.cells [.int .i64 (v.1-A.1),.int .i64 (v.2-A.2)] 39 false):=⟨_,rfl⟩
 have x6:Ext h5 h6:=by rw[OP];exact (Ext.refl h5).new _
 have n6:h6.n=h5.n+1:=by rw[OP,H.ZP]
 have zw6:(h5.new (.cells [.int .i64 0,.int .i64 0] 39 false)).X4 h5.n 0 [.int .i64 (v.1-A.1),.int .i64 (v.2-A.2)]=some h6:=by rw[OP];exact YO _ _ _ _ rfl
 have t6:h6.get t=_:=(x6.get t (by omega)).trans t5;have r6:h6.Ze h2.n 0 2=some [.int .i64 A.1,.int .i64 A.2]:=by rw[ZU ((x6.get h2.n (by omega)).trans g5) (by simp)];rfl
 have a6:Co (λb=>((P b\/b=h2.n)\/b=h3.n)\/b=h5.n) h6 c q (m+1) Ux 0:=by rw[OP];exact R5.co.box _
 obtain⟨h7,Hu⟩:∃z,z=h6.put t (.cells (G A) tt false):=⟨_,rfl⟩
 have w7:h6.X4 t o [.int .i64 A.1,.int .i64 A.2]=some h7:=by rw[wA t6,Hu]
 have n7:h7.n=h6.n:=by rw[Hu,H.ZJ]
 have a7:Co (λb=>((P b\/b=h2.n)\/b=h3.n)\/b=h5.n) h7 c q (m+1) Ux 0:=by rw[Hu];exact a6.put (.inl (.inl (.inl pt))) nt _
 have t7:h7.get t=some (.cells (G A) tt false):=by rw[Hu,ZV (H.ZW t6)]
 have g79:h7.get h3.n=some (.cells [.int .i64 (j:Nat)] 3 false):=by rw[Hu,ZX (by omega),x6.get _ (by omega)];exact R5.box
 have kU:h7.get h5.n=some (.cells [.int .i64 (v.1-A.1),.int .i64 (v.2-A.2)] 39 false):=by rw[Hu,ZX (by omega),OP];exact ZY
 have kp7:Kp (λb=>P b/\b≠q/\b≠t) h h7:=by
  refine⟨by have:=PN.n;omega,?_⟩;rintro i ⟨hi,iq,it⟩;have Rf:=a.lt i hi;rw[Hu,ZX it,x6.get i (by omega),R5.kp.get i ⟨.inl (.inl hi),iq,by omega⟩,x4.get i (by omega),PN.get i Rf]
 -- what is left to be shown,by yqv
 obtain⟨Q,hQ⟩:∃Q:V->H->Prop,Q=λw h'=>w=.Zt []/\FY P h c q t tt (m+27) st G v ((Y8 3 A v).exec st) h':=⟨_,rfl⟩
 rw[<-hQ];have dJ:(st.sd.writes=true)->(decide (j%2=1)=decide (v.1≠A.1))/\(decide (2<=j)=decide (v.2≠A.2)):=λh=>by
  have:=jw h;constructor
  .rw[decide_eq_decide];split at Hv<;>split at Hv<;>rename_i c1 c2<;>constructor<;>intro hh<;>first|exact c1|omega|exact (hh (Decidable.not_not.1 c1)).elim
  .rw[decide_eq_decide];split at Hv<;>split at Hv<;>rename_i c1 c2<;>constructor<;>intro hh<;>first|exact c2|omega|exact (hh (Decidable.not_not.1 c2)).elim
 have v30:∀X,(h3.new X).Zp t o=some (.int .i64 v.1):=λX=>(ZZ (by rw[ZR (by omega)];exact t3)).trans (S.g0 v);have v31:∀X,(h3.new X).Zp t (o+1)=some (.int .i64 v.2):=λX=>(ZZ (by rw[ZR (by omega)];exact t3)).trans (S.g1 v);have q30:∀X,(h3.new X).Zp h2.n 0=some (.int .i64 A.1):=λX=>by rw[ZZ (by rw[ZR (by omega)];exact g3)];rfl
 have q31:∀X,(h3.new X).Zp h2.n 1=some (.int .i64 A.2):=λX=>by rw[ZZ (by rw[ZR (by omega)];exact g3)];rfl
 simp[bx,nw,<-ZL,r1,a2,HJ];refine Ym (C:=λo=>RT _ (fin Tryz.prog _ _ o)) (λe g=>g=h3.new (.cells [.int .i64 (if v.1≠A.1 then 1 else 0)] 3 false)/\E66 q t o h2.n h3.n e) ?_ ?_
 .by_cases c1:v.1=A.1
  .simp[XG,v30,q30,c1];exact⟨by simp,by simp,by simp,by simp⟩
  .simp[XG,v30,q30,c1];exact⟨by simp,by simp,by simp,by simp⟩
 rintro e g ⟨rfl,⟨e0,e3,e8,e9⟩⟩;have zj:IntKind.i64.wrap ((if v.1≠A.1 then 1 else 0)+2)=(if v.1≠A.1 then 1 else 0)+2:=by split<;>rfl
 refine Ym (C:=λo=>RT _ (fin Tryz.prog _ _ o)) (λe g=>g=h4/\E66 q t o h2.n h3.n e) ?_ ?_
 .by_cases c2:v.2=A.2
  .rw[if_neg (λh:v.2≠A.2=>h c2),Int.add_zero]at Hv
   rw[Hv,<-Xs];have v40:=v31 (.cells [.int .i64 (J0:Nat)] 3 false);have q40:=q31 (.cells [.int .i64 (J0:Nat)] 3 false);rw[<-Xs]at v40 q40;simp[XG,e0,e3,e8,e9,v40,q40,c2];exact⟨by simp[e0],by simp[e3],by simp[e8],by simp[e9]⟩
  .rw[if_pos c2]at Hv
   obtain⟨y,hy⟩:∃y:Int,y=(if v.1≠A.1 then 1 else 0):=⟨_,rfl⟩
   rw[<-hy]at Hv ⊢;have zy:IntKind.i64.wrap (y+2)=(J0:Nat):=by rw[Hv];exact ZS (by omega) (by omega)
   simp[XG,e0,e3,e8,e9,v31,q31,c2,zy,<-Xs];exact⟨by simp[e0],by simp[e3],by simp[e8],by simp[e9]⟩
 rintro e g ⟨rfl,⟨e0,e3,e8,e9⟩⟩;simp[e0,e9,ph,e3,e8,v50,v51,q50,q51,zd0,zd1,nw,zw6,r6,w7];have hb:∀{cc:Nat} {u a':Int} {on:Bool} {s:St},s.sd.writes=st.sd.writes->(-5000<=u/\u<=5000)->(-4095<=a'/\a'<=4095)->(st.sd.writes=true->on=decide (u≠a')/\-4095<=u/\u<=4095)->on=true->s.sd.writes=true->u-a'≠0/\(u-a').natAbs<=16376:=λhs hu ha hh ho BT=>by
  obtain⟨h1,h2,h3⟩:=hh (by rw[<-hs];exact BT);rw[ho]at h1;have:=of_decide_eq_true h1.symm;omega
 have wB:st.sd.writes=true->(-4095<=v.1/\v.1<=4095)/\(-4095<=v.2/\v.2<=4095):=λh=>by
  have:=hw h;rw[if_pos rfl]at this;exact⟨⟨this.1,this.2.1⟩,⟨this.2.2.1,this.2.2.2⟩⟩
 refine Ym (C:=λo=>RT _ (fin Tryz.prog _ _ o)) (λe g=>∃x YI,(T8 (decide (j%2=1)) 0 A.1 v.1).exec Ux=(some x,YI)/\(st.sd.writes=true->x=v.1)/\(-30000<=x/\x<=30000)/\Co (λb=>((P b\/b=h2.n)\/b=h3.n)\/b=h5.n) g c q (m+14) YI 0/\g.get t=some (.cells (G (x,A.2)) tt false) /\
  g.get h3.n=some (.cells [.int .i64 (j:Nat)] 3 false)/\g.get h5.n=some (.cells [.int .i64 (v.1-A.1),.int .i64 (v.2-A.2)] 39 false)/\Kp (λb=>P b/\b≠q/\b≠t) h7 g/\E66 q t o h2.n h3.n e/\e.s K66 10=.ptr h5.n 0) ?_ ?_
 .have q9:=ZZ (o:=0) g79
  have b1:=BqP j;by_cases cj:j%2=1
  .obtain⟨_,g1,b2,⟨r,rfl,YI,f1,f2,f3,f4,f5⟩⟩:=(Jn a7 (x:=0) (v:=v.1-A.1) (by decide) (by omega) (by omega) (λh=>hb (cc:=0) (u:=v.1) (a':=A.1) (on:=decide (j%2=1)) w5 hv.1 ⟨vA1,vA2⟩ (λh=>⟨(dJ h).1,(wB h).1⟩) (by simp[cj]) h)).elim
   have jS:KW 145 [.ptr q 0,.int .i64 0,.int .i64 (v.1-A.1)] h7=some (.ret (.int .i64 r),g1):=b2;have tg:=(f5.get t ⟨.inl (.inl (.inl pt)),nt⟩).trans t7;have u0:=(ZZ (o:=o) tg).trans (S.g0 A);have u70:=(ZZ (o:=o) t7).trans (S.g0 A);have d0:=ZZ (o:=0) kU;have zr:IntKind.i64.wrap (A.1+r)=A.1+r:=ZS (by omega) (by omega);have wr:g1.WO t o (.int .i64 (A.1+r))=some (g1.put t (.cells (G (A.1+r,A.2)) tt false)):=by
     rw[Zw tg (by have:=S.len A;omega),S.s0]
   rw[cj]at b1;have c1:((1:Nat):Int)=1:=rfl;rw[c1]at b1;simp[XG,e9,q9,-WC,b1,d0,jS,u0,u70,zr,wr,e3,e0,e8];refine⟨A.1+r,YI,by unfold T8;rw[if_pos (by simp[cj]),Pr.Zj f1];rfl,λh=>by have:=f2 (by rw[w5];exact h);omega,by omega,f4.put (.inl (.inl (.inl pt))) nt _,ZV (H.ZW tg),?_,?_,⟨by rw[H.ZJ];exact f5.n,?_⟩,⟨by simp[e0],by simp[e3],by simp[e8],by simp[e9]⟩⟩
   . rw[ZX (by omega),f5.get h3.n ⟨.inl (.inr rfl),by omega⟩,g79]
   . rw[ZX (by omega),f5.get h5.n ⟨.inr rfl,by omega⟩,kU]
   . rintro i ⟨hi,iq,it⟩
     rw[ZX it,f5.get i ⟨.inl (.inl (.inl hi)),iq⟩]
  .have j0:j%2=0:=by omega
   rw[j0]at b1;have c1:((0:Nat):Int)=0:=rfl;rw[c1]at b1;simp[XG,e9,q9,-WC,b1];refine⟨A.1,Ux,by unfold T8;rw[if_neg (by simp[cj])];rfl,λh=>?_,by omega,a7.more (by omega) (by omega),t7,g79,kU,Kp.refl _ _,⟨by simp[e0],by simp[e3],by simp[e8],by simp[e9]⟩⟩;have:=(dJ h).1;rw[decide_eq_decide]at this;exact Decidable.byContradiction λhc=>cj (this.2 (λe=>hc e.symm))
 rintro e g ⟨x,ru,f1,f2,f3,a8,t8,g89,yqu,kp8,⟨e0,e3,e8,e9⟩,Yu⟩;have w8:ru.sd.writes=st.sd.writes:=(YS f1).trans w5;have n8:=kp8.n;refine Ym (C:=λo=>RT _ (fin Tryz.prog _ _ o)) (λe g'=>∃y YI,(T8 (decide (2<=j)) 1 A.2 v.2).exec ru=(some y,YI)/\(st.sd.writes=true->y=v.2)/\(-30000<=y/\y<=30000)/\Co (λb=>((P b\/b=h2.n)\/b=h3.n)\/b=h5.n) g' c q (m+27) YI 0/\g'.get t=some (.cells (G (x,y)) tt false) /\
  Kp (λb=>P b/\b≠q/\b≠t) g g'/\E66 q t o h2.n h3.n e) ?_ ?_
 .have q9:=ZZ (o:=0) g89
  have b1:=BqO j4;by_cases cj:2<=j
  .obtain⟨_,g1,b2,⟨r,rfl,YI,k1,k2,k3,k4,k5⟩⟩:=(Jn a8 (x:=1) (v:=v.2-A.2) (by decide) (by omega) (by omega) (λh=>hb (cc:=0) (u:=v.2) (a':=A.2) (on:=decide (2<=j)) w8 hv.2 ⟨vA3,vA4⟩ (λh=>⟨(dJ h).2,(wB h).2⟩) (by simp[cj]) h)).elim
   have jS:KW 145 [.ptr q 0,.int .i64 1,.int .i64 (v.2-A.2)] g=some (.ret (.int .i64 r),g1):=b2;have tg:=(k5.get t ⟨.inl (.inl (.inl pt)),nt⟩).trans t8;have u0:=(ZZ (o:=o+1) tg).trans (S.g1 _);have u70:=(ZZ (o:=o+1) t8).trans (S.g1 _);have d0:=ZZ (o:=1) yqu;have zr:IntKind.i64.wrap (A.2+r)=A.2+r:=ZS (by omega) (by omega);have wr:g1.WO t (o+1) (.int .i64 (A.2+r))=some (g1.put t (.cells (G (x,A.2+r)) tt false)):=by
     rw[Zw tg (by have:=S.len (x,A.2);omega),S.s1]
   rw[if_pos cj]at b1;simp[XG,e9,q9,-WC,b1,d0,jS,u0,u70,zr,wr,e3,e0,e8,Yu];refine⟨A.2+r,YI,by unfold T8;rw[if_pos (by simp[cj]),Pr.Zj k1];rfl,λh=>by have:=k2 (by rw[w8];exact h);omega,by omega,k4.put (.inl (.inl (.inl pt))) nt _,ZV (H.ZW tg),⟨by rw[H.ZJ];exact k5.n,?_⟩,⟨by simp[e0],by simp[e3],by simp[e8],by simp[e9]⟩⟩;rintro i ⟨hi,iq,it⟩;rw[ZX it,k5.get i ⟨.inl (.inl (.inl hi)),iq⟩]
  .rw[if_neg cj]at b1
   simp[XG,e9,q9,-WC,b1];refine⟨A.2,ru,by unfold T8;rw[if_neg (by simp[cj])];rfl,λh=>?_,by omega,a8.more (by omega) (by omega),t8,Kp.refl _ _,⟨by simp[e0],by simp[e3],by simp[e8],by simp[e9]⟩⟩;have:=(dJ h).2;rw[decide_eq_decide]at this;exact Decidable.byContradiction λhc=>cj (this.2 (λe=>hc e.symm))
 rintro e g' ⟨y,st9,k1,k2,k3,a9,t9,kp9,⟨e0,e3,e8,e9⟩⟩;have n9:=kp9.n;have exF:(Y8 3 A v).exec st=(if Y5 (x,y)then Pr.done (x,y)else Pr.stop).exec st9:=by
  rw[ex,Pr.Zj f1,Pr.Zj k1]
 have rq:=ZZ (o:=1) a9.k;have rt:g'.Ze t o 2=some [.int .i64 x,.int .i64 y]:=by rw[ZU t9 (S.len _),S.tk]
 obtain⟨_,IE,lH,rfl,Ha⟩:=(Sf (x,y) g').elim;have pE:=(a9.less (Q:=P) a.pq λb hb=>.inl (.inl (.inl hb))).ext Ha;have t10:IE.get t=_:=(Ha.get t (H.ZW t9)).trans t9;have kpF:Kp (λb=>P b/\b≠q/\b≠t) h IE:=((kp7.trans kp8).trans kp9).trans (Kp.of Ha λi hi=>by have:=a.lt i hi.1;have:=PN.n;omega);by_cases cv:Y5 (x,y)
 .rw[if_pos cv]at exF
  have hq:Q (.Zt []) IE:=by
   rw[hQ];refine⟨rfl,?_⟩;rw[exF];exact⟨λh=>Prod.ext (f2 h) (k2 h),pE,t10,kpF⟩
  simp[e0,rq,e3,rt,lH,cv];exact hq
 .rw[if_neg cv]at exF
  have w9:st.sd.writes=false:=by
   cases hh:st.sd.writes with
   |false=>rfl
   |true =>
     refine (cv ?_).elim;rw[f2 hh,k2 hh];have:=hw hh;rw[if_pos rfl]at this;exact this
  obtain⟨BQ,FX⟩:∃z,z=IE.put q (.cells [.ptr c 0,.int .i64 4] 113 false):=⟨_,rfl⟩
  have w11:IE.WO q 1 (.int .i64 4)=some BQ:=by rw[Zw pE.k (by simp),FX];rfl
  have hq:Q (.Zt []) BQ:=by
   rw[hQ];refine⟨rfl,?_⟩;rw[exF];refine⟨w9,?_,⟨(x,y),by rw[FX,ZX nt,t10]⟩,⟨by rw[FX,H.ZJ];exact kpF.n,?_⟩⟩
   . obtain⟨⟨D,C,hD⟩,k,pq,lt⟩:=pE
     refine⟨⟨D,?_,λb hb=>by rw[FX,H.ZJ];exact hD b hb⟩,by rw[FX];exact ZV (H.ZW k),pq,λb hb=>by rw[FX,H.ZJ];exact lt b hb⟩;rw[FX];exact C.keep (by rw[H.ZJ];exact Nat.le_refl _) λb hb Yv=>ZX (by rintro rfl;exact (hD _ hb).2 pq)
   . rintro i ⟨hi,iq,it⟩
     rw[FX,ZX iq,kpF.get i ⟨hi,iq,it⟩]
  simp[e0,rq,e3,rt,lH,cv,w11];exact hq
open Go.Zf (ZS)
variable{X:Out}
theorem XG.elim{Yn:E->H->Prop}(h:XG Yn X):∃e g,X=some ⟨.nm,e,g⟩/\Yn e g:=by
 unfold XG at h;split at h
 .exact⟨_,_,rfl,h⟩
 .exact h.elim
def Zz(G:Gr)(b:Bk):Vs:=cM G b.x b.y b.w
variable{ref:Int}
theorem qL(h:Y5 b.m0/\Y5 b.m1)(e:OO b ref=some v):Y5 v:=by
 unfold OO at e;split at e
 .split at e
  .cases e;exact h.1
  .split at e
   . cases e;exact h.2
   . cases e
 .cases e
variable{G:Gr}
theorem at_mem{x y:Int}(h:G.at x y=some b):b∈G.bs:=by
 unfold Gr.at at h;split at h
 .obtain⟨n,_,h2⟩:=Option.bind_eq_some_iff.1 h
  exact List.mem_of_getElem? h2
 .cases h
theorem vJ{acc:List Vc}{o:Option Bk}(h:∀v∈acc,Y5 v)(ho:∀b,o=some b->Y5 b.m0/\Y5 b.m1):∀v∈TR ref acc o,Y5 v:=by
 unfold TR;split
 .rename_i v hv
  obtain⟨b,hb,hv⟩:=Option.bind_eq_some_iff.1 hv;split
  .intro u hu
   rcases List.mem_append.1 hu with hu|hu
   . exact h u hu
   . rw[List.mem_singleton.1 hu];exact qL (ho b hb) hv
  .exact h
 .exact h
theorem qK(ok:I7 G)(x y w ref:Int)(j:Nat):∀v∈XJ G x y w ref j,Y5 v:=by
 unfold XJ;have:∀(l:List (Int×Int)) (acc:List Vc),(∀v∈acc,Y5 v)->∀v∈l.foldl (λacc p=>TR ref acc (G.at p.1 p.2)) acc,Y5 v:=by
  intro l
  induction l with
  |nil=>intro acc h;exact h
  |cons p l ih=>intro acc h;exact ih _ (vJ h λb hb=>ok.vec b (at_mem hb))
 exact this _ [] (by simp)
theorem Pa(ok:I7 G)(b:Bk):Bj (Zz G b):=λr _ _=>by
 have h:=qK ok b.x b.y b.w r 4;have hd:∀i,Y5 ((XJ G b.x b.y b.w r 4).getD i (0,0)):=λi=>by
  by_cases hi:i<(XJ G b.x b.y b.w r 4).length
  .have:(XJ G b.x b.y b.w r 4).getD i (0,0)=(XJ G b.x b.y b.w r 4)[i]:=by simp[List.getD,hi]
   rw[this];exact h _ (List.getElem_mem hi)
  .have:(XJ G b.x b.y b.w r 4).getD i (0,0)=(0,0):=by simp[List.getD,List.getElem?_eq_none (by omega:(XJ G b.x b.y b.w r 4).length<=i)]
   rw[this];decide
 exact⟨hd 0,hd 1,Gt _ _ _ _ _ _⟩
structure PV(G:Gr)(b:Bk):Prop where
 sh:YR b
 i1:Vd b.x b.y
theorem PV.pl(a:PV G b):kz b.x b.y:=⟨a.sh.1.1,a.sh.1.2.1,a.sh.1.2.2,a.sh.2.1.1,a.sh.2.1.2.1,a.sh.2.1.2.2⟩
variable{D:Nat->Prop}{g:Nat}
theorem Cy(a:Zl D h g G)(ig:PV G b)(hr:0<=ref/\ref<=2):
  RT (λr h'=>r=.Zt [.agg [.int .i64 (Zz G b ref).1.1.1,.int .i64 (Zz G b ref).1.1.2,.int .i64 (Zz G b ref).1.2.1,.int .i64 (Zz G b ref).1.2.2],.int .i64 ((Zz G b ref).2:Nat),.int .i64 0]/\Ext h h')
   (KW 95 [.ptr g 0,.agg [.int .i64 b.x,.int .i64 b.y,.int .i64 b.w,.int .i64 b.h],.int .i64 ref] h):=Bf a ig.pl ig.i1 ig.sh.2.2.1 hr
abbrev K30:List Nat:=[0,1,3,4,5,6,18,19]
structure I30(h0:H)(g p n:Nat)(b:Bk)(i:Nat)(e:E)(h:H):Prop where
 xx:Ext h0 h
 hp:h.get p=some (.cells b.cs 42 false)
 e0:e.s K30 0=.ptr g 0
 e3:e.s K30 3=.ptr p 0
 xC:e.s K30 18=.int .i64 (n:Nat)
 AK:e.s K30 19=.int .i64 (i:Nat)
def T0(b:Bk)(i:Nat):Int:=if i=0 then b.r0 else b.r1
def HI(b:Bk)(i:Nat):Vc:=if i=0 then b.m0 else b.m1
variable{h0:H}{p:Nat}
theorem kT(a:Zl D h0 g G)(ig:PV G b)(hn:n<=2)(hr:∀i,i<n->0<=T0 b i/\T0 b i<=2):
  ∀k e h,(k<=n/\I30 h0 g p n b (n-k) e h/\∀i,i<n-k->HI b i=Y2 b.mm (Zz G b (T0 b i)).1)->LS (λk e h=>k<=n/\I30 h0 g p n b (n-k) e h/\∀i,i<n-k->HI b i=Y2 b.mm (Zz G b (T0 b i)).1)
   (λs=>(s.x=.ex 0/\(∀i,i<n->HI b i=Y2 b.mm (Zz G b (T0 b i)).1)/\Ext h0 s.h)\/(s.x=.rt/\s.e.s K30 4=.bool false/\(∃i,i<n/\HI b i≠Y2 b.mm (Zz G b (T0 b i)).1)/\Ext h0 s.h)) k (GY KW ZI e h):=by
 rintro k e h ⟨hk,⟨xx,hp,e0,e3,xC,AK⟩,hs⟩;obtain⟨i,hi⟩:∃i,i=n-k:=⟨_,rfl⟩
 rw[<-hi]at AK hs;by_cases ci:i=n
 .subst ci
  simp[GY,AK,xC];exact .inl ⟨rfl,hs,xx⟩
 have TW:i<n:=by omega
 have OI:(i:Int)<n:=by omega
 have rb:h.Ze p 0 23=some b.cs:=by rw[ZU hp (by simp)];rfl
 obtain⟨_,h1,a1,rfl,x1⟩:=(Jz b h).elim;have p1:h1.get p=_:=(x1.get p (H.ZW hp)).trans hp;obtain⟨_,h2,a2,rfl,x2⟩:=(Cy (a.ext (xx.trans x1)) ig (hr i TW)).elim;obtain⟨l,hl⟩:∃l,l=(Zz G b (T0 b i)).1:=⟨_,rfl⟩
 rw[<-hl]at a2;obtain⟨h3,Zc⟩:∃z,z=h2.new (.cells [.int .i64 l.1.1,.int .i64 l.1.2,.int .i64 l.2.1,.int .i64 l.2.2] 40 false):=⟨_,rfl⟩
 have x3:Ext h2 h3:=by rw[Zc];exact (Ext.refl h2).new _
 have zw:(h2.new (.cells [.int .i64 0,.int .i64 0,.int .i64 0,.int .i64 0] 40 false)).X4 h2.n 0 [.int .i64 l.1.1,.int .i64 l.1.2,.int .i64 l.2.1,.int .i64 l.2.2]=some h3:=by rw[Zc];exact YO _ _ _ _ rfl
 have r3:h3.Ze h2.n 0 4=some [.int .i64 l.1.1,.int .i64 l.1.2,.int .i64 l.2.1,.int .i64 l.2.2]:=by rw[Zc];exact VZ _ _ _ _ _ _ (by simp)
 have p3:h3.get p=_:=((x2.trans x3).get p (H.ZW p1)).trans p1;obtain⟨_,h4,a4,rfl,x4⟩:=(Jy b.mm l h3).elim;have p4:h4.get p=_:=(x4.get p (H.ZW p3)).trans p3;have ix1:∀o:Nat,o=14+i->h.Zp p o=some (.int .i64 (T0 b i))/\h1.Zp p o=some (.int .i64 (T0 b i)):=λo ho=>by
  subst ho;rcases (by omega:i=0\/i=1)with rfl|rfl
  .exact⟨ZZ hp,ZZ p1⟩
  .exact⟨ZZ hp,ZZ p1⟩
 have r1:=(ix1 (14+i) rfl).1;have pf:=(ix1 (14+i) rfl).2;have mm3:h3.Zp p 16=some (.int .i64 b.mm):=by rw[ZZ p3];rfl
 have mv3:h3.Ze p (17+i*2) 2=some [.int .i64 (HI b i).1,.int .i64 (HI b i).2]/\h4.Ze p (17+i*2) 2=some [.int .i64 (HI b i).1,.int .i64 (HI b i).2]:=by
  rcases (by omega:i=0\/i=1)with rfl|rfl
  .exact⟨by rw[ZU p3 (by simp)];rfl,by rw[ZU p4 (by simp)];rfl⟩
  .exact⟨by rw[ZU p3 (by simp)];rfl,by rw[ZU p4 (by simp)];rfl⟩
 have Tw:i<2:=by omega
 have IX:(i:Int)<2:=by omega
 have z2:IntKind.i64.wrap ((i:Int)+1)=((i+1:Nat):Int):=by rw[ZS (by omega) (by omega)];omega
 obtain⟨mv,uG⟩:∃z,z=HI b i:=⟨_,rfl⟩
 obtain⟨sd,OW⟩:∃z,z=Y2 b.mm l:=⟨_,rfl⟩
 rw[<-uG]at mv3;rw[<-OW]at a4;have xF:=(((xx.trans x1).trans x2).trans x3).trans x4;have ck4:∀{β:Type} (a b c d:Int) (z:Option β),ck (some (.agg [.int .i64 a,.int .i64 b,.int .i64 c,.int .i64 d])) (.agg [.int .i64 a,.int .i64 b,.int .i64 c,.int .i64 d]) z=z:=λa b c d z=>by simp[ck,V.same,V.Xm]
 by_cases c:mv=sd
 .have c':mv.1=sd.1/\mv.2=sd.2:=by rw[c];exact⟨rfl,rfl⟩
  simp[GY,AK,xC,TW,OI,e3,rb,a1,Tw,IX,r1,pf,e0,a2,nw,zw,mm3,r3,a4,mv3.1,mv3.2,c'.1,c'.2,z2,ck4,-Int.natCast_add];refine⟨k-1,by omega,by omega,?_⟩;rw[show n-(k-1)=i+1 by omega];refine⟨⟨xF,p4,by simp[e0],by simp[e3],by simp[xC],by simp⟩,λm hm=>?_⟩;by_cases e:m=i
  .rw[e,<-uG,c,OW,hl]
  .exact hs m (by omega)
 .have c':¬(mv.1=sd.1/\mv.2=sd.2):=λh=>c (Prod.ext h.1 h.2)
  simp[GY,AK,xC,TW,OI,e3,rb,a1,Tw,IX,r1,pf,e0,a2,nw,zw,mm3,r3,a4,mv3.1,mv3.2,c',z2,ck4,-Int.natCast_add];exact .inr ⟨rfl,by simp,⟨i,TW,by rw[<-uG,<-hl,<-OW];exact c⟩,xF⟩
instance(vs:Vs)(b:Bk):Decidable (Yl vs b):=inferInstanceAs (Decidable (_->_))
theorem NW(a:Zl D h g G)(ig:PV G b)(hr:b.inter=true->XD b):
  RT (λw h'=>w=.bool (decide (Yl (Zz G b) b))/\Ext h h') (KW 50 [.ptr g 0,b.v] h):=by
 obtain⟨h1,ZL⟩:∃z,z=h.new (.cells b.cs 42 false):=⟨_,rfl⟩
 have x1:Ext h h1:=by rw[ZL];exact (Ext.refl h).new _
 have g1:h1.get h.n=some (.cells b.cs 42 false):=by rw[ZL,ZY]
 have rd:∀o,h1.Zp h.n o=b.cs[o]?:=λo=>ZZ g1;have rb:h1.Ze h.n 0 23=some b.cs:=by rw[ZU g1 (by simp)];rfl
 rw[W2 r50,s50];by_cases ci:b.inter=true;rotate_left
 .have e:Yl (Zz G b) b:=λh=>(ci h).elim
  simp[bx,<-ZL,rd,ci,e];exact⟨rfl,x1⟩
 by_cases cm:b.mm=3
 .have e:Yl (Zz G b) b:=λ_ h=>(h cm).elim
  simp[bx,<-ZL,rd,ci,cm,e];exact⟨rfl,x1⟩
 obtain⟨_,r0,_,_,_,sec⟩:=hr ci;obtain⟨_,h2,a2,rfl,x2⟩:=(Oh b h1).elim;obtain⟨n,hn⟩:∃n:Nat,n=if b.comp=true then 2 else 1:=⟨_,rfl⟩
 have rG:(if b.comp=true then (2:Int)else 1)=(n:Nat):=by rw[hn];split<;>rfl
 rw[rG]at a2;have g2:h2.get h.n=_:=(x2.get _ (H.ZW g1)).trans g1;have U0:n<=2:=by rw[hn];split<;>omega
 have ha:Yl (Zz G b) b↔∀i,i<n->HI b i=Y2 b.mm (Zz G b (T0 b i)).1:=by
  constructor
  .intro h i hi
   have:=h ci cm;rcases (by omega:i=0\/i=1)with rfl|rfl
   . exact this.1
   . refine this.2 ?_
     rw[hn]at hi;cases hc:b.comp with
     |true=>rfl
     |false=>rw[hc]at hi;simp at hi
  .intro h _ _
   refine⟨h 0 (by rw[hn];split<;>omega),λhc=>h 1 (by rw[hn,if_pos hc];decide)⟩
 simp[bx,<-ZL,rd,ci,cm,rb,a2];refine XV (C:=λo=>RT _ (fin Tryz.prog _ _ (sq (Y9 0 o) _))) _ _ (kT (a.ext (x1.trans x2)) (p:=h.n) (n:=n) ig U0 (λi hi=>by
  rcases (by omega:i=0\/i=1)with rfl|rfl
  .exact r0
  .unfold X9 at sec
   rw[hn]at hi;cases hc:b.comp with
   |true=>rw[hc,if_pos rfl]at sec;exact sec.1
   |false=>rw[hc]at hi;simp at hi)) n ⟨Nat.le_refl _,⟨by exact Ext.refl _,g2,by simp,by simp,by simp,by simp⟩,λi hi=>by omega⟩ ?_
 rintro⟨sx,se,sh⟩ (⟨s1,all,xx⟩|⟨s1,e4,⟨i,hi,Wp⟩,xx⟩)
 .simp only at s1 xx
  subst s1;have:Yl (Zz G b) b:=ha.2 all;simp[this];exact⟨rfl,(x1.trans x2).trans xx⟩
 .simp only at s1 e4 xx
  subst s1;have:¬Yl (Zz G b) b:=λh=>Wp (ha.1 h i hi);simp[e4,this];exact⟨rfl,(x1.trans x2).trans xx⟩
open Go.Zf (ZS)
theorem FY.up{P':Nat->Prop}{h1 g:H}{tt:Nat}{G:Vc->List V}{R:Option Vc×St}(x:FY P' h1 c q t tt m st G v R g)(pq:P q)(hP:∀b,P b->P' b)(kp:Kp (λb=>P b/\b≠q/\b≠t) h h1):FY P h c q t tt m st G v R g:=by
 obtain⟨r,YI⟩:=R;cases r with
 |some r=>exact⟨x.1,x.2.co.less pq hP,x.2.box,kp.trans (x.2.kp.mono λi hi=>⟨hP i hi.1,hi.2⟩)⟩
 |none=>exact⟨x.1,x.2.1.less pq hP,x.2.2.1,kp.trans (x.2.2.2.mono λi hi=>⟨hP i hi.1,hi.2⟩)⟩
abbrev Nc:List Nat:=[0,1,2,6,7,8,9,10,19,20,35,36]
structure E34(q g t n i:Nat)(e:E):Prop where
 e0:e.s Nc 0=.ptr q 0
 e1:e.s Nc 1=.ptr g 0
 e2:e.s Nc 2=.ptr t 0
 Db:e.s Nc 35=.int .i64 (n:Nat)
 FD:e.s Nc 36=.int .i64 (i:Nat)
theorem ck4{β:Type}(a b c d:Int)(z:Option β):ck (some (.agg [.int .i64 a,.int .i64 b,.int .i64 c,.int .i64 d])) (.agg [.int .i64 a,.int .i64 b,.int .i64 c,.int .i64 d]) z=z:=by simp[ck,V.same,V.Xm]
theorem Cx(a:Co P h c q m st 0)(ga:Zl D h g G){bb:Bk}(ht:h.get t=some (.cells bb.cs 42 false))(pt:P t)(nt:t≠q)(ig:PV G bb)(hr:0<=ref/\ref<=2):
  ∃h1 h2 h3 h4,KW 96 [bb.v] h=some (.ret (.agg [.int .i64 bb.x,.int .i64 bb.y,.int .i64 bb.w,.int .i64 bb.h]),h1) /\
   KW 95 [.ptr g 0,.agg [.int .i64 bb.x,.int .i64 bb.y,.int .i64 bb.w,.int .i64 bb.h],.int .i64 ref] h1=some (.ret (.Zt [.agg [.int .i64 (Zz G bb ref).1.1.1,.int .i64 (Zz G bb ref).1.1.2,.int .i64 (Zz G bb ref).1.2.1,.int .i64 (Zz G bb ref).1.2.2],.int .i64 ((Zz G bb ref).2:Nat),.int .i64 0]),h2) /\
   (h2.new (.cells [.int .i64 0,.int .i64 0,.int .i64 0,.int .i64 0] 40 false)).X4 h2.n 0 [.int .i64 (Zz G bb ref).1.1.1,.int .i64 (Zz G bb ref).1.1.2,.int .i64 (Zz G bb ref).1.2.1,.int .i64 (Zz G bb ref).1.2.2]=some h3 /\
   h3.WO q 1 (.int .i64 0)=some h4/\h1.get t=some (.cells bb.cs 42 false)/\h4.get t=some (.cells bb.cs 42 false) /\
   h4.get h2.n=some (.cells [.int .i64 (Zz G bb ref).1.1.1,.int .i64 (Zz G bb ref).1.1.2,.int .i64 (Zz G bb ref).1.2.1,.int .i64 (Zz G bb ref).1.2.2] 40 false)/\h.n<=h2.n /\
   Co (λb=>P b\/b=h2.n) h4 c q m st 0/\Kp (λb=>P b/\b≠q/\b≠t) h h4:=by
 obtain⟨_,h1,a1,rfl,x1⟩:=(Jz bb h).elim;obtain⟨_,h2,a2,rfl,x2⟩:=(Cy (ga.ext x1) ig hr).elim;have yS:=x1.trans x2;have a3:=(a.ext yS).box (.cells [.int .i64 (Zz G bb ref).1.1.1,.int .i64 (Zz G bb ref).1.1.2,.int .i64 (Zz G bb ref).1.2.1,.int .i64 (Zz G bb ref).1.2.2] 40 false);obtain⟨h3,Zc⟩:∃z,z=h2.new (.cells [.int .i64 (Zz G bb ref).1.1.1,.int .i64 (Zz G bb ref).1.1.2,.int .i64 (Zz G bb ref).1.2.1,.int .i64 (Zz G bb ref).1.2.2] 40 false):=⟨_,rfl⟩
 rw[<-Zc]at a3;have x3:Ext h2 h3:=by rw[Zc];exact (Ext.refl h2).new _
 have A9:=yS.trans x3;have xn:=yS.n;have Kv:=a.lt t pt;have KS:=a.lt q a.pq;have n3:h3.n=h2.n+1:=by rw[Zc,H.ZP]
 refine⟨h1,h2,h3,h3.put q (.cells [.ptr c 0,.int .i64 0] 113 false),a1,a2,by rw[Zc];exact YO _ _ _ _ rfl,by rw[Zw a3.k (by simp)];rfl,(x1.get t Kv).trans ht,by rw[ZX nt,A9.get t Kv,ht],by rw[ZX (by omega),Zc];exact ZY,xn,?_,⟨by rw[H.ZJ];exact A9.n,?_⟩⟩
 .obtain⟨⟨E,C,hD⟩,k,pq,lt⟩:=a3
  exact⟨⟨E,C.keep (by rw[H.ZJ];exact Nat.le_refl _) λb hb Yv=>ZX (by rintro rfl;exact (hD _ hb).2 pq),λb hb=>by rw[H.ZJ];exact hD b hb⟩,ZV (H.ZW k),pq,λb hb=>by rw[H.ZJ];exact lt b hb⟩
 .rintro i ⟨hi,iq,it⟩
  rw[ZX iq,A9.get i (a.lt i hi)]
theorem vI(a:Co P h c q m st 0)(ga:Zl D h g G){bb:Bk}(ht:h.get t=some (.cells bb.cs 42 false))(pt:P t)(nt:t≠q)(ig:PV G bb)(hr:0<=bb.r0/\bb.r0<=2)(hm:m+28<100000000)(hn:0<n)
  (KH : -1000<=bb.mm/\bb.mm<=1000) (hv:(-5000<=bb.m0.1/\bb.m0.1<=5000)/\(-5000<=bb.m0.2/\bb.m0.2<=5000)) (hw:st.sd.writes=true->(0<=bb.mm/\bb.mm<=3)/\if bb.mm=3 then Y5 bb.m0 else bb.m0=Y2 bb.mm (Zz G bb bb.r0).1) {e:E} (he:E34 q g t n 0 e) :
  XG (λe' g'=>E34 q g t n 1 e'/\FY P h c q t 42 (m+28) (st.sym 16 (Zz G bb bb.r0).2 bb.mm) (λv=>({bb with mm:=(st.ZC 16 (Zz G bb bb.r0).2 bb.mm:Nat),m0:=v}:Bk).cs) bb.m0
   ((Y8 (st.ZC 16 (Zz G bb bb.r0).2 bb.mm:Nat) (Y2 (st.ZC 16 (Zz G bb bb.r0).2 bb.mm:Nat) (Zz G bb bb.r0).1) bb.m0).exec (st.sym 16 (Zz G bb bb.r0).2 bb.mm)) g') (PD KW ZI e h):=by
 obtain⟨e0,e1,e2,Db,FD⟩:=he;obtain⟨pe,jr,vk3⟩:=Pa ga.ok bb bb.r0 hr.1 hr.2;obtain⟨h1,h2,h3,h4,a1,a2,w3,w4,t1,t4,g48,U0,a4,Fz⟩:=Cx a ga ht pt nt ig hr;obtain⟨l,hl⟩:∃l,l=(Zz G bb bb.r0).1:=⟨_,rfl⟩
 obtain⟨n0,GQ⟩:∃n0,n0=(Zz G bb bb.r0).2:=⟨_,rfl⟩
 rw[<-hl,<-GQ]at a2;rw[<-hl]at w3 g48 pe jr hw ⊢;rw[<-GQ]at vk3 ⊢;have tb:h2.n≠t/\h2.n≠q:=⟨λh=>by have:=a.lt t pt;omega,λh=>by have:=a.lt q a.pq;omega⟩
 have hmw:st.sd.writes=true->0<=bb.mm-0/\bb.mm-0<(vl 16:Nat):=λh=>by have:=(hw h).1;show _/\_<((4:Nat):Int);omega
 obtain⟨_,h5,a5,rfl,R5⟩:=(Yt a4 (t:=t) (o:=16) (k:=16) (x:=n0) (v:=bb.mm) (f:=0) t4 (.inl pt) nt rfl (by omega) (by decide) (by show n0<3;omega) (by omega) (by decide) hmw).elim;rw[Int.sub_zero,Int.add_zero]at R5;have sl:st.ZC 16 n0 bb.mm<4:=St.YF a.ok.1 (k:=16) (by decide) (by show n0<3;omega) (λh=>by have:=hmw h;omega);have sw:st.sd.writes=true->((st.ZC 16 n0 bb.mm:Nat):Int)=bb.mm:=λh=>by rw[St.Yx h];have:=(hw h).1;omega
 obtain⟨s,hs⟩:∃s,s=st.ZC 16 n0 bb.mm:=⟨_,rfl⟩
 obtain⟨Ux,Li⟩:∃z,z=st.sym 16 n0 bb.mm:=⟨_,rfl⟩
 rw[<-hs,<-Li]at R5;rw[<-hs]at sl sw;rw[<-hs,<-Li];have w5:Ux.sd.writes=st.sd.writes:=by rw[Li];exact St.YG _ _ _ _
 obtain⟨b1,VJ⟩:∃b1:Bk,b1={bb with mm:=(s:Nat)}:=⟨_,rfl⟩
 have t5:h5.get t=some (.cells b1.cs 42 false):=by rw[VJ];exact R5.box
 have ph:KW 98 [.ptr q 0,.int .i64 16,.int .i64 (n0:Nat),.int .i64 0,.ptr t 16] h4=some (.ret (.Zt []),h5):=a5;have S:Slot (λv=>({bb with mm:=(s:Nat),m0:=v}:Bk).cs) 17:=BqR {bb with mm:=(s:Nat)};obtain⟨_,h6,a6,rfl,V6⟩:=(Nw (l:=l) (mode:=(s:Nat)) (v:=bb.m0) R5.co S (by rw[t5,VJ]) (.inl pt) nt (by omega) hv ⟨pe,jr⟩ (λh=>by
  rw[w5]at h;rw[sw h];exact (hw h).2)).elim
 have V6:=(V6.up (h:=h) a.pq (λb hb=>.inl hb) (Fz.trans (R5.kp.mono λi hi=>⟨.inl hi.1,hi.2⟩)))
 have rb:h.Ze t 0 23=some bb.cs:=by rw[ZU ht (by simp)];rfl
 have nY:h.Zp t 14=some (.int .i64 bb.r0)/\h1.Zp t 14=some (.int .i64 bb.r0):=⟨ZZ ht,ZZ t1⟩
 have q1:=ZZ (o:=1) a.k;have mm5:h5.Zp t 16=some (.int .i64 (s:Nat)):=by rw[ZZ t5,VJ];rfl
 have fk:h5.Ze h2.n 0 4=some [.int .i64 l.1.1,.int .i64 l.1.2,.int .i64 l.2.1,.int .i64 l.2.2]:=by
  rw[ZU ((R5.kp.get h2.n ⟨.inr rfl,tb.2,tb.1⟩).trans g48) (by simp)];rfl
 have rG:(0:Int)<n:=by omega
 have z1:IntKind.i64.wrap 1=1:=rfl;simp[PD,z1,FD,Db,hn,rG,e0,q1,e2,rb,a1,nY.1,nY.2,e1,a2,nw,w3,w4,ph,mm5,fk,a6,ck4,XG];exact⟨⟨by simp[e0],by simp[e1],by simp[e2],by simp[Db],by simp⟩,V6⟩
theorem vH(a:Co P h c q m st 0)(ga:Zl D h g G){bb:Bk}(ht:h.get t=some (.cells bb.cs 42 false))(pt:P t)(nt:t≠q)(ig:PV G bb)(hr:0<=bb.r1/\bb.r1<=2)(hm:m+27<100000000)
  (hv:(-5000<=bb.m1.1/\bb.m1.1<=5000)/\(-5000<=bb.m1.2/\bb.m1.2<=5000)) (hw:st.sd.writes=true->if bb.mm=3 then Y5 bb.m1 else bb.m1=Y2 bb.mm (Zz G bb bb.r1).1) {e:E} (he:E34 q g t 2 1 e) :
  XG (λe' g'=>E34 q g t 2 2 e'/\FY P h c q t 42 (m+27) st (λv=>({bb with m1:=v}:Bk).cs) bb.m1 ((Y8 bb.mm (Y2 bb.mm (Zz G bb bb.r1).1) bb.m1).exec st) g') (PD KW ZI e h):=by
 obtain⟨e0,e1,e2,Db,FD⟩:=he;obtain⟨pe,jr,vk3⟩:=Pa ga.ok bb bb.r1 hr.1 hr.2;obtain⟨h1,h2,h3,h4,a1,a2,w3,w4,t1,t4,g48,U0,a4,Fz⟩:=Cx a ga ht pt nt ig hr;obtain⟨l,hl⟩:∃l,l=(Zz G bb bb.r1).1:=⟨_,rfl⟩
 rw[<-hl]at a2;rw[<-hl]at w3 g48 pe jr hw ⊢;obtain⟨_,h6,a6,rfl,V6⟩:=(Nw (l:=l) (mode:=bb.mm) (v:=bb.m1) a4 (BqQ bb) t4 (.inl pt) nt (by omega) hv ⟨pe,jr⟩ hw).elim;have V6:=(V6.up (h:=h) a.pq (λb hb=>.inl hb) Fz)
 have rb:h.Ze t 0 23=some bb.cs:=by rw[ZU ht (by simp)];rfl
 have nY:h.Zp t 15=some (.int .i64 bb.r1)/\h1.Zp t 15=some (.int .i64 bb.r1):=⟨ZZ ht,ZZ t1⟩
 have q1:=ZZ (o:=1) a.k;have mm5:h4.Zp t 16=some (.int .i64 bb.mm):=by rw[ZZ t4];rfl
 have fk:h4.Ze h2.n 0 4=some [.int .i64 l.1.1,.int .i64 l.1.2,.int .i64 l.2.1,.int .i64 l.2.2]:=by rw[ZU g48 (by simp)];rfl
 have z2:IntKind.i64.wrap 2=2:=rfl;simp[PD,FD,Db,e0,q1,e2,rb,a1,nY.1,nY.2,e1,a2,nw,w3,w4,mm5,fk,a6,ck4,XG,z2];exact⟨⟨by simp[e0],by simp[e1],by simp[e2],by simp[Db],by simp⟩,V6⟩
open Go.Zf (ZS)
def Ef(Yn O5:E->H->Prop):Out->Prop
 |some ⟨.nm,e,h⟩=>Yn e h
 |some ⟨.rt,e,h⟩=>O5 e h
 |_=>False
variable{O5:E->H->Prop}
theorem kS{Yn:E->H->Prop}{x y:Out}(h:x=y):Ef Yn O5 x=Ef Yn O5 y:=by rw[h]
attribute [congr] kS
theorem wy{C:Out->Prop}{k:E->H->Out}(Yn O5:E->H->Prop)(h1:Ef Yn O5 X)(h2:∀e h,Yn e h->C (k e h))(h3:∀e h,O5 e h->C (some ⟨.rt,e,h⟩)):C (sq X k):=by
 unfold Ef at h1;split at h1
 .rw[GV];exact h2 _ _ h1
 .rw[cy];exact h3 _ _ h1
 .exact h1.elim
theorem Cw{Yn Mid:E->H->Prop}{body:E->H->Out}{i:Nat}{e:E}(h1:XG Mid (body e h))(h2:∀e' g,Mid e' g->Ef Yn O5 (Y9 i (ZI body e' g))):Ef Yn O5 (Y9 i (ZI body e h)):=by
 obtain⟨e',g,x,hm⟩:=h1.elim;rw[Zi,x,GV];exact h2 e' g hm
def AJ(b:Bk)(st:St):Nat->Bk×St
 |0=>(b,st)
 |1=>({b with r0:=(st.ZC 14 0 b.r0:Nat)},st.sym 14 0 b.r0)
 |_=>({b with r0:=(st.ZC 14 0 b.r0:Nat),r1:=((st.sym 14 0 b.r0).ZC 14 1 b.r1:Nat)},(st.sym 14 0 b.r0).sym 14 1 b.r1)
structure I34(P:Nat->Prop)(h0:H)(c q t g m n:Nat)(b:Bk)(st:St)(i:Nat)(e:E)(h:H):Prop where
 R:Se P h0 c q t 42 (m+i) (AJ b st i).2 (AJ b st i).1.cs h
 e0:e.s Nc 0=.ptr q 0
 e1:e.s Nc 1=.ptr g 0
 e2:e.s Nc 2=.ptr t 0
 AK:e.s Nc 19=.int .i64 (n:Nat)
 kR:e.s Nc 20=.int .i64 (i:Nat)
theorem vG(pt:P t)(nt:t≠q)(hn:n<=2)(hm:m+2<100000000)(hb:(-1000<=b.r0/\b.r0<=1000)/\(-1000<=b.r1/\b.r1<=1000))(hw:st.sd.writes=true->(0<=b.r0/\b.r0<=2)/\(n=2->0<=b.r1/\b.r1<=2)):
  ∀k e h,(k<=n/\I34 P h0 c q t g m n b st (n-k) e h)->LS (λk e h=>k<=n/\I34 P h0 c q t g m n b st (n-k) e h) (λs=>s.x=.ex 0/\I34 P h0 c q t g m n b st n s.e s.h) k (Dv KW ZI e h):=by
 rintro k e h ⟨hk,R,e0,e1,e2,AK,kR⟩;obtain⟨i,hi⟩:∃i,i=n-k:=⟨_,rfl⟩
 rw[<-hi]at R kR;by_cases ci:i=n
 .subst ci
  simp[Dv,kR,AK];exact⟨rfl,R,by simp[e0],by simp[e1],by simp[e2],by simp[AK],by simp[kR]⟩
 have TW:i<n:=by omega
 have OI:(i:Int)<n:=by omega
 have Tw:(i:Int)<2:=by omega
 have z2:IntKind.i64.wrap ((i:Int)+1)=((i+1:Nat):Int):=by rw[ZS (by omega) (by omega)];omega
 have jk:n-(k-1)=i+1:=by omega
 have yqt:(vl 14:Int)=3:=rfl;obtain⟨_,h1,a1,rfl,R1⟩:=(Yt R.co (t:=t) (o:=14+i) (k:=14) (x:=i) (v:=if i=0 then b.r0 else b.r1) (f:=0) R.box pt nt (by rcases (by omega:i=0\/i=1)with rfl|rfl<;>rfl) (by omega) (by decide) (by show i<3;omega) (by split<;>omega) (by decide) (λh=>by
  rw[yqt];rcases (by omega:i=0\/i=1)with rfl|rfl
  .have:=(hw h).1;simp only[if_true];omega
  .have:=(hw (by rw[<-St.YG st 14 0 b.r0];exact h)).2 (by omega)
   rw[if_neg (by decide)];omega)).elim
 have BA:KW 98 [.ptr q 0,.int .i64 14,.int .i64 (i:Nat),.int .i64 0,.ptr t (14+i)] h=some (.ret (.Zt []),h1):=a1;simp[Dv,kR,AK,TW,OI,e2,Tw,show i<2 by omega,e0,BA,z2,-Int.natCast_add];refine⟨k-1,by omega,by omega,?_⟩;rw[jk];refine⟨?_,by simp[e0],by simp[e1],by simp[e2],by simp[AK],by simp⟩;have RR:=R.trans R1;rw[Int.sub_zero,Int.add_zero]at RR;rcases (by omega:i=0\/i=1)with rfl|rfl
 .exact RR
 .exact RR
theorem UL(so:Yw st.S){v:Int}(hk:k<32)(hc:c<cx k):Yw (st.sym k c v).S:=by
 obtain⟨r,_,ht,tok,tl⟩:=so.get hk hc;unfold St.sym;dsimp only;split
 .exact so.set hk (Ot tok _) (by rw[Yh];exact tl)
 .exact so
def BqN(P:Nat->Prop)(h:H)(c q t m:Nat)(st:St)(b:Bk)(R:Option Bk×St)(h':H):Prop :=
 match R with
 |(some r,YI)=>(st.sd.writes=true->r=b)/\(ZD r=ZD b/\r.skip=b.skip/\r.inter=b.inter/\r.tx=b.tx)/\Se P h c q t 42 m YI r.cs h'
 |(none,YI)=>st.sd.writes=false/\Co P h' c q m YI 4/\(∃r:Bk,h'.get t=some (.cells r.cs 42 false))/\Kp (λb=>P b/\b≠q/\b≠t) h h'
structure RQ(b:Bk):Prop where
 r:(-1000<=b.r0/\b.r0<=1000)/\(-1000<=b.r1/\b.r1<=1000)
 mm : -1000<=b.mm/\b.mm<=1000
 fl : -1000<=b.fl/\b.fl<=1000
 m0:(-5000<=b.m0.1/\b.m0.1<=5000)/\(-5000<=b.m0.2/\b.m0.2<=5000)
 m1:(-5000<=b.m1.1/\b.m1.1<=5000)/\(-5000<=b.m1.2/\b.m1.2<=5000)
theorem O4(G:Gr){a:Bk}(h:ZD a=ZD b):Zz G a=Zz G b:=by
 have h1:a.x=b.x:=(congrArg Bk.x h:(ZD a).x=(ZD b).x)
 have h2:a.y=b.y:=(congrArg Bk.y h:(ZD a).y=(ZD b).y)
 have h3:a.w=b.w:=(congrArg Bk.w h:(ZD a).w=(ZD b).w)
 unfold Zz;rw[h1,h2,h3]
theorem PV.MC{a:Bk}(ig:PV G b)(h:ZD a=ZD b):PV G a:=by
 have h1:a.x=b.x:=(congrArg Bk.x h:(ZD a).x=(ZD b).x)
 have h2:a.y=b.y:=(congrArg Bk.y h:(ZD a).y=(ZD b).y)
 have h3:a.w=b.w:=(congrArg Bk.w h:(ZD a).w=(ZD b).w)
 have h4:a.h=b.h:=(congrArg Bk.h h:(ZD a).h=(ZD b).h)
 obtain⟨sh,i1⟩:=ig;unfold YR at sh;exact⟨by unfold YR;rw[h1,h2,h3,h4];exact sh,by rw[h1,h2];exact i1⟩
def T6(cm:Bool)(b:Bk):Pr Bk:=.sym 20 0 b.fl λfl=>(if cm then Pr.done b.ob else Sg 21 0 b.ob).bind λob=>.done {b with fl:=(fl:Nat),ob:=ob}
theorem D3(a:Co P h c q m st 0)(ga:Zl D h g G)(dP:∀x,D x->P x/\x≠q/\x≠t)(ht:h.get t=some (.cells b.cs 42 false))(pt:P t)(nt:t≠q)(ig:PV G b)(hm:m+60<100000000)
  (sm:RQ b) (hw:st.sd.writes=true->XD b/\Yl (Zz G b) b) :
  RT (λw h'=>w=.Zt []/\BqN P h c q t (m+60) st b ((YM (Zz G b) b).exec st) h') (KW 54 [.ptr q 0,.ptr g 0,.ptr t 0] h):=by
 have oT:∀{h':H},Kp (λb=>P b/\b≠q/\b≠t) h h'->Zl D h' g G:=λk=>ga.keep k.n λx hx=>k.get x (dP x hx);obtain⟨_,h1,a1,rfl,R1⟩:=(Rm a (t:=t) (o:=13) (k:=15) (x:=0) (b:=b.comp) ht pt nt rfl (by omega) (by decide) (by decide) rfl).elim;have cw:st.sd.writes=true->decide (st.ZC 15 0 (Yc b.comp)=1)=b.comp:=λh=>by rw[St.Yx h];cases b.comp<;>rfl
 have tQ:(YM (Zz G b) b).exec st=(Pr.sym 14 0 b.r0 λr0=>(if decide (st.ZC 15 0 (Yc b.comp)=1)=true then Pr.sym 14 1 b.r1 λr1=>Pr.done ((r1:Nat):Int)else Pr.done b.r1).bind λr1 =>
   .sym 16 (Zz G b (r0:Nat)).2 b.mm λmm=>(Y8 (mm:Nat) (Y2 (mm:Nat) (Zz G b (r0:Nat)).1) b.m0).bind λm0 =>
   (if decide (st.ZC 15 0 (Yc b.comp)=1)=true then Y8 (mm:Nat) (Y2 (mm:Nat) (Zz G b r1).1) b.m1 else .done b.m1).bind λm1 =>
   T6 (decide (st.ZC 15 0 (Yc b.comp)=1)) {b with comp:=decide (st.ZC 15 0 (Yc b.comp)=1),r0:=(r0:Nat),r1:=r1,mm:=(mm:Nat),m0:=m0,m1:=m1}).exec (st.sym 15 0 (Yc b.comp)):=rfl
 obtain⟨cm,I2⟩:∃cm,cm=decide (st.ZC 15 0 (Yc b.comp)=1):=⟨_,rfl⟩
 obtain⟨T5,SZ⟩:∃z,z=st.sym 15 0 (Yc b.comp):=⟨_,rfl⟩
 rw[<-I2,<-SZ]at R1;rw[<-I2]at cw;rw[<-I2,<-SZ]at tQ;have w1:T5.sd.writes=st.sd.writes:=by rw[SZ];exact St.YG _ _ _ _
 obtain⟨b1,VJ⟩:∃b1:Bk,b1={b with comp:=cm}:=⟨_,rfl⟩
 have R1:Se P h c q t 42 (m+1) T5 b1.cs h1:=by rw[VJ];exact R1
 have BA:KW 51 [.ptr q 0,.int .i64 15,.int .i64 0,.ptr t 13] h=some (.ret (.Zt []),h1):=a1;have LH:h1.Ze t 0 23=some b1.cs:=by rw[ZU R1.box (by simp)];rfl
 obtain⟨_,h2,a2,rfl,x2⟩:=(Oh b1 h1).elim;have c1:b1.comp=cm:=by rw[VJ]
 have start:Se P h c q t 42 (m+1+0) (AJ b1 T5 0).2 (AJ b1 T5 0).1.cs h2:=⟨R1.co.ext x2,(x2.get t (H.ZW R1.box)).trans R1.box,R1.kp.trans (Kp.of x2 λi hi=>R1.co.lt i hi.1)⟩
 have br:b1.r0=b.r0/\b1.r1=b.r1:=by rw[VJ];exact⟨rfl,rfl⟩
 obtain⟨n,hn⟩:∃n:Nat,n=if cm=true then 2 else 1:=⟨_,rfl⟩
 have rG:(if b1.comp=true then (2:Int)else 1)=(n:Nat):=by rw[hn,c1];split<;>rfl
 rw[rG]at a2;have U0:1<=n/\n<=2:=by rw[hn];split<;>omega
 have sec:st.sd.writes=true->cm=true->(0<=b.r1/\b.r1<=2)/\Y5 b.m1:=λh hc=>by
  have:=(hw h).1.2.2.2.2.2;unfold X9 at this;rw[<-cw h,if_pos hc]at this;exact⟨this.1,this.2.1⟩
 obtain⟨Q,hQ⟩:∃Q:V->H->Prop,Q=λw h'=>w=.Zt []/\BqN P h c q t (m+60) st b ((YM (Zz G b) b).exec st) h':=⟨_,rfl⟩
 rw[<-hQ];rw[W3 r54,s54];simp[BA,LH,a2];refine XV (C:=λo=>RT Q (fin Tryz.prog _ _ (sq (Y9 0 o) _))) _ _ (vG (P:=P) (h0:=h) (c:=c) (q:=q) (t:=t) (g:=g) (m:=m+1) (n:=n) (b:=b1) (st:=T5) pt nt U0.2 (by omega) (by rw[br.1,br.2];exact sm.r) (λh=>by
  rw[w1]at h;rw[br.1,br.2];exact⟨(hw h).1.2.1,λe=>(sec h (by rw[hn]at e;cases hc:cm with|true=>rfl|false=>rw[hc]at e;simp at e)).1⟩)) n ⟨Nat.le_refl _,by rw[Nat.sub_self];exact⟨start,by simp,by simp,by simp,by simp,by simp⟩⟩ ?_
 rintro⟨sx,se,sh⟩ ⟨s1,R2,e0,e1,e2,AK,kR⟩;simp only at s1 R2 e0 e1 e2 AK kR;subst s1;obtain⟨b2,Yv⟩:∃z,z=(AJ b1 T5 n).1:=⟨_,rfl⟩
 obtain⟨Xz,Tz⟩:∃z,z=(AJ b1 T5 n).2:=⟨_,rfl⟩
 rw[<-Yv,<-Tz]at R2;have Ql:sh.Ze t 0 23=some b2.cs:=by rw[ZU R2.box (by simp)];rfl
 obtain⟨_,h3,a3,rfl,x3⟩:=(Oh b2 sh).elim;have b2c:b2.comp=cm:=by rw[Yv,VJ];rcases (by omega:n=1\/n=2)with h|h<;>rw[h]<;>rfl
 have yqs:(if b2.comp=true then (2:Int)else 1)=(n:Nat):=by rw[hn,b2c];split<;>rfl
 rw[yqs]at a3;have R3:Se P h c q t 42 (m+3) Xz b2.cs h3:=⟨(R2.co.ext x3).more (by omega) (by omega),(x3.get t (H.ZW R2.box)).trans R2.box,R2.kp.trans (Kp.of x3 λi hi=>R2.co.lt i hi.1)⟩
 have w2:Xz.sd.writes=st.sd.writes:=by
  rw[Tz,<-w1];rcases (by omega:n=1\/n=2)with h|h<;>rw[h]
  .exact St.YG _ _ _ _
  .exact (St.YG _ _ _ _).trans (St.YG _ _ _ _)
 have Ii:ZD b2=ZD b:=by rw[Yv,VJ];rcases (by omega:n=1\/n=2)with h|h<;>rw[h]<;>rfl
 have f2:b2.skip=b.skip/\b2.inter=b.inter/\b2.tx=b.tx/\b2.mm=b.mm/\b2.m0=b.m0/\b2.m1=b.m1/\b2.fl=b.fl/\b2.ob=b.ob:=by
  rw[Yv,VJ];rcases (by omega:n=1\/n=2)with h|h<;>rw[h]<;>exact⟨rfl,rfl,rfl,rfl,rfl,rfl,rfl,rfl⟩
 have sv0:T5.ZC 14 0 b.r0<3:=St.YF R1.co.ok.1 (k:=14) (by decide) (by decide) (λh=>by have:=(hw (by rw[<-w1];exact h)).1.2.1;show _/\_<((3:Nat):Int);omega);have r0b:0<=b2.r0/\b2.r0<=2:=by
  have:b2.r0=(T5.ZC 14 0 b.r0:Nat):=by rw[Yv,VJ];rcases (by omega:n=1\/n=2)with h|h<;>rw[h]<;>rfl
  omega
 have r0w:st.sd.writes=true->b2.r0=b.r0:=λh=>by
  have e:b2.r0=(T5.ZC 14 0 b.r0:Nat):=by rw[Yv,VJ];rcases (by omega:n=1\/n=2)with h|h<;>rw[h]<;>rfl
  rw[e,St.Yx (by rw[w1];exact h)];have:=(hw h).1.2.1;omega
 have Oo:=O4 G Ii;have tv:Zl D h3 g G:=oT R3.kp;have ig2:=ig.MC Ii
 -- the first wh
 obtain⟨S,hS⟩:∃S,S=Xz.ZC 16 (Zz G b b2.r0).2 b.mm:=⟨_,rfl⟩
 obtain⟨SY,qJ⟩:∃z,z=Xz.sym 16 (Zz G b b2.r0).2 b.mm:=⟨_,rfl⟩
 have w3:SY.sd.writes=st.sd.writes:=by rw[qJ,St.YG,w2]
 have iw:Xz.sd.writes=true->(0<=b2.mm/\b2.mm<=3)/\if b2.mm=3 then Y5 b2.m0 else b2.m0=Y2 b2.mm (Zz G b2 b2.r0).1:=λh=>by
  rw[w2]at h;obtain⟨⟨z,q1,q2,q3,q4,q5⟩,ag⟩:=hw h;rw[f2.2.2.2.1,f2.2.2.2.2.1,Oo,r0w h];refine⟨q2,?_⟩;split
  .exact q3
  .rename_i h3;exact (ag z.1 h3).1
 have Sw:st.sd.writes=true->((S:Nat):Int)=b.mm:=λh=>by rw[hS,St.Yx (by rw[w2];exact h)];have:=(hw h).1.2.2.1;omega
 have it0:=λ(e:E) (he:E34 q g t n 0 e)=>(vI (n:=n) R3.co tv R3.box pt nt ig2 r0b (by omega) (by omega) (by rw[f2.2.2.2.1];exact sm.mm) (by rw[f2.2.2.2.2.1];exact sm.m0) iw he)
 rw[Oo,f2.2.2.2.1,f2.2.2.2.2.1,<-hS,<-qJ]at it0;have Ju:(YM (Zz G b) b).exec st=((Y8 (S:Nat) (Y2 (S:Nat) (Zz G b b2.r0).1) b.m0).bind λm0=>(if cm=true then Y8 (S:Nat) (Y2 (S:Nat) (Zz G b b2.r1).1) b.m1 else .done b.m1).bind λm1=>T6 cm {b2 with mm:=(S:Nat),m0:=m0,m1:=m1}).exec SY:=by
  rw[tQ];cases hc:cm with
  |true =>
   have e:n=2:=by rw[hn,hc];rfl
   rw[qJ,hS,Tz,Yv,e,VJ,hc];rfl
  |false =>
   have e:n=1:=by rw[hn,hc];rfl
   rw[qJ,hS,Tz,Yv,e,VJ,hc];rfl
 obtain⟨Pos,Uy⟩:∃Pos:H->Prop,Pos=λg4 =>
   (
    ∃bb VB,(YM (Zz G b) b).exec st=(T6 cm bb).exec VB/\(st.sd.writes=true->bb=b)/\(ZD bb=ZD b/\bb.skip=b.skip/\bb.inter=b.inter/\bb.tx=b.tx/\bb.comp=cm/\bb.fl=b.fl)/\Se P h c q t 42 (m+58) VB bb.cs g4) \/
    (∃VB rr,(YM (Zz G b) b).exec st=(none,VB)/\st.sd.writes=false/\Co P g4 c q (m+58) VB 4/\g4.get t=some (.cells (rr:Bk).cs 42 false)/\rr.comp=cm/\Kp (λb=>P b/\b≠q/\b≠t) h g4):=⟨_,rfl⟩
 simp[e0,e1,e2,Ql,a3];refine wy (C:=λo=>RT Q (fin Tryz.prog _ _ o)) (λe g4=>(e.s Nc 0=.ptr q 0/\e.s Nc 2=.ptr t 0)/\Pos g4) (λe g4=>Q (.Zt []) g4) ?_ ?_ ?_
 .refine Cw (it0 _ ⟨by simp,by simp,by simp,by simp,by simp⟩) ?_
  rintro e4 g4 ⟨E4,V4⟩;generalize hV:(Y8 (S:Nat) (Y2 (S:Nat) (Zz G b b2.r0).1) b.m0).exec SY=RV at V4;obtain⟨r,VB⟩:=RV;cases r with
  |none =>
   rw[Pr.RH hV]at Ju;obtain⟨v1,v2,⟨rr,v3⟩,v4⟩:=V4;have Fz:=R3.kp.trans v4;rw[w3]at v1;cases hc:cm with
   |true =>
     have e:n=2:=by rw[hn,hc];rfl
     subst e;have hq:Q (.Zt []) g4:=by rw[hQ];refine⟨rfl,?_⟩;rw[Ju];exact⟨v1,v2.more (by omega) hm,⟨_,v3⟩,Fz⟩
     have q1:=ZZ (o:=1) v2.k;rw[Zi];simp[PD,E4.FD,E4.Db,E4.e0,q1,Ef];exact hq
   |false =>
     have e:n=1:=by rw[hn,hc];rfl
     subst e;have pos:Pos g4:=by
      rw[Uy];exact .inr ⟨VB,_,Ju,v1,v2.more (by omega) (by omega),v3,b2c,Fz⟩
     rw[Zi];simp[PD,E4.FD,E4.Db,Ef];exact⟨⟨by simp[E4.e0],by simp[E4.e2]⟩,pos⟩
  |some o9 =>
   rw[Pr.Zj hV]at Ju;obtain⟨v1,v2⟩:=V4;rw[w3]at v1;have w4:=(YS hV).trans w3;have b2w:st.sd.writes=true->({b2 with mm:=(S:Nat),m0:=o9,r1:=b.r1}:Bk)=b:=λh=>by
     rw[Sw h,v1 h];have e1:=r0w h;have e2:=cw h;have e3:({b2 with mm:=b.mm,m0:=b.m0,r1:=b.r1}:Bk)={b with comp:=cm,r0:=b2.r0}:=by
      rw[Yv,VJ];rcases (by omega:n=1\/n=2)with h|h<;>rw[h]<;>rfl
     rw[e3,e1,e2]
   cases hc:cm with
   |false =>
     have e:n=1:=by rw[hn,hc];rfl
     subst e;have pos:Pos g4:=by
      rw[Uy];refine .inl ⟨{b2 with mm:=(S:Nat),m0:=o9},VB,?_,λh=>?_,⟨Ii,f2.1,f2.2.1,f2.2.2.1,b2c,f2.2.2.2.2.2.2.1⟩,⟨v2.co.more (by omega) (by omega),v2.box,R3.kp.trans v2.kp⟩⟩
      .rw[Ju,hc,<-f2.2.2.2.2.2.1];rfl
      .have e1:b2.r1=b.r1:=by rw[Yv,VJ];rfl
       have e2:=b2w h;rw[<-e1]at e2;exact e2
     rw[Zi];simp[PD,E4.FD,E4.Db,Ef];exact⟨⟨by simp[E4.e0],by simp[E4.e2]⟩,pos⟩
   |true =>
     have e:n=2:=by rw[hn,hc];rfl
     subst e;have e2r:b2.r1=((T5.sym 14 0 b.r0).ZC 14 1 b.r1:Nat):=by rw[Yv,VJ];rfl
     have yqr:(T5.sym 14 0 b.r0).sd.writes=true->0<=b.r1/\b.r1<(vl 14:Nat):=λh=>by
      rw[St.YG,w1]at h;have:=(sec h hc).1;show _/\_<((3:Nat):Int);omega
     have sv1:(T5.sym 14 0 b.r0).ZC 14 1 b.r1<3:=St.YF (UL R1.co.ok.1 (by decide) (by decide)) (k:=14) (by decide) (by decide) yqr;have pf:0<=b2.r1/\b2.r1<=2:=by omega
     have r1w:st.sd.writes=true->b2.r1=b.r1:=λh=>by
      rw[e2r,St.Yx (by rw[St.YG,w1];exact h)];have:=(sec h hc).1;omega
     obtain⟨b3,Gk⟩:∃b3:Bk,b3={b2 with mm:=(S:Nat),m0:=o9}:=⟨_,rfl⟩
     have t4:g4.get t=some (.cells b3.cs 42 false):=by rw[Gk];exact v2.box
     have tO:ZD b3=ZD b:=by rw[Gk];exact Ii
     have f3:b3.r1=b2.r1/\b3.m1=b.m1/\b3.mm=(S:Nat):=by rw[Gk];exact⟨rfl,f2.2.2.2.2.2.1,rfl⟩
     have Fz:=R3.kp.trans v2.kp;have iw1:VB.sd.writes=true->if b3.mm=3 then Y5 b3.m1 else b3.m1=Y2 b3.mm (Zz G b3 b3.r1).1:=λh=>by
      rw[w4]at h;obtain⟨⟨z,q1,q2,q3,q4,q5⟩,ag⟩:=hw h;rw[O4 G tO,f3.1,f3.2.1,f3.2.2,r1w h,Sw h];split
      .exact (sec h hc).2
      .rename_i hm3;exact (ag z.1 hm3).2 (by rw[<-cw h,hc])
     refine Cw (vH v2.co (oT Fz) t4 pt nt (ig.MC tO) (by rw[f3.1];exact pf) (by omega) (by rw[f3.2.1];exact sm.m1) iw1 ⟨by simp[E4.e0],by simp[E4.e1],by simp[E4.e2],by simp[E4.Db],by simp[E4.FD]⟩) ?_;rw[O4 G tO,f3.1,f3.2.1,f3.2.2];rintro e5 g5 ⟨E5,V5⟩;rw[hc,if_pos rfl]at Ju;generalize hV1:(Y8 (S:Nat) (Y2 (S:Nat) (Zz G b b2.r1).1) b.m1).exec VB=RV at V5;obtain⟨r,Ux⟩:=RV;have pos:Pos g5:=by
      rw[Uy];cases r with
      |none =>
       rw[Pr.RH hV1]at Ju;obtain⟨u1,u2,⟨rr,u3⟩,u4⟩:=V5;rw[w4]at u1;refine .inr ⟨Ux,_,Ju,u1,u2.more (by omega) (by omega),u3,?_,Fz.trans u4⟩;rw[Gk];exact b2c
      |some m1' =>
       rw[Pr.Zj hV1]at Ju;obtain⟨u1,u2⟩:=V5;rw[w4]at u1;refine .inl ⟨{b3 with m1:=m1'},Ux,?_,λh=>?_,⟨tO,by rw[Gk];exact f2.1,by rw[Gk];exact f2.2.1,by rw[Gk];exact f2.2.2.1,by rw[Gk];exact b2c,by rw[Gk];exact f2.2.2.2.2.2.2.1⟩,⟨u2.co.more (by omega) (by omega),by have h:=u2.box;rw[<-f3.2.2,<-f3.1]at h;exact h,Fz.trans u2.kp⟩⟩
       .rw[Ju,Gk,hc]
       .rw[u1 h,<-f3.2.1,Gk]
        have e2:=b2w h;rw[<-r1w h]at e2;exact e2
     rw[Zi];simp[PD,E5.FD,E5.Db,Ef];exact⟨⟨by simp[E5.e0],by simp[E5.e2]⟩,pos⟩
 .rintro e g4 ⟨⟨e0,e2⟩,pos⟩
  rw[Uy]at pos;rcases pos with ⟨bb,VB,RN,wb,⟨s1,s2,s3,s4,s5,s6⟩,R4⟩|⟨VB,rr,RN,wb,co4,CY,rc4,Fz⟩
  .have w4:VB.sd.writes=st.sd.writes:=by
     have h1:=Vy (T6 cm bb) VB;have h2:=Vy (YM (Zz G b) b) st;rw[RN]at h2;exact h1.symm.trans h2
   have flw:VB.sd.writes=true->0<=bb.fl-0/\bb.fl-0<(vl 20:Nat):=λh=>by
     rw[w4]at h;have:=(hw h).1.2.2.2.2.1;rw[s6];show _/\_<((3:Nat):Int);omega
   obtain⟨_,g5,a5,rfl,R5⟩:=(Yt R4.co (t:=t) (o:=21) (k:=20) (x:=0) (v:=bb.fl) (f:=0) R4.box pt nt rfl (by omega) (by decide) (by decide) (by rw[s6];have:=sm.fl;omega) (by decide) flw).elim;rw[Int.sub_zero,Int.add_zero]at R5;have ph:KW 98 [.ptr q 0,.int .i64 20,.int .i64 0,.int .i64 0,.ptr t 21] g4=some (.ret (.Zt []),g5):=a5;have fw:st.sd.writes=true->((VB.ZC 20 0 bb.fl:Nat):Int)=bb.fl:=λh=>by
     have:=flw (by rw[w4];exact h);rw[St.Yx (by rw[w4];exact h)];omega
   obtain⟨f,hf⟩:∃f,f=VB.ZC 20 0 bb.fl:=⟨_,rfl⟩
   obtain⟨Ux,Li⟩:∃z,z=VB.sym 20 0 bb.fl:=⟨_,rfl⟩
   rw[<-hf,<-Li]at R5;rw[<-hf]at fw;have w5:Ux.sd.writes=st.sd.writes:=by rw[Li,St.YG,w4]
   obtain⟨b5,QX⟩:∃b5:Bk,b5={bb with fl:=(f:Nat)}:=⟨_,rfl⟩
   have R5:Se P g4 c q t 42 (m+58+1) Ux b5.cs g5:=by rw[QX];exact R5
   have cm5:g5.Zp t 13=some (.bool cm):=by rw[ZZ R5.box,QX,<-s5];rfl
   cases hc:cm with
   |true =>
     rw[hc]at cm5;have hq:Q (.Zt []) g5:=by
      rw[hQ];refine⟨rfl,?_⟩;rw[RN];have:(T6 cm bb).exec VB=(some b5,Ux):=by unfold T6;rw[hc,Pr.X2,<-hf,<-Li,QX];rfl
      rw[this];exact⟨λh=>by rw[QX,fw h];exact wb h,⟨by rw[QX];exact s1,by rw[QX];exact s2,by rw[QX];exact s3,by rw[QX];exact s4⟩,⟨R5.co.more (by omega) hm,R5.box,R4.kp.trans R5.kp⟩⟩
     simp[e0,e2,ph,cm5];exact hq
   |false =>
     rw[hc]at cm5;obtain⟨_,g6,a6,rfl,R6⟩:=(Rm R5.co (t:=t) (o:=22) (k:=21) (x:=0) (b:=bb.ob) R5.box pt nt (by rw[QX];rfl) (by omega) (by decide) (by decide) rfl).elim;have AX:KW 51 [.ptr q 0,.int .i64 21,.int .i64 0,.ptr t 22] g5=some (.ret (.Zt []),g6):=a6;have ow:st.sd.writes=true->decide (Ux.ZC 21 0 (Yc bb.ob)=1)=bb.ob:=λh=>by rw[St.Yx (by rw[w5];exact h)];cases bb.ob<;>rfl
     have hq:Q (.Zt []) g6:=by
      rw[hQ];refine⟨rfl,?_⟩;rw[RN];have:(T6 cm bb).exec VB=(some {b5 with ob:=decide (Ux.ZC 21 0 (Yc bb.ob)=1)},Ux.sym 21 0 (Yc bb.ob)):=by unfold T6;rw[hc,Pr.X2,<-hf,<-Li,QX];rfl
      rw[this];exact⟨λh=>by rw[QX,fw h,ow h];exact wb h,⟨by rw[QX];exact s1,by rw[QX];exact s2,by rw[QX];exact s3,by rw[QX];exact s4⟩,⟨R6.co.more (by omega) hm,by rw[R6.box];rfl,(R4.kp.trans R5.kp).trans R6.kp⟩⟩
     simp[e0,e2,ph,cm5,AX];exact hq
  .have er:=Pj co4.k (by decide) (.int .i64 20) (.int .i64 0) (.int .i64 0) (.ptr t 21)
   have cm4:g4.Zp t 13=some (.bool cm):=by rw[ZZ CY,<-rc4];rfl
   cases hc:cm with
   |true =>
     rw[hc]at cm4;have hq:Q (.Zt []) g4:=by
      rw[hQ];refine⟨rfl,?_⟩;rw[RN];exact⟨wb,co4.more (by omega) hm,⟨rr,CY⟩,Fz⟩
     simp[e0,e2,er,cm4];exact hq
   |false =>
     rw[hc]at cm4;obtain⟨_,g6,a6,rfl,x6⟩:=(Eo co4 (by decide) (t:=t) (o:=22) (b:=rr.ob) CY rfl (.int .i64 21) (.int .i64 0)).elim;have hq:Q (.Zt []) g6:=by
      rw[hQ];refine⟨rfl,?_⟩;rw[RN];exact⟨wb,(co4.ext x6).more (by omega) hm,⟨rr,(x6.get t (H.ZW CY)).trans CY⟩,Fz.trans (Kp.of x6 λi hi=>co4.lt i hi.1)⟩
     simp[e0,e2,er,cm4,a6];exact hq
 .intro e g4 hq
  simp;exact hq
open Go.Zf (ZS)
variable{Dg:Nat->Prop}
theorem QH(C:Zy D h c m st)(hm:m<100000000)(ga:Zl Dg h g G)(KV:∀b,Dg b->¬D b):
  RT (λw h'=>w=.int .i64 0/\Zy (grow D h h') h' c m st/\Mod D h h') (KW 40 [.ptr c 0,.ptr g 0] h):=by
 obtain⟨_,h1,a1,rfl,C1,M1⟩:=(JG C (n:=0) (v:=0) (by decide) (by omega) (λ_=>by decide)).elim;rw[Int.toNat_zero,St.zG]at C1;have BA:KW 84 [.ptr c 0,.int .i64 0,.int .i64 0] h=some (.ret (.Zt [.int .i64 (st.WG 0 0:Nat),.int .i64 0]),h1):=a1;have jf:=M1.n;have ga1:Zl Dg h1 g G:=ga.keep M1.n λb hb=>M1.get b (ga.hD b hb) (KV b hb);obtain⟨_,h2,a2,rfl,x2⟩:=(OL ga1 (x:=0) (y:=0) ⟨by decide,by decide,by decide,by decide,by decide,by decide⟩).elim;rw[if_pos (show Vd 0 0 by decide)]at a2;rw[W2 r40,s40];simp[BA,a2];refine⟨rfl,(C1.keep x2.n λb _ hb=>x2.get b hb).mono λb hb hd=>?_,⟨by have:=x2.n;omega,λb hb hd=>by rw[x2.get b (by omega),M1.get b hb hd]⟩⟩;rcases hd with hd|hd
 .exact .inl hd
 .exact .inr ⟨hd.1,hb⟩
abbrev FW:List Nat:=[0,1,2,3,4,7,10,11,12,13,14,15,16,17]
structure E10(c g q t t0:Nat)(key ll:Bool)(sc ic:Nat)(e:E):Prop where
 e0:e.s FW 0=.ptr c 0
 e1:e.s FW 1=.ptr g 0
 e3:e.s FW 3=.bool key
 e4:e.s FW 4=.bool ll
 e7:e.s FW 7=.ptr t 0
 Yu:e.s FW 10=.ptr t0 0
 TS:e.s FW 13=.int .i64 (sc:Nat)
 OC:e.s FW 15=.int .i64 (ic:Nat)
 EG:e.s FW 17=.ptr q 0
@[simp] theorem xqQ(c:Nat):bl [.Zh,.int .i64 0] [(some (0,1),.ptr c 0)]=some (.agg [.ptr c 0,.int .i64 0]):=id rfl
def lu(D:Nat->Prop)(h:H)(c m:Nat)(R:Option Bk×St)(w:V)(h':H):Prop :=
 Zy (grow D h h') h' c m R.2/\Mod D h h'/\w=(match R.1 with|some r=>.Zt [r.v,.int .i64 0]|none=>.Zt [YC.v,.int .i64 4])
def AV(wr:Bool)(b:Bk):Bk:=if wr then b else ZD b
theorem Ed(wr:Bool)(b:Bk):ZD (AV wr b)=ZD b:=by cases wr<;>rfl
variable{key:Bool}
theorem FV(mb:WE key ll b):Sc b/\RQ b:=by
 obtain⟨sh,nk,si,hi⟩:=mb;cases it:b.inter with
 |true =>
  rw[it,if_pos rfl]at hi;obtain⟨⟨_,z2,z3,z4,z5,z6,z7⟩,r,mm,v0,fl,sec⟩:=hi;unfold Y5 at v0;refine⟨⟨by omega,by omega,by omega,by omega,by omega,by omega⟩,⟨⟨by omega,?_⟩,by omega,by omega,⟨by omega,by omega⟩,?_⟩⟩
  .unfold X9 at sec
   cases hc:b.comp with
   |true=>rw[hc,if_pos rfl]at sec;omega
   |false=>rw[hc,if_neg (by decide)]at sec;omega
  .unfold X9 at sec
   cases hc:b.comp with
   |true=>rw[hc,if_pos rfl]at sec;have:=sec.2.1;unfold Y5 at this;exact⟨by omega,by omega⟩
   |false=>rw[hc,if_neg (by decide)]at sec;rw[sec.2];exact⟨by decide,by decide⟩
 |false =>
  rw[it,if_neg (by decide)]at hi;obtain⟨⟨_,z2,z3,z4,z5,z6,z7,z8,z9⟩,hy,hu,dy,du,hc⟩:=hi;unfold XX at dy du;refine⟨⟨by omega,by omega,by omega,by omega,?_,?_⟩,⟨⟨by omega,by omega⟩,by omega,by omega,by rw[z6];exact⟨by decide,by decide⟩,by rw[z7];exact⟨by decide,by decide⟩⟩⟩
  .unfold S3 at hc;split at hc<;>omega
  .unfold S3 at hc;split at hc<;>omega
theorem Cv(b:Bk):Sc (ZD b)/\RQ (ZD b):=by
 have z:(-1000:Int)<=0/\(0:Int)<=1000:=by decide
 have y:(-5000:Int)<=0/\(0:Int)<=5000:=by decide
 exact⟨⟨z,z,z,z,z,z⟩,⟨⟨z,z⟩,z,z,⟨y,y⟩,⟨y,y⟩⟩⟩
structure wqT(P:Nat->Prop)(hk:H)(c q t m:Nat)(st:St)(b:Bk)(h:H):Prop where
 R:Se P hk c q t 42 m st b.cs h
theorem Jp(C:Zy D h c m st)(hD:∀b,D b->b<h.n)(ga:Zl Dg h g G)(KV:∀b,Dg b->¬D b)(ig:PV G b)(hm:m+72<100000000)
  (hw:st.sd.writes=true->WE key ll b/\Yl (Zz G b) b) :
  RT (λw h'=>lu D h c (m+72) ((TY st.sd.writes key ll (Wd Bk.skip G b.x b.y) (Wd Bk.inter G b.x b.y) (Zz G b) (AV st.sd.writes b)).exec st) w h') (KW 13 [.ptr c 0,.ptr g 0,b.v,.bool key,.bool ll] h):=by
 obtain⟨h1,ZL⟩:∃z,z=h.new (.cells b.cs 42 false):=⟨_,rfl⟩
 obtain⟨h2,Zq⟩:∃z,z=h1.new (.cells YC.cs 42 false):=⟨_,rfl⟩
 have n1:h1.n=h.n+1:=by rw[ZL,H.ZP]
 have n2:h2.n=h1.n+1:=by rw[Zq,H.ZP]
 have x2:Ext h h2:=by rw[Zq,ZL];exact ((Ext.refl h).new _).new _
 have t2:h2.get h.n=some (.cells b.cs 42 false):=by rw[Zq,ZR (by omega),ZL,ZY]
 have z2:h2.get h1.n=some (.cells YC.cs 42 false):=by rw[Zq,ZY]
 have oh:¬D h.n/\¬D h1.n:=⟨λhd=>by have:=hD _ hd;omega,λhd=>by have:=hD _ hd;omega⟩
 have C2:Zy D h2 c m st:=C.keep x2.n λb _ hb=>x2.get b hb;obtain⟨_,h3,a3,rfl,C3,M3⟩:=(QH C2 (by omega) (ga.ext x2) KV).elim;have M3n:=M3.n;have t3:h3.get h.n=_:=(M3.get _ (by omega) oh.1).trans t2;have z3:h3.get h1.n=_:=(M3.get _ (by omega) oh.2).trans z2;have tv:Zl Dg h3 g G:=(ga.ext x2).keep M3.n λb hb=>M3.get b ((ga.ext x2).hD b hb) (KV b hb);have RC:∀o,h3.Zp h.n o=b.cs[o]?:=λo=>ZZ t3;obtain⟨_,h4,a4,rfl,x4⟩:=(OL tv ig.pl).elim;rw[if_pos ig.i1]at a4;have t4:h4.get h.n=_:=(x4.get _ (H.ZW t3)).trans t3;have SB:∀o,h4.Zp h.n o=b.cs[o]?:=λo=>ZZ t4;obtain⟨_,h5,a5,rfl,x5⟩:=(Mx (tv.ext x4) ig.pl).elim;rw[if_pos ig.i1]at a5;have t5:h5.get h.n=_:=(x5.get _ (H.ZW t4)).trans t4;have zo:h5.Ze h.n 0 23=some b.cs:=by rw[ZU t5 (by simp)];rfl
 obtain⟨_,h6,a6,rfl,x6⟩:=(SA b h5).elim;have B2:=(x4.trans x5).trans x6;have C6:Zy (grow D h2 h3) h6 c m st:=C3.keep B2.n λb _ hb=>B2.get b hb;have qs:=Ug C6;have t6:h6.get h.n=_:=(x6.get _ (H.ZW t5)).trans t5;have z6:h6.get h1.n=_:=(B2.get _ (H.ZW z3)).trans z3;have hJ:h6.Ze h.n 0 23=some b.cs:=by rw[ZU t6 (by simp)];rfl
 have WqQ:=B2.n;obtain⟨sc,oS⟩:∃z,z=Wd Bk.skip G b.x b.y:=⟨_,rfl⟩
 obtain⟨ic,pP⟩:∃z,z=Wd Bk.inter G b.x b.y:=⟨_,rfl⟩
 have sc3:sc<3:=by rw[oS];exact Ro _ _ _ _
 have ic3:ic<3:=by rw[pP];exact Ro _ _ _ _
 rw[<-oS]at a4;rw[<-pP]at a5;rw[<-oS,<-pP];obtain⟨RR,qZ⟩:∃z,z=(TY st.sd.writes key ll sc ic (Zz G b) (AV st.sd.writes b)).exec st:=⟨_,rfl⟩
 rw[<-qZ];obtain⟨Q,hQ⟩:∃Q:V->H->Prop,Q=λw h'=>lu D h c (m+72) RR w h':=⟨_,rfl⟩
 rw[<-hQ];have ga6:=tv.ext B2;obtain⟨b0,Qw⟩:∃z,z=AV st.sd.writes b:=⟨_,rfl⟩
 have DN:ZD b0=ZD b:=by rw[Qw];exact Ed _ _
 rw[W5 uH,qt];simp[bx,nw,<-ZL,<-Zq,a3,RC,a4,SB,a5];refine Ym (C:=λo=>RT Q (fin Tryz.prog _ _ o)) (λe g'=>((e.s FW 0=.ptr c 0/\e.s FW 1=.ptr g 0/\e.s FW 3=.bool key/\e.s FW 4=.bool ll/\e.s FW 7=.ptr h.n 0)/\e.s FW 10=.ptr h1.n 0/\e.s FW 13=.int .i64 (sc:Nat)/\e.s FW 15=.int .i64 (ic:Nat)) /\
  Zy (grow D h2 h3) g' c m st/\h6.n<=g'.n/\g'.get h.n=some (.cells b0.cs 42 false)/\∀x,x<h6.n->x≠h.n->g'.get x=h6.get x) ?_ ?_
 .cases WH:st.sd.writes with
  |false =>
   have e0:b0=ZD b:=by rw[Qw,WH];rfl
   obtain⟨_,h7,a7,rfl,x7⟩:=(Qo b h6).elim;have t7:h7.get h.n=_:=(x7.get _ (H.ZW t6)).trans t6;have w7:h7.X4 h.n 0 (ZD b).cs=some (h7.put h.n (.cells (ZD b).cs 42 false)):=by
     rw[ZF t7 (by simp)];have:splice b.cs 0 (ZD b).cs=(ZD b).cs:=by simp[splice]
     rw[this]
   rw[WH]at qs;have C8:Zy (grow D h2 h3) (h7.put h.n (.cells b0.cs 42 false)) c m st:=(C6.keep x7.n λb _ hb=>x7.get b hb).keep (by rw[H.ZJ];exact Nat.le_refl _) λb hb Yv=>ZX (by
     rintro rfl;rcases hb with hb|hb
     .exact oh.1 hb
     .omega)
   simp[zo,a6,ig.sh,qs,hJ,a7,w7,XG];rw[<-e0];exact⟨C8,by rw[H.ZJ];exact x7.n,ZV (H.ZW t7),λx hx hxt=>by rw[ZX hxt,x7.get x hx]⟩
  |true =>
   have e0:b0=b:=by rw[Qw,WH];rfl
   obtain⟨mb,ag⟩:=hw WH;obtain⟨_,h7,a7,rfl,x7⟩:=(Mw b key ll h6).elim;rw[if_pos mb]at a7;have t7:h7.get h.n=_:=(x7.get _ (H.ZW t6)).trans t6;have rb7:h7.Ze h.n 0 23=some b.cs:=by rw[ZU t7 (by simp)];rfl
   obtain⟨_,h8,a8,rfl,x8⟩:=(NW (ga6.ext x7) ig (λhi=>by have:=mb.2.2.2;rw[hi]at this;exact this)).elim;have x68:=x7.trans x8;rw[WH]at qs;simp only[ag,decide_true]at a8;simp[zo,a6,ig.sh,qs,hJ,a7,rb7,a8,XG];rw[e0];exact⟨C6.keep x68.n λb _ hb=>x68.get b hb,x68.n,(x8.get _ (H.ZW t7)).trans t7,λx hx _=>x68.get x hx⟩
 rintro e g' ⟨⟨⟨e0,e1,e3,e4,e7⟩,Yu,TS,OC⟩,Cg,gn,tg,keep⟩;obtain⟨hk,qI⟩:∃z,z=g'.new (.cells [.ptr c 0,.int .i64 0] 113 false):=⟨_,rfl⟩
 have nk:hk.n=g'.n+1:=by rw[qI,H.ZP]
 have xk:Ext g' hk:=by rw[qI];exact (Ext.refl g').new _
 have kk:hk.get g'.n=some (.cells [.ptr c 0,.int .i64 0] 113 false):=by rw[qI,ZY]
 obtain⟨P,hP⟩:∃P:Nat->Prop,P=λx=>x<hk.n/\¬grow D h2 h3 x:=⟨_,rfl⟩
 obtain⟨q,KS⟩:∃q,q=g'.n:=⟨_,rfl⟩
 obtain⟨t,Kv⟩:∃t,t=h.n:=⟨_,rfl⟩
 rw[<-KS]at nk kk;rw[<-Kv]at e7 tg keep;have nG:∀x,(x=q\/x=t\/x=h1.n)->¬grow D h2 h3 x:=by
  rintro x hx (hd|hd)
  .have:=hD x hd;omega
  .omega
 have Pq:P q:=by rw[hP];exact⟨by omega,nG q (.inl rfl)⟩
 have Pt:P t:=by rw[hP];exact⟨by omega,nG t (.inr (.inl rfl))⟩
 have P0:P h1.n:=by rw[hP];exact⟨by omega,nG _ (.inr (.inr rfl))⟩
 have zW:t≠q:=by omega
 have Ck:Co P hk c q m st 0:=⟨⟨grow D h2 h3,Cg.keep xk.n λb _ hb=>xk.get b hb,λb hb=>⟨by
   rcases hb with hb|hb
   . have:=hD b hb;omega
   . omega,by rw[hP];exact λhp=>hp.2 hb⟩⟩,kk,Pq,λb hb=>by rw[hP]at hb;exact hb.1⟩
 have tk:hk.get t=some (.cells b0.cs 42 false):=(xk.get t (H.ZW tg)).trans tg;have zk:hk.get h1.n=some (.cells YC.cs 42 false):=by rw[xk.get _ (by omega),keep _ (by omega) (by omega)];exact z6
 have dP:∀x,Dg x->P x/\x≠q/\x≠t:=λx hx=>by
  have:=ga.hD x hx;have ng:¬grow D h2 h3 x:=by
   rintro (hd|hd)
   . exact KV x hx hd
   . omega
  exact⟨by rw[hP];exact⟨by omega,ng⟩,by omega,by omega⟩
 have gak:Zl Dg hk g G:=ga6.keep (by omega) λx hx=>by
  have:=ga.hD x hx;rw[xk.get x (by omega),keep x (by omega) (by omega)]
 have ig0:PV G b0:=ig.MC DN;have small:Sc b0/\RQ b0:=by
  rw[Qw];cases WH:st.sd.writes with
  |false=>exact Cv b
  |true=>exact FV (hw WH).1
 have xR:st.sd.writes=true->WE key ll b0/\Yl (Zz G b0) b0:=λh=>by
  have:b0=b:=by rw[Qw,h];rfl
  rw[this];exact hw h
 -- what a BqM end says
 have done:∀{hE hF:H} {r:Option Bk} {Py:St} {eE:Int} {w:V},RR=(r,Py)->Co P hE c q (m+72) Py eE->Kp (λb=>P b/\b≠q/\b≠t) hk hE->(hF.n=hE.n/\∀x,x≠h1.n->hF.get x=hE.get x)->w=(match r with|some r=>.Zt [r.v,.int .i64 0]|none=>.Zt [YC.v,.int .i64 4])->Q w hF:=by
  intro hE hF r Py eE w hr co kp hf WH;rw[hQ];have kpn:=kp.n;obtain⟨⟨D',C',hD'⟩,k,pq,lt⟩:=co;refine⟨?_,⟨by omega,λx hx Ap=>?_⟩,by rw[hr];exact WH⟩
  .rw[hr]
   refine (C'.keep (by omega) λx hx _=>hf.2 x (by rintro rfl;exact (hD' _ hx).2 P0)).mono λx hx Ap=>?_;have h1:=hD' x Ap;rw[hP]at h1;by_cases hxk:x<hk.n
   . have:grow D h2 h3 x:=Classical.byContradiction λhc=>h1.2 ⟨hxk,hc⟩
     rcases this with hd|hd
     .exact .inl hd
     .exact .inr ⟨by omega,hx⟩
   . exact .inr ⟨by omega,hx⟩
  .have hPx:P x:=by
     rw[hP];refine⟨by omega,?_⟩;rintro (hd|hd)
     .exact Ap hd
     .omega
   rw[hf.2 x (by omega),kp.get x ⟨hPx,by omega,by omega⟩,xk.get x (by omega),keep x (by omega) (by omega),B2.get x (by omega),M3.get x (by omega) Ap,x2.get x hx]
 -- the flags
 obtain⟨_,k1,b1,rfl,R1⟩:=(Rm Ck (t:=t) (o:=4) (k:=2) (x:=sc) (b:=b0.skip) tk Pt zW rfl (by omega) (by decide) sc3 rfl).elim;have lA:st.sd.writes=true->decide (st.ZC 2 sc (Yc b0.skip)=1)=b0.skip:=λh=>by rw[St.Yx h];cases b0.skip<;>rfl
 have RN:RR=((if key then Pr.done b0.inter else Sg 3 ic b0.inter).bind λit=>(if it then Pr.done {b0 with skip:=decide (st.ZC 2 sc (Yc b0.skip)=1),inter:=it}else Xd {b0 with skip:=decide (st.ZC 2 sc (Yc b0.skip)=1),inter:=it}).bind λb1 =>
   (Vb st.sd.writes ll b1).bind λtx=>if it then YM (Zz G b) {b1 with tx:=tx}else Pr.done {b1 with tx:=tx}).exec (st.sym 2 sc (Yc b0.skip)):=by
  rw[qZ,<-Qw];rfl
 obtain⟨sk,CD⟩:∃z,z=decide (st.ZC 2 sc (Yc b0.skip)=1):=⟨_,rfl⟩
 obtain⟨T5,SZ⟩:∃z,z=st.sym 2 sc (Yc b0.skip):=⟨_,rfl⟩
 rw[<-CD,<-SZ]at R1 RN;rw[<-CD]at lA;have w1:T5.sd.writes=st.sd.writes:=by rw[SZ];exact St.YG _ _ _ _
 obtain⟨zT,Lh⟩:∃z:Bk,z={b0 with skip:=sk}:=⟨_,rfl⟩
 have R1:Se P hk c q t 42 (m+1) T5 zT.cs k1:=by rw[Lh];exact R1
 have dY:KW 51 [.ptr q 0,.int .i64 2,.int .i64 (sc:Nat),.ptr t 4] hk=some (.ret (.Zt []),k1):=b1;simp[e0,bx,<-qI,<-KS,e7,TS,dY];obtain⟨vF,Nv⟩:∃Pos:H->Prop,∀k2,Pos k2↔(∃it Xz,(if key then Pr.done b0.inter else Sg 3 ic b0.inter).exec T5=(some it,Xz)/\(st.sd.writes=true->it=b0.inter)/\(key=true->it=false)/\Se P hk c q t 42 (m+2) Xz ({zT with inter:=it}:Bk).cs k2):=⟨_,λ_=>Iff.rfl⟩
 refine Ym (C:=λo=>RT Q (fin Tryz.prog _ _ o)) (λe k2=>E10 c g q t h1.n key ll sc ic e/\vF k2) ?_ ?_
 .cases Lg:key with
  |true =>
   have i0:b0.inter=false:=by
     cases WH:st.sd.writes with
     |false=>rw[Qw,WH];rfl
     |true =>
      cases hi:b0.inter with
      |false=>rfl
      |true=>exact ((xR WH).1.2.1 ⟨hi,Lg⟩).elim
   have pos:=(Nv k1).2 ⟨b0.inter,T5,by rw[Lg];rfl,λ_=>rfl,λ_=>i0,by
     have:({zT with inter:=b0.inter}:Bk)=zT:=by rw[Lh]
     rw[this];exact R1.more (by omega) (by omega)⟩
   rw[Lg]at e3;simp[e3,XG];exact⟨⟨by simp[e0],by simp[e1],by simp[e3],by simp[e4],by simp[e7],by simp[Yu],by simp[TS],by simp[OC],by simp⟩,pos⟩
  |false =>
   obtain⟨_,k2,b2,rfl,R2⟩:=(Rm R1.co (t:=t) (o:=5) (k:=3) (x:=ic) (b:=b0.inter) R1.box Pt zW (by rw[Lh];rfl) (by omega) (by decide) ic3 rfl).elim;have jS:KW 51 [.ptr q 0,.int .i64 3,.int .i64 (ic:Nat),.ptr t 5] k1=some (.ret (.Zt []),k2):=b2;have pos:=(Nv k2).2 ⟨_,_,by rw[Lg];rfl,λh=>by rw[St.Yx (by rw[w1];exact h)];cases b0.inter<;>rfl,(λh=>by rw[Lg]at h;cases h),R1.trans R2⟩;rw[Lg]at e3;simp[e3,e7,OC,jS,XG];exact⟨⟨by simp[e0],by simp[e1],by simp[e3],by simp[e4],by simp[e7],by simp[Yu],by simp[TS],by simp[OC],by simp⟩,pos⟩
 rintro e k2 ⟨E,pos⟩;obtain⟨it,Xz,exI,wi,ki,R2⟩:=(Nv k2).1 pos;obtain⟨PO,Kr⟩:∃z:Bk,z={zT with inter:=it}:=⟨_,rfl⟩
 rw[<-Kr]at R2;rw[Pr.Zj exI]at RN;have w2:Xz.sd.writes=st.sd.writes:=(YS exI).trans w1;have RM:PO={b0 with skip:=sk,inter:=it}:=by rw[Kr,Lh]
 rw[<-RM]at RN;have Ii:ZD PO=ZD b:=by rw[RM];exact DN
 have kQ:st.sd.writes=true->PO=b0:=λh=>by rw[RM,lA h,wi h]
 have i5:k2.Zp t 5=some (.bool it):=by rw[ZZ R2.box,Kr];rfl
 have AI:Sc PO/\RQ PO:=by rw[RM];exact⟨small.1,⟨small.2.r,small.2.mm,small.2.fl,small.2.m0,small.2.m1⟩⟩
 have i2:PO.inter=it:=by rw[Kr]
 -- BqL
 obtain⟨vE,Nu⟩:∃Pos:H->Prop,∀k3,Pos k3↔(∃LM SY,(if it then Pr.done PO else Xd PO).exec Xz=(some LM,SY)/\(st.sd.writes=true->LM=b0)/\(ZD LM=ZD b/\LM.skip=PO.skip/\LM.inter=it/\LM.tx=PO.tx)/\(it=true->LM=PO)/\Se P hk c q t 42 (m+9) SY LM.cs k3):=⟨_,λ_=>Iff.rfl⟩
 refine Ym (C:=λo=>RT Q (fin Tryz.prog _ _ o)) (λe k3=>E10 c g q t h1.n key ll sc ic e/\vE k3) ?_ ?_
 .cases hit:it with
  |true =>
   have pos:=(Nu k2).2 ⟨PO,Xz,by rw[hit];rfl,kQ,⟨Ii,rfl,i2,rfl⟩,λ_=>rfl,R2.more (by omega) (by omega)⟩;rw[hit]at i5;simp[E.e7,i5,XG];exact⟨⟨by simp[E.e0],by simp[E.e1],by simp[E.e3],by simp[E.e4],by simp[E.e7],by simp[E.Yu],by simp[E.TS],by simp[E.OC],by simp[E.EG]⟩,pos⟩
  |false =>
   obtain⟨_,k3,b3,rfl,r,SY,x1,x2,x3,R3⟩:=(D5 R2.co R2.box Pt zW (by omega) (ig.MC Ii).sh AI.1 (λh=>by
     rw[w2]at h;rw[kQ h];have:=(xR h).1.2.2.2;rw[<-wi h,hit,if_neg (by decide)]at this;exact this)).elim
   have pos:=(Nu k3).2 ⟨r,SY,by rw[hit];exact x1,λh=>(x2 (by rw[w2];exact h)).trans (kQ h),⟨x3.1.trans Ii,x3.2.1,by rw[x3.2.2.1,i2],x3.2.2.2⟩,(λh=>by rw[hit]at h;cases h),R2.trans R3⟩;rw[hit]at i5;simp[E.e7,i5,E.EG,b3,XG];exact⟨⟨by simp[E.e0],by simp[E.e1],by simp[E.e3],by simp[E.e4],by simp[E.e7],by simp[E.Yu],by simp[E.TS],by simp[E.OC],by simp[E.EG]⟩,pos⟩
 rintro e k3 ⟨E,pos⟩;obtain⟨LM,SY,exJ,wb3,⟨tO,s31,s32,s33⟩,ib3,R3⟩:=(Nu k3).1 pos;rw[Pr.Zj exJ]at RN;have w3:SY.sd.writes=st.sd.writes:=(YS exJ).trans w2
 -- the size
 obtain⟨_,k4,b4,rfl,tx,VB,x1,x2,R4⟩:=(AN R3.co R3.box Pt zW (by omega) (ig.MC tO).sh ll (λh=>by
  rw[w3]at h;rw[wb3 h];exact (xR h).1.2.2.1)).elim
 rw[w3]at x1 x2;rw[Pr.Zj x1]at RN;have R4:=R3.trans R4;obtain⟨Cu,Le⟩:∃z:Bk,z={LM with tx:=tx}:=⟨_,rfl⟩
 rw[<-Le]at R4 RN;have w4:VB.sd.writes=st.sd.writes:=(YS x1).trans w3;have bw4:st.sd.writes=true->Cu=b0:=λh=>by rw[Le,x2 h,wb3 h]
 have sh4:ZD Cu=ZD b:=by rw[Le];exact tO
 have i45:k4.Zp t 5=some (.bool it):=by rw[ZZ R4.box,Le];show some (V.bool LM.inter)=_;rw[s32]
 simp[E.EG,E.e7,E.e4,b4]
 -- inter
 obtain⟨vD,Ld⟩:∃Pos:H->Prop,∀k5,Pos k5↔(∃r Ux eE,RR=(r,Ux)/\Co P k5 c q (m+72) Ux eE/\Kp (λb=>P b/\b≠q/\b≠t) hk k5/\(match r with|some r=>eE=0/\k5.get t=some (.cells r.cs 42 false)|none=>eE=4)):=⟨_,λ_=>Iff.rfl⟩
 refine Ym (C:=λo=>RT Q (fin Tryz.prog _ _ o)) (λe k5=>E10 c g q t h1.n key ll sc ic e/\vD k5) ?_ ?_
 .cases hit:it with
  |false =>
   rw[hit]at i45 RN;have pos:=(Ld k4).2 ⟨some Cu,VB,0,RN,R4.co.more (by omega) (by omega),R4.kp,rfl,R4.box⟩;simp[E.e7,i45,XG];exact⟨⟨by simp[E.e0],by simp[E.e1],by simp[E.e3],by simp[E.e4],by simp[E.e7],by simp[E.Yu],by simp[E.TS],by simp[E.OC],by simp[E.EG]⟩,pos⟩
  |true =>
   have C0:Cu={PO with tx:=tx}:=by rw[Le,ib3 hit]
   obtain⟨_,k5,b5,rfl,V5⟩:=(D3 R4.co (gak.keep R4.kp.n λx hx=>R4.kp.get x (dP x hx)) dP R4.box Pt zW (ig.MC sh4) (by omega) (by rw[C0];exact⟨AI.2.r,AI.2.mm,AI.2.fl,AI.2.m0,AI.2.m1⟩) (λh=>by
     rw[w4]at h;rw[bw4 h];have:=(xR h).1.2.2.2;rw[<-wi h,hit,if_pos rfl]at this;exact⟨this,(xR h).2⟩)).elim
   rw[O4 G sh4]at V5;rw[hit]at i45 RN;have RN:RR=(YM (Zz G b) Cu).exec VB:=RN;generalize hV:(YM (Zz G b) Cu).exec VB=RV at V5 RN;obtain⟨r,Ux⟩:=RV;have pos:∃r Ux eE,RR=(r,Ux)/\Co P k5 c q (m+72) Ux eE/\Kp (λb=>P b/\b≠q/\b≠t) hk k5/\(match r with|some r=>eE=0/\k5.get t=some (.cells r.cs 42 false)|none=>eE=4):=by
     cases r with
     |some r=>exact⟨some r,Ux,0,RN,V5.2.2.co.more (by omega) (by omega),R4.kp.trans V5.2.2.kp,rfl,V5.2.2.box⟩
     |none=>exact⟨none,Ux,4,RN,V5.2.1.more (by omega) (by omega),R4.kp.trans V5.2.2.2,rfl⟩
   have pos':=(Ld k5).2 pos;simp[E.e7,i45,E.EG,E.e1,b5,XG];exact⟨⟨by simp[E.e0],by simp[E.e1],by simp[E.e3],by simp[E.e4],by simp[E.e7],by simp[E.Yu],by simp[E.TS],by simp[E.OC],by simp[E.EG]⟩,pos'⟩
 rintro e k5 ⟨E,pos⟩;obtain⟨r,Ux,eE,hr,co5,kp5,JV⟩:=(Ld k5).1 pos;have q1:=ZZ (o:=1) co5.k;have z5:k5.get h1.n=some (.cells YC.cs 42 false):=by rw[kp5.get h1.n ⟨P0,by omega,by omega⟩,zk]
 have zl:=H.ZW z5;have rdp:∀bq:Bk,(k5.put h1.n (.cells bq.cs 42 false)).Ze h1.n 0 23=some bq.cs:=λbq=>by rw[ZU (ZV zl) (by simp)];rfl
 cases r with
 |some r =>
  obtain⟨rfl,bx5⟩:=JV;have rt:k5.Ze t 0 23=some r.cs:=by rw[ZU bx5 (by simp)];rfl
  have w5:k5.X4 h1.n 0 r.cs=some (k5.put h1.n (.cells r.cs 42 false)):=by
   rw[ZF z5 (by simp)];have:splice YC.cs 0 r.cs=r.cs:=by simp[splice]
   rw[this]
  have hq:=done (w:=.Zt [r.v,.int .i64 0]) (hF:=k5.put h1.n (.cells r.cs 42 false)) hr co5 kp5 ⟨by rw[H.ZJ],λx hx=>ZX hx⟩ rfl;simp[E.EG,q1,E.e7,rt,E.Yu,w5,rdp];exact hq
 |none =>
  have JV:eE=4:=JV;subst JV;have w5:k5.X4 h1.n 0 YC.cs=some (k5.put h1.n (.cells YC.cs 42 false)):=by
   rw[ZF z5 (by simp)];rfl
  have hq:=done (w:=.Zt [YC.v,.int .i64 4]) (hF:=k5.put h1.n (.cells YC.cs 42 false)) hr co5 kp5 ⟨by rw[H.ZJ],λx hx=>ZX hx⟩ rfl;have qf:(k5.put h1.n (.cells YC.cs 42 false)).Zp q 1=some (.int .i64 4):=by
   have:=q1;unfold H.Zp at this ⊢;rw[ZX (by omega)];exact this
  simp[E.EG,q1,E.Yu,w5,qf,rdp];exact hq
open Go.Zf (ZS)
theorem AH(h:H):KW 39 [.int .i64 0,.int .i64 64] h=some (.ret (.bool true),h):=by
 rw[W2 r39,s39];simp[show IntKind.i64.wrap 64=64 by decide,show (0:Int).tmod 64=0 by decide,show (64:Int).tmod 8=0 by decide]
@[simp] theorem Wq7:bl [.int .i64 0,.int .i64 0,.int .i64 0,.int .i64 0] [(some (2,1),.int .i64 64),(some (3,1),.int .i64 64)]=some (.agg [.int .i64 0,.int .i64 0,.int .i64 64,.int .i64 64]):=id rfl
theorem qH(m:Nat):bl [.bool false,.int .i64 0,.int .i64 0,.int .i64 0,.int .i64 0,.ZO,.Sz] [(some (0,1),.bool true),(some (1,4),.agg [.int .i64 0,.int .i64 0,.int .i64 64,.int .i64 64]),(some (6,1),.map m)] =
  some (.agg [.bool true,.int .i64 0,.int .i64 0,.int .i64 64,.int .i64 64,.ZO,.map m]):=id rfl
def Nk:Gr:=⟨[],[]⟩
theorem DE(h:H):RT (λw h'=>∃g,w=.Zt [.ptr g 0,.int .i64 0]/\Zl (λb=>h.n<=b/\b<h'.n) h' g Nk/\Ext h h') (KW 10 [.agg [.int .i64 0,.int .i64 0,.int .i64 64,.int .i64 64]] h):=by
 obtain⟨h1,ZL⟩:∃z,z=h.new (.cells [.int .i64 0,.int .i64 0,.int .i64 64,.int .i64 64] 36 false):=⟨_,rfl⟩
 have n1:h1.n=h.n+1:=by rw[ZL,H.ZP]
 have x1:Ext h h1:=by rw[ZL];exact (Ext.refl h).new _
 have g1:h1.get h.n=some (.cells [.int .i64 0,.int .i64 0,.int .i64 64,.int .i64 64] 36 false):=by rw[ZL,ZY]
 have r0:=ZZ (o:=0) g1;have r1:=ZZ (o:=1) g1;have r2:=ZZ (o:=2) g1;have r3:=ZZ (o:=3) g1;have rn:h1.Ze h.n 0 4=some [.int .i64 0,.int .i64 0,.int .i64 64,.int .i64 64]:=by rw[ZU g1 (by simp)];rfl
 obtain⟨h2,Zq⟩:∃z,z=h1.new (.map []):=⟨_,rfl⟩
 have n2:h2.n=h1.n+1:=by rw[Zq,H.ZP]
 obtain⟨h3,Zc⟩:∃z,z=h2.new (.cells [.bool true,.int .i64 0,.int .i64 0,.int .i64 64,.int .i64 64,.ZO,.map h1.n] 83 false):=⟨_,rfl⟩
 have n3:h3.n=h2.n+1:=by rw[Zc,H.ZP]
 have x3:Ext h h3:=by rw[Zc,Zq];exact (x1.new _).new _
 rw[W1 r10,s10];simp[bx,<-ZL,r0,r1,r2,r3,AH,rn,fy,<-Zq,qH,<-Zc];exact⟨h2.n,rfl,⟨⟨.ZO,h1.n,by rw[Zc,ZY],by rw[Zc,ZR (by omega),Zq,ZY];rfl,Zv.nil _ _ _ _,⟨by omega,by omega⟩,⟨by omega,by omega⟩,by omega,λc o n k e=>by cases e⟩,⟨by simp[Nk],by simp[Nk],by simp[Nk]⟩,λb hb=>hb.2⟩,x3⟩
def OS:Bk:={YC with w:=8,h:=8,ym:=1,yd := -1,um:=13,cu:=3,tx:=8}
def PL:Bk:={YC with x:=8,w:=16,h:=8,skip:=true,inter:=true,r0:=2,mm:=3,m0:=(5,0),tx:=8}
theorem kP:bl YC.cs [(some (2,1),.int .i64 8),(some (3,1),.int .i64 8),(some (6,1),.int .i64 1),(some (7,1),.int .i64 (-1)),(some (8,1),.int .i64 13),(some (10,1),.int .i64 3),(some (12,1),.int .i64 8)]=some (.agg OS.cs):=id rfl
theorem kO:bl YC.cs [(some (0,1),.int .i64 8),(some (2,1),.int .i64 16),(some (3,1),.int .i64 8),(some (4,1),.bool true),(some (5,1),.bool true),(some (14,2),.agg [.int .i64 2,.int .i64 0]),(some (16,1),.int .i64 3),(some (17,4),.agg [.int .i64 5,.int .i64 0,.int .i64 0,.int .i64 0]),(some (12,1),.int .i64 8)]=some (.agg PL.cs):=id rfl
theorem BqK:bl [.int .i64 0,.int .i64 0] [(some (0,1),.int .i64 5)]=some (.agg [.int .i64 5,.int .i64 0]):=id rfl
theorem BqJ:bl [.int .i64 0,.int .i64 0,.int .i64 0,.int .i64 0] [(some (0,2),.agg [.int .i64 5,.int .i64 0])]=some (.agg [.int .i64 5,.int .i64 0,.int .i64 0,.int .i64 0]):=id rfl
theorem D7(h:H):RT (λw h'=>w=.Zt [OS.v,PL.v]/\Ext h h') (KW 31 [] h):=by
 obtain⟨h1,ZL⟩:∃z,z=h.new (.cells YC.cs 42 false):=⟨_,rfl⟩
 have n1:h1.n=h.n+1:=by rw[ZL,H.ZP]
 obtain⟨h2,Zq⟩:∃z,z=h1.new (.cells YC.cs 42 false):=⟨_,rfl⟩
 have n2:h2.n=h1.n+1:=by rw[Zq,H.ZP]
 have x2:Ext h h2:=by rw[Zq,ZL];exact ((Ext.refl h).new _).new _
 have g0:h2.get h.n=some (.cells YC.cs 42 false):=by rw[Zq,ZR (by omega),ZL,ZY]
 have w0:h2.X4 h.n 0 OS.cs=some (h2.put h.n (.cells OS.cs 42 false)):=by rw[ZF g0 (by simp)];rfl
 obtain⟨h3,Zc⟩:∃z,z=h2.put h.n (.cells OS.cs 42 false):=⟨_,rfl⟩
 have x3:Ext h h3:=by rw[Zc];exact x2.put (Nat.le_refl _) _
 have g1:h3.get h1.n=some (.cells YC.cs 42 false):=by rw[Zc,ZX (by omega),Zq,ZY]
 have w1:h3.X4 h1.n 0 PL.cs=some (h3.put h1.n (.cells PL.cs 42 false)):=by rw[ZF g1 (by simp)];rfl
 obtain⟨h4,Xs⟩:∃z,z=h3.put h1.n (.cells PL.cs 42 false):=⟨_,rfl⟩
 have x4:Ext h h4:=by rw[Xs];exact x3.put (by omega) _
 have r0:h4.Ze h.n 0 23=some OS.cs:=by rw[ZU (by rw[Xs,ZX (by omega),Zc,ZV (H.ZW g0)]) (by simp)];rfl
 have r1:h4.Ze h1.n 0 23=some PL.cs:=by rw[ZU (by rw[Xs,ZV (H.ZW g1)]) (by simp)];rfl
 rw[W0 r31,s31];simp[nw,<-ZL,<-Zq,kP,BqK,BqJ,kO,w0,<-Zc,w1,<-Xs,r0,r1];exact⟨rfl,x4⟩
theorem Bq3:WE false false OS:=by decide +kernel
theorem Bq2:WE false false PL:=by decide +kernel
open Go.Zf (ZS)
open Pr (Rd)
abbrev oq(wr key ll:Bool)(G:Gr)(b:Bk):Pr Bk:=TY wr key ll (Wd Bk.skip G b.x b.y) (Wd Bk.inter G b.x b.y) (Zz G b) (AV wr b)
theorem Zy.cut(a:Zy D h p m st):Zy (λb=>D b/\b<h.n) h p m st:=a.mono λb hb hd=>⟨hd,hb⟩
end Go.Proofs.YtbkmdnmncaakdaaGreat
