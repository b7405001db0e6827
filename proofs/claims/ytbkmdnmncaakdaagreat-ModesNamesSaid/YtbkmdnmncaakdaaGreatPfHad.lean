import Derived.Test.YtbkmdnmncaakdaaGreatPfMrb
import Derived.Test.YtbkmdnmncaakdaaGreatPfHy
import Derived.Test.YtbkmdnmncaakdaaGreatPfHg
set_option linter.unusedVariables false
set_option linter.unusedSimpArgs false
set_option maxRecDepth 20000
namespace Go.Proofs.YtbkmdnmncaakdaaGreat
open Go Go.Zf
open Go.Zf (ZS)
def uA(wr:Bool):Pr Bk:=TY wr false false (Wd Bk.skip Nk OS.x OS.y) (Wd Bk.inter Nk OS.x OS.y) (Zz Nk OS) (AV wr OS)
def uB(wr:Bool):Pr Bk:=TY wr false false (Wd Bk.skip Nk PL.x PL.y) (Wd Bk.inter Nk PL.x PL.y) (Zz Nk PL) (AV wr PL)
def Wa:St:=((uA true).exec (rX QC true)).2
def Wb:St:=((uB true).exec Wa).2
def bo:YX->List Nat
 |.w o l _=>bytes o l
 |_=>[]
def Ra:St:=((uA false).exec (E9 (bo Wb.sd) QC true)).2
def Rb:St:=((uB false).exec Ra).2
theorem wa_:(uA true).exec (rX QC true)=(some OS,Wa):=Prod.ext (by kernel_rfl) rfl
theorem yqW:Wa.n=8:=by kernel_rfl
theorem wb_:(uB true).exec Wa=(some PL,Wb):=Prod.ext (by kernel_rfl) rfl
theorem yqV:Wb.n=19:=by kernel_rfl
theorem wl_:decide ((bo Wb.sd).length<140737488355329)=true:=by kernel_rfl
theorem ra_:(uA false).exec (E9 (bo Wb.sd) QC true)=(some OS,Ra):=Prod.ext (by kernel_rfl) rfl
theorem rb_:(uB false).exec Ra=(some PL,Rb):=Prod.ext (by kernel_rfl) rfl
variable{D:Nat->Prop}{h:H}{c m g:Nat}{st:St}{G:Gr}{b:Bk}{key ll:Bool}
theorem HS(C:Zy D h c m st)(hD:∀b,D b->b<h.n){Dg:Nat->Prop}(ga:Zl Dg h g G)(KV:∀b,Dg b->¬D b)(ig:PV G b)(hm:m+72<100000000)
  (hw:st.sd.writes=true->WE key ll b/\Yl (Zz G b) b) {wr:Bool} (FF:st.sd.writes=wr) {r:Bk} {YI:St} (e:(TY wr key ll (Wd Bk.skip G b.x b.y) (Wd Bk.inter G b.x b.y) (Zz G b) (AV wr b)).exec st=(some r,YI)) :
  RT (λw h'=>w=.Zt [r.v,.int .i64 0]/\Zy (grow D h h') h' c (m+72) YI/\Mod D h h') (KW 13 [.ptr c 0,.ptr g 0,b.v,.bool key,.bool ll] h):=by
 refine (Jp C hD ga KV ig hm hw).mono λw h' ce=>?_;unfold lu at ce;rw[FF,e]at ce;exact⟨ce.2.2,ce.1,ce.2.1⟩
theorem BO(h:H):RT (λw h'=>w=.bool true/\Ext h h') (KW 7 [] h):=by
 obtain⟨_,h1,a1,v1,rfl,W1,x1⟩:=(Tf h).elim;obtain⟨_,h2,a2,p,rfl,C2,x2⟩:=(Gx W1.OB MU true).elim;have C2:=C2.cut;obtain⟨_,h3,a3,g,rfl,G3,x3⟩:=(DE h2).elim;obtain⟨_,h4,a4,rfl,x4⟩:=(D7 h3).elim;obtain⟨y1,zK⟩:∃z,z=h4.new (.cells YC.cs 42 false):=⟨_,rfl⟩
 have ny1:y1.n=h4.n+1:=by rw[zK,H.ZP]
 obtain⟨y2,FH⟩:∃z,z=y1.new (.cells YC.cs 42 false):=⟨_,rfl⟩
 have ny2:y2.n=h4.n+2:=by rw[FH,H.ZP,ny1]
 have ga2:y2.get h4.n=some (.cells YC.cs 42 false):=by rw[FH,ZR (by omega),zK,ZY]
 have gb2:y2.get y1.n=some (.cells YC.cs 42 false):=by rw[FH,ZY]
 obtain⟨y3,uu⟩:∃z,z=y2.put h4.n (.cells OS.cs 42 false):=⟨_,rfl⟩
 have s45:y2.X4 h4.n 0 OS.cs=some y3:=by rw[ZF ga2 (by simp),uu];rfl
 have gb3:y3.get y1.n=some (.cells YC.cs 42 false):=by rw[uu,ZX (by omega),gb2]
 obtain⟨h5,Vv⟩:∃z,z=y3.put y1.n (.cells PL.cs 42 false):=⟨_,rfl⟩
 have fq:y3.X4 y1.n 0 PL.cs=some h5:=by rw[ZF gb3 (by simp),Vv];rfl
 have n5:h5.n=h4.n+2:=by rw[Vv,H.ZJ,uu,H.ZJ,ny2]
 have x5:Ext h4 h5:=by rw[Vv,uu,FH,zK];exact (((((Ext.refl h4).new _).new _).put (Nat.le_refl _) _).put (by rw[H.ZP];omega) _)
 have m1:=x1.n;have m2:=x2.n;have m3:=x3.n;have m4:=x4.n;have gA5:h5.get h4.n=some (.cells OS.cs 42 false):=by rw[Vv,ZX (by omega),uu,ZV (H.ZW ga2)]
 have gB5:h5.get (h4.n+1)=some (.cells PL.cs 42 false):=by rw[Vv,<-ny1,ZV (H.ZW gb3)]
 have x35:=x4.trans x5;have x25:=x3.trans x35;have G5:=G3.ext x35;have C5:=C2.keep (h':=h5) x25.n λb _ hb=>x25.get b hb
 -- the first block
 have igA:PV Nk OS:=⟨by decide +kernel,by decide +kernel⟩
 have igB:PV Nk PL:=⟨by decide +kernel,by decide +kernel⟩
 have agA:Yl (Zz Nk OS) OS:=λh=>by cases h
 have agB:Yl (Zz Nk PL) PL:=λ_ h=>(h rfl).elim;obtain⟨_,h6,a6,rfl,C6,M6⟩:=(HS C5 (λb hb=>by omega) G5 (λb hb hd=>by omega) igA (by decide) (λ_=>⟨Bq3,agA⟩) (wr:=true) rfl wa_).elim;have M6n:=M6.n;have gA6:h6.get h4.n=_:=(M6.get _ (by omega) (λhd=>by omega)).trans gA5;have gB6:h6.get (h4.n+1)=_:=(M6.get _ (by omega) (λhd=>by omega)).trans gB5;have G6:=G5.keep M6.n λb hb=>M6.get b (by omega) (λhd=>by omega);obtain⟨T5,SZ⟩:∃z,z=Wa:=⟨_,rfl⟩
 have sw1:T5.sd.writes=true:=by rw[SZ];exact Vy _ _
 have cA:T5.n=8:=by rw[SZ];exact yqW
 rw[<-SZ]at C6;obtain⟨h7,Hu⟩:∃z,z=h6.new (.cells OS.cs 42 false):=⟨_,rfl⟩
 have n7:h7.n=h6.n+1:=by rw[Hu,H.ZP]
 have x7:Ext h6 h7:=by rw[Hu];exact (Ext.refl h6).new _
 have gX7:h7.get h6.n=some (.cells OS.cs 42 false):=by rw[Hu,ZY]
 have C7:=C6.keep x7.n λb _ hb=>x7.get b hb;have hc7:=Qs C7;rw[cA]at hc7;have hD7:∀b,grow (λb=>h1.n<=b/\b<h2.n) h5 h6 b->b<h7.n:=by rintro b (hb|hb)<;>omega
 -- the second
 obtain⟨_,h8,a8,rfl,C8,M8⟩:=(HS C7 hD7 (G6.ext x7) (λb hb hd=>by rcases hd with hd|hd<;>omega) igB (by decide) (λ_=>⟨Bq2,agB⟩) sw1 (by rw[SZ];exact wb_)).elim;have M8n:=M8.n;have nD7:∀b,h2.n<=b->b<h5.n->¬grow (λb=>h1.n<=b/\b<h2.n) h5 h6 b:=by rintro b h1 h2 (hb|hb)<;>omega
 have gA8:h8.get h4.n=_:=(M8.get _ (by omega) (nD7 _ (by omega) (by omega))).trans ((x7.get _ (by omega)).trans gA6);have gB8:h8.get (h4.n+1)=_:=(M8.get _ (by omega) (nD7 _ (by omega) (by omega))).trans ((x7.get _ (by omega)).trans gB6);have gX8:h8.get h6.n=_:=(M8.get _ (by omega) (by rintro (hb|hb)<;>omega)).trans gX7;have G8:=(G6.ext x7).keep M8.n λb hb=>M8.get b (by omega) (nD7 b (by omega) (by omega));obtain⟨Xz,Tz⟩:∃z,z=Wb:=⟨_,rfl⟩
 have sw2:Xz.sd.writes=true:=by rw[Tz,<-sw1,SZ];exact Vy _ _
 have cB:Xz.n=19:=by rw[Tz];exact yqV
 rw[<-Tz]at C8;obtain⟨o,lo,rn,SS⟩:∃o lo rn,Xz.sd=.w o lo rn:=by
  cases e:Xz.sd with
  |w o lo rn=>exact⟨o,lo,rn,rfl⟩
  |r=>rw[e]at sw2;cases sw2
 have hB:bytes o lo=bo Wb.sd:=by rw[<-Tz,SS];rfl
 obtain⟨h9,Ih⟩:∃z,z=h8.new (.cells PL.cs 42 false):=⟨_,rfl⟩
 have n9:h9.n=h8.n+1:=by rw[Ih,H.ZP]
 have x9:Ext h8 h9:=by rw[Ih];exact (Ext.refl h8).new _
 have gY9:h9.get h8.n=some (.cells PL.cs 42 false):=by rw[Ih,ZY]
 have C9:=C8.keep x9.n λb _ hb=>x9.get b hb;obtain⟨_,IE,lH,bv,rfl,W10,Ha⟩:=(ED C9 SS).elim;have HE:(bytes o lo).length<140737488355329:=by rw[hB];exact of_decide_eq_true wl_
 obtain⟨_,BQ,ko,v11,rfl,W11,yT⟩:=(Tf IE).elim;obtain⟨_,IC,a12,r,rfl,C12,yS⟩:=(NT (W10.slb.keep yT.get) HE W10.byte W11.OB MU true).elim;have C12:=C12.cut;rw[hB]at C12;have m10:=Ha.n;have m11:=yT.n;have m12:=yS.n;have vR:=((x9.trans Ha).trans yT).trans yS;have G12:=G8.ext vR;have yqU:=C9.keep ((Ha.trans yT).trans yS).n λb _ hb=>((Ha.trans yT).trans yS).get b hb;have Bq1:=Qs yqU;rw[cB]at Bq1;have Bq0:IC.get h4.n=_:=(vR.get _ (by omega)).trans gA8;have lr:IC.get (h4.n+1)=_:=(vR.get _ (by omega)).trans gB8;have BqZ:IC.get h6.n=_:=(vR.get _ (by omega)).trans gX8;have BqY:IC.get h8.n=_:=(((Ha.trans yT).trans yS).get _ (by omega)).trans gY9
 -- the reader
 obtain⟨_,Gw,a13,rfl,C13,oY⟩:=(HS C12 (λb hb=>hb.2) G12 (λb hb hd=>by omega) (b:={YC with w:=8,h:=8}) (by exact⟨by decide +kernel,by decide +kernel⟩) (by decide) (λh=>by cases h) (wr:=false) rfl ra_).elim;have wqX:=oY.n;have yqT:Gw.get h4.n=_:=(oY.get _ (by omega) (λhd=>by omega)).trans Bq0;have BqX:Gw.get (h4.n+1)=_:=(oY.get _ (by omega) (λhd=>by omega)).trans lr;have yqS:Gw.get h6.n=_:=(oY.get _ (by omega) (λhd=>by omega)).trans BqZ;have yqR:Gw.get h8.n=_:=(oY.get _ (by omega) (λhd=>by omega)).trans BqY;have G13:=G12.keep oY.n λb hb=>oY.get b (by omega) (λhd=>by omega);obtain⟨mC,HR⟩:∃z,z=Gw.put h6.n (.cells OS.cs 42 false):=⟨_,rfl⟩
 have n14:mC.n=Gw.n:=by rw[HR,H.ZJ]
 have w14:Gw.X4 h6.n 0 OS.cs=some mC:=by rw[ZF yqS (by simp),HR];rfl
 have G14:=G13.keep (h':=mC) (by omega) λb hb=>by rw[HR,ZX (by omega)]
 have C14:=C13.keep (h':=mC) (by omega) λb hb Yv=>by
  rw[HR,ZX];rintro rfl;rcases hb with hb|hb<;>omega
 have yqQ:∀b,grow (λb=>BQ.n<=b/\b<IC.n) IC Gw b->b<mC.n:=by rintro b (hb|hb)<;>omega
 obtain⟨_,xr,a15,rfl,C15,ji⟩:=(HS C14 yqQ G14 (λb hb hd=>by rcases hd with hd|hd<;>omega) (b:={YC with x:=8,w:=16,h:=8}) (by exact⟨by decide +kernel,by decide +kernel⟩) (by decide) (λh=>by have e:Ra.sd.writes=false:=Vy _ _;rw[e]at h;cases h) (wr:=false) (by exact Vy _ _) rb_).elim;have wqW:=ji.n;have vQ:∀b,b<BQ.n->¬grow (λb=>BQ.n<=b/\b<IC.n) IC Gw b:=by rintro b h1 (hb|hb)<;>omega
 have yqP:xr.get h4.n=some (.cells OS.cs 42 false):=by rw[ji.get _ (by omega) (vQ _ (by omega)),HR,ZX (by omega),yqT]
 have BqW:xr.get (h4.n+1)=some (.cells PL.cs 42 false):=by rw[ji.get _ (by omega) (vQ _ (by omega)),HR,ZX (by omega),BqX]
 have yqO:xr.get h6.n=some (.cells OS.cs 42 false):=by rw[ji.get _ (by omega) (vQ _ (by omega)),HR,ZV (by omega)]
 have yqN:xr.get h8.n=some (.cells PL.cs 42 false):=by rw[ji.get _ (by omega) (vQ _ (by omega)),HR,ZX (by omega),yqR]
 obtain⟨HB,D6⟩:∃z,z=xr.put h8.n (.cells PL.cs 42 false):=⟨_,rfl⟩
 have w16:xr.X4 h8.n 0 PL.cs=some HB:=by rw[ZF yqN (by simp),D6];rfl
 have rd:∀{gg:H} {i:Nat} {b:Bk},gg.get i=some (.cells b.cs 42 false)->gg.Ze i 0 23=some b.cs:=λ{gg i b} hg=>by rw[ZU hg (by simp)];rfl
 have yqM:HB.get h4.n=_:=(by rw[D6,ZX (by omega)]:HB.get h4.n=xr.get h4.n).trans yqP;have BqV:HB.get (h4.n+1)=_:=(by rw[D6,ZX (by omega)]:HB.get (h4.n+1)=xr.get (h4.n+1)).trans BqW;have yqL:HB.get h6.n=_:=(by rw[D6,ZX (by omega)]:HB.get h6.n=xr.get h6.n).trans yqO;have yqK:HB.get h8.n=some (.cells PL.cs 42 false):=by rw[D6,ZV (by omega)]
 have bA:bl YC.cs [(some (2,1),.int .i64 8),(some (3,1),.int .i64 8)]=some (.agg ({YC with w:=8,h:=8}:Bk).cs):=id rfl;have bB:bl YC.cs [(some (0,1),.int .i64 8),(some (2,1),.int .i64 16),(some (3,1),.int .i64 8)]=some (.agg ({YC with x:=8,w:=16,h:=8}:Bk).cs):=id rfl;have xF:Ext h HB:=by
  refine⟨by rw[D6,H.ZJ];omega,λi hi=>?_⟩;rw[D6,ZX (by omega),ji.get i (by omega) (vQ i (by omega)),HR,ZX (by omega),oY.get i (by omega) (λhd=>by omega),vR.get i (by omega),M8.get i (by omega) (by rintro (hb|hb)<;>omega),x7.get i (by omega),M6.get i (by omega) (λhd=>by omega),x25.get i (by omega),x2.get i (by omega),x1.get i hi]
 rw[<-ny1]at gB5 gB6 gB8 lr BqX BqW BqV;rw[W0 r7,s7];have rA5:=rd gA5;have rB7:h7.Ze y1.n 0 23=some PL.cs:=rd ((x7.get _ (by omega)).trans gB6);have yqJ:=rd Bq0;have yqI:=rd lr;have yqH:=rd BqZ;have yqG:=rd BqY;have yqF:=rd yqM;have yqE:=rd BqV;have yqD:=rd yqL;have yqC:=rd yqK;have z7:(h6.new (.cells YC.cs 42 false)).X4 h6.n 0 OS.cs=some h7:=by rw[Hu];exact YO _ _ _ _ (by simp)
 have z9:(h8.new (.cells YC.cs 42 false)).X4 h8.n 0 PL.cs=some h9:=by rw[Ih];exact YO _ _ _ _ (by simp)
 simp[a1,a2,a3,a4,nw,<-zK,<-FH,s45,fq,rA5,a6,z7,hc7,rB7,a8,z9,lH,ko,a12,yqJ,yqI,yqH,yqG,Bq1,bA,a13,w14,bB,a15,w16,yqF,yqE,yqD,yqC];exact⟨rfl,xF⟩
end Go.Proofs.YtbkmdnmncaakdaaGreat
set_option linter.unusedVariables false
set_option linter.unusedSimpArgs false
set_option maxRecDepth 20000
namespace Go.Proofs.YtbkmdnmncaakdaaGreat
open Go Go.Zf
open Go.Zf (ZS)
variable{st YI:St}
theorem Lp{mode:Int}{a v r:Vc}(ha:Y5 a)(h:(Y8 mode a v).exec st=(some r,YI)):Y5 r:=by
 unfold Y8 at h;split at h
 .cases h;exact ha
 .rw[Pr.X2,Pr.YH]at h
  split at h
  .rw[Pr.YH]at h
   split at h
   .split at h
    .rename_i hv;cases h;exact hv
    .cases h
   .cases h
  .cases h
variable{b r:Bk}
theorem AU{vs:Vs}(vk:Bj vs)(so:Yw st.S)(h1:Y5 b.m1)(hw:st.sd.writes=true->XD b)(h:(YM vs b).exec st=(some r,YI)):ZD r=ZD b/\Y5 r.m0/\Y5 r.m1:=by
 unfold YM at h;rw[Pr.YH]at h;have jn:=UL so (k:=15) (c:=0) (v:=Yc b.comp) (by decide) (by decide);have w1:(st.sym 15 0 (Yc b.comp)).sd.writes=st.sd.writes:=St.YG _ _ _ _;have hc:st.sd.writes=true->decide (st.ZC 15 0 (Yc b.comp)=1)=b.comp:=λh=>by rw[St.Yx h];cases b.comp<;>rfl
 have e:(Sg 15 0 b.comp).exec st=(some (decide (st.ZC 15 0 (Yc b.comp)=1)),st.sym 15 0 (Yc b.comp)):=rfl;rw[e]at h;simp only at h;generalize decide (st.ZC 15 0 (Yc b.comp)=1)=cm at h hc;generalize st.sym 15 0 (Yc b.comp)=T5 at h jn w1;rw[Pr.X2,Pr.YH]at h;have r0:T5.ZC 14 0 b.r0<3:=St.YF jn (k:=14) (by decide) (by decide) λh=>by rw[w1]at h;have:=(hw h).2.1;show _/\_<((3:Nat):Int);omega
 have uq:=UL jn (k:=14) (c:=0) (v:=b.r0) (by decide) (by decide);have w2:(T5.sym 14 0 b.r0).sd.writes=st.sd.writes:=(St.YG _ _ _ _).trans w1;generalize T5.ZC 14 0 b.r0=r0v at h r0;generalize T5.sym 14 0 b.r0=Xz at h uq w2;split at h;rotate_left
 .cases h
 rename_i r1 SY e1;have au:cm=true->0<=r1/\r1<=2:=λI2=>by
  rw[I2,if_pos rfl,Pr.X2,Pr.VI]at e1;have:=St.YF uq (k:=14) (x:=1) (v:=b.r1) (by decide) (by decide) λh=>by
   rw[w2]at h;have h5:=(hw h).2.2.2.2.2;unfold X9 at h5;rw[<-hc h,I2,if_pos rfl]at h5
   show _/\_<((3:Nat):Int);omega
  have this:Xz.ZC 14 1 b.r1<3:=this;cases e1;omega
 rw[Pr.X2,Pr.YH]at h;split at h;rotate_left
 .cases h
 rename_i m0 VB e2;have v0:=Lp (Bj.said vk _ (by omega) (by omega)) e2;rw[Pr.YH]at h;split at h;rotate_left
 .cases h
 rename_i m1 Ux e3;have v1:Y5 m1:=by
  cases I2:cm with
  |true =>
   rw[I2,if_pos rfl]at e3;exact Lp (Bj.said vk _ (au I2).1 (au I2).2) e3
  |false=>rw[I2,if_neg (by decide)]at e3;cases e3;exact h1
 rw[Pr.X2,Pr.YH]at h;split at h;rotate_left
 .cases h
 cases h;exact⟨rfl,v0,v1⟩
variable{G:Gr}{key ll:Bool}
theorem vZ(ok:I7 G)(so:Yw st.S)(ig:PV G b)(hw:st.sd.writes=true->WE key ll b/\Yl (Zz G b) b)(h:(oq st.sd.writes key ll G b).exec st=(some r,YI)):YR r/\Y5 r.m0/\Y5 r.m1:=by
 obtain⟨b0,Qw⟩:∃z,z=AV st.sd.writes b:=⟨_,rfl⟩
 have DN:ZD b0=ZD b:=by rw[Qw];exact Ed _ _
 have v0:Y5 b0.m0/\Y5 b0.m1:=by
  rw[Qw];cases WH:st.sd.writes with
  |false=>exact⟨show Y5 (0,0)by decide,show Y5 (0,0)by decide⟩
  |true=>exact ot (hw WH).1
 have aq:∀{r:Bk},ZD r=ZD b->Y5 r.m0/\Y5 r.m1->YR r/\Y5 r.m0/\Y5 r.m1:=λh v=>⟨(ig.MC h).sh,v.1,v.2⟩
 unfold oq TY at h;rw[<-Qw,Pr.YH]at h;split at h;rotate_left
 .cases h
 rename_i sk T5 e1;have jn:Yw T5.S:=by
  cases e1;exact UL so (by decide) (show _<3 by exact Ro _ _ _ _)
 have w1:=YS e1;have lA:st.sd.writes=true->sk=b0.skip:=λhh=>by cases e1;rw[St.Yx hh];cases b0.skip<;>rfl
 rw[Pr.YH]at h;split at h;rotate_left
 .cases h
 rename_i it Xz e2;have w2:=YS e2;have k2:Yw Xz.S/\(st.sd.writes=true->it=b0.inter):=by
  cases hk:key with
  |true=>rw[hk,if_pos rfl]at e2;cases e2;exact⟨jn,λ_=>rfl⟩
  |false =>
   rw[hk,if_neg (by decide)]at e2;cases e2;exact⟨UL jn (by decide) (show _<3 by exact Ro _ _ _ _),λh=>by rw[St.Yx (by rw[w1];exact h)];cases b0.inter<;>rfl⟩
 rw[Pr.YH]at h;split at h;rotate_left
 .cases h
 rename_i b1 SY e3;have w3:=YS e3;rw[Pr.YH]at h;split at h;rotate_left
 .cases h
 rename_i tx VB e4;cases hit:it with
 |false =>
  rw[hit]at e3 h;rw[if_neg (by decide)]at e3 h;obtain⟨y,u,c,hr⟩:=Lo e3;cases h;rw[hr];exact aq DN v0
 |true =>
  rw[hit]at e3 h;rw[if_pos rfl]at e3 h;cases e3;have so4:Yw VB.S:=by
   unfold Vb at e4;split at e4
   .cases e4;exact k2.1
   .split at e4
    .cases e4;exact k2.1
    .cases e4
     obtain⟨n,n3,n6,_,lg⟩:=(ig.MC DN).sh.min;have lg:An {b0 with skip:=sk,inter:=true}=n:=lg;rw[lg];refine UL k2.1 (by split<;>decide) ?_;rcases (by omega:n=3\/n=4\/n=5\/n=6)with rfl|rfl|rfl|rfl<;>decide
  obtain⟨k1,kv⟩:=AU (b:={b0 with skip:=sk,inter:=true,tx:=tx}) (Pa ok b) so4 v0.2 (λhh=>by
   rw[YS e4,w2,w1]at hh;have:=(hw hh).1.2.2.2;have eb:b0=b:=by rw[Qw,hh];rfl
   have ei:b.inter=true:=by rw[<-eb,<-k2.2 hh];exact hit
   rw[ei,if_pos rfl]at this;rw[eb];exact⟨⟨rfl,this.1.2⟩,this.2⟩) h
  exact aq (k1.trans DN) kv
structure Qd(col:Nat->Nat)(h:H)(c g cr gr m m2:Nat)(st Xz:St)(G G2:Gr):Prop where
 c1:Zy (λb=>col b=1) h c m st
 g1:Zl (λb=>col b=2) h g G
 c2:Zu (λb=>col b=3) h cr m2 Xz
 g2:YY (λb=>col b=4) h gr G2
 lt:∀b,col b≠0->b<h.n
def U8(col:Nat->Nat)(h h':H)(i:Nat):Nat->Nat:=λb=>if h.n<=b/\b<h'.n then i else col b
variable{col:Nat->Nat}{h h':H}{i:Nat}
theorem Xj{j:Nat}(lt:∀b,col b≠0->b<h.n)(hj:j≠0)(Ud:j≠i):(λb=>U8 col h h' i b=j)=λb=>col b=j:=by
 funext b
 unfold U8;split
 .refine propext ⟨λe=>(Ud e.symm).elim,λe=>?_⟩
  have:=lt b (by omega);omega
 .rfl
theorem O9:(λb=>U8 col h h' i b=i)=grow (λb=>col b=i) h h':=by
 funext b
 unfold U8 grow;split
 .rename_i hb;exact propext ⟨λ_=>.inr hb,λ_=>rfl⟩
 .rename_i hb;exact propext ⟨.inl,λh=>h.elim id λx=>(hb x).elim⟩
section qd
variable{col:Nat->Nat}{h h':H}{c g cr gr m m2:Nat}{st Xz:St}{G G2:Gr}
theorem Qd.ext(q:Qd col h c g cr gr m m2 st Xz G G2)(x:Ext h h'):Qd col h' c g cr gr m m2 st Xz G G2 :=
 ⟨q.c1.keep x.n λb _ hb=>x.get b hb,q.g1.ext x,q.c2.ext x,q.g2.ext x,λb hb=>by have:=q.lt b hb;have:=x.n;omega⟩
theorem O8(lt:∀b,col b≠0->b<h.n)(n:h.n<=h'.n):∀b,U8 col h h' i b≠0->b<h'.n:=λb hb=>by
 unfold U8 at hb;split at hb
 .omega
 .have:=lt b hb;omega
theorem qY(M:Mod (λb=>col b=i) h h')(hi:i≠0):∀b,b<h.n->col b=0->U8 col h h' i b=0/\h'.get b=h.get b:=λb hb h0 =>
 ⟨by unfold U8;rw[if_neg (by omega)];exact h0,M.get b hb (by omega)⟩
variable{m':Nat}
theorem Qd.t1(q:Qd col h c g cr gr m m2 st Xz G G2)(C:Zy (grow (λb=>col b=1) h h') h' c m' YI)(M:Mod (λb=>col b=1) h h'):Qd (U8 col h h' 1) h' c g cr gr m' m2 YI Xz G G2:=by
 refine⟨by rw[O9];exact C,?_,?_,?_,O8 q.lt M.n⟩
 .rw[Xj q.lt (by decide) (by decide)];exact q.g1.keep M.n λb hb=>M.get b (q.g1.hD b hb) (by omega)
 .rw[Xj q.lt (by decide) (by decide)];exact q.c2.keep M.n λb hb Yv=>M.get b Yv (by omega)
 .rw[Xj q.lt (by decide) (by decide)];exact q.g2.keep M.n λb hb=>M.get b (q.g2.hD b hb) (by omega)
variable{G':Gr}
theorem Qd.t2(q:Qd col h c g cr gr m m2 st Xz G G2)(C:Zl (grow (λb=>col b=2) h h') h' g G')(M:Mod (λb=>col b=2) h h'):Qd (U8 col h h' 2) h' c g cr gr m m2 st Xz G' G2:=by
 refine⟨?_,by rw[O9];exact C,?_,?_,O8 q.lt M.n⟩
 .rw[Xj q.lt (by decide) (by decide)];exact q.c1.keep M.n λb hb Yv=>M.get b Yv (by omega)
 .rw[Xj q.lt (by decide) (by decide)];exact q.c2.keep M.n λb hb Yv=>M.get b Yv (by omega)
 .rw[Xj q.lt (by decide) (by decide)];exact q.g2.keep M.n λb hb=>M.get b (q.g2.hD b hb) (by omega)
theorem Qd.t3(q:Qd col h c g cr gr m m2 st Xz G G2)(C:Zu (grow (λb=>col b=3) h h') h' cr m' YI)(M:Mod (λb=>col b=3) h h'):Qd (U8 col h h' 3) h' c g cr gr m m' st YI G G2:=by
 refine⟨?_,?_,by rw[O9];exact C,?_,O8 q.lt M.n⟩
 .rw[Xj q.lt (by decide) (by decide)];exact q.c1.keep M.n λb hb Yv=>M.get b Yv (by omega)
 .rw[Xj q.lt (by decide) (by decide)];exact q.g1.keep M.n λb hb=>M.get b (q.g1.hD b hb) (by omega)
 .rw[Xj q.lt (by decide) (by decide)];exact q.g2.keep M.n λb hb=>M.get b (q.g2.hD b hb) (by omega)
theorem Qd.t4(q:Qd col h c g cr gr m m2 st Xz G G2)(C:YY (grow (λb=>col b=4) h h') h' gr G')(M:Mod (λb=>col b=4) h h'):Qd (U8 col h h' 4) h' c g cr gr m m2 st Xz G G':=by
 refine⟨?_,?_,?_,by rw[O9];exact C,O8 q.lt M.n⟩
 .rw[Xj q.lt (by decide) (by decide)];exact q.c1.keep M.n λb hb Yv=>M.get b Yv (by omega)
 .rw[Xj q.lt (by decide) (by decide)];exact q.g1.keep M.n λb hb=>M.get b (q.g1.hD b hb) (by omega)
 .rw[Xj q.lt (by decide) (by decide)];exact q.c2.keep M.n λb hb Yv=>M.get b Yv (by omega)
theorem Qd.more(q:Qd col h c g cr gr m m2 st Xz G G2)(h1:m<=m')(h2:m2<=m')(h3:m'<100000000):Qd col h c g cr gr m' m' st Xz G G2:=⟨q.c1.more h1 h3,q.g1,q.c2.more h2 h3,q.g2,q.lt⟩
end qd
def Xl(col:Nat->Nat)(h:H)(Fa:Nat->Nat)(h':H):Prop:=h.n<=h'.n/\∀b,b<h.n->col b=0->Fa b=0/\h'.get b=h.get b
theorem Xl.trans{c1 c2 c3:Nat->Nat}{h1 h2 h3:H}(a:Xl c1 h1 c2 h2)(b:Xl c2 h2 c3 h3):Xl c1 h1 c3 h3 :=
 ⟨Nat.le_trans a.1 b.1,λi hi h0=>by
  have k1:=a.2 i hi h0;have k2:=b.2 i (by have:=a.1;omega) k1.1;exact⟨k2.1,k2.2.trans k1.2⟩⟩
theorem Xl.ext(x:Ext h h'):Xl col h col h':=⟨x.n,λb hb h0=>⟨h0,x.get b hb⟩⟩
theorem Xl.md(M:Mod (λb=>col b=i) h h')(hi:i≠0):Xl col h (U8 col h h' i) h':=⟨M.n,qY M hi⟩
end Go.Proofs.YtbkmdnmncaakdaaGreat
set_option linter.unusedVariables false
set_option linter.unusedSimpArgs false
set_option maxRecDepth 20000
namespace Go.Proofs.YtbkmdnmncaakdaaGreat
open Go Go.Zf
open Go.Zf (ZS)
variable{col:Nat->Nat}{h:H}{c g cr gr m:Nat}{st:St}{G:Gr}
theorem Qd.cnt{m2:Nat}{Xz:St}{G2:Gr}(q:Qd col h c g cr gr m m2 st Xz G G2):KW 12 [.ptr c 0] h=some (.ret (.int .i64 st.n),h)/\h.Zp cr 4=some (.int .i64 Xz.n):=by
 obtain⟨_,_,_,e⟩:=q.c2.set;exact⟨Qs q.c1,e⟩
def AW(col:Nat->Nat)(h:H)(c g cr gr m:Nat)(st:St)(G:Gr)(w:V)(h':H):Prop :=
 ∃(f:Int) (YI:St) (G':Gr) (Fa:Nat->Nat),w=.Zt [.bool true,.int .i64 f]/\Qd Fa h' c g cr gr (m+72) (m+72) YI YI G' G'/\G'.bs.length<=G.bs.length+1/\YI.sd.writes=st.sd.writes/\Xl col h Fa h'
variable{d:Dq}{key ll:Bool}
theorem sY(q:Qd col h c g cr gr m m st st G G)(hx:Vw d.b.x)(hy:Vw d.b.y)(hm:m+72<100000000)(hn:G.bs.length<100000):
  RT (λw h'=>AW col h c g cr gr m st G w h') (KW 21 [.ptr c 0,.ptr g 0,.ptr cr 0,.ptr gr 0,.agg d.cs,.bool key,.bool ll] h):=by
 obtain⟨h1,ZL⟩:∃z,z=h.new (.cells d.cs 44 false):=⟨_,rfl⟩
 have x1:Ext h h1:=by rw[ZL];exact (Ext.refl h).new _
 have n1:h1.n=h.n+1:=by rw[ZL,H.ZP]
 have t1:h1.get h.n=some (.cells d.cs 44 false):=by rw[ZL,ZY]
 have q1:=q.ext x1;have s1:Xl col h col h1:=Xl.ext x1;have c0:∀{i},h.n<=i->col i=0:=λ{i} hi=>Classical.byContradiction λhc=>by have:=q.lt i hc;omega
 have rd:∀o,h1.Zp h.n o=d.cs[o]?:=λo=>ZZ t1;have zy:IntKind.i64.wrap 0=0:=rfl;rw[W7 r21,s21];cases hp:d.part with
 |true =>
  obtain⟨h2,Zq⟩:∃z,z=h1.new (.cells [.int .i64 d.b.x,.int .i64 d.b.y,.int .i64 d.side,.int .i64 d.side] 36 false):=⟨_,rfl⟩
  have x2:Ext h1 h2:=by rw[Zq];exact (Ext.refl h1).new _
  have n2:h2.n=h1.n+1:=by rw[Zq,H.ZP]
  have zw:(h1.new (.cells [.int .i64 0,.int .i64 0,.int .i64 0,.int .i64 0] 36 false)).X4 h1.n 0 [.int .i64 d.b.x,.int .i64 d.b.y,.int .i64 d.side,.int .i64 d.side]=some h2:=by rw[Zq];exact YO _ _ _ _ rfl
  have t2:h2.get h.n=_:=(x2.get _ (H.ZW t1)).trans t1;have r2:h2.get h1.n=some (.cells [.int .i64 d.b.x,.int .i64 d.b.y,.int .i64 d.side,.int .i64 d.side] 36 false):=by rw[Zq,ZY]
  have q2:=q1.ext x2;have s2:Xl col h col h2:=s1.trans (Xl.ext x2);have R:∀{g:H},g.get h1.n=some (.cells [.int .i64 d.b.x,.int .i64 d.b.y,.int .i64 d.side,.int .i64 d.side] 36 false)->g.Ze h1.n 0 4=some [.int .i64 d.b.x,.int .i64 d.b.y,.int .i64 d.side,.int .i64 d.side]:=λhg=>by rw[ZU hg (by simp)];rfl
  have K:∀{g:H},g.get h.n=some (.cells d.cs 44 false)->g.Zp h.n 25=some (.int .i64 d.kind):=λhg=>by rw[ZZ hg];rfl
  obtain⟨w,h3,a3,p1,p2⟩:=(Km q2.c1 (λb hb=>q2.lt b (by omega)) q2.g1 (λb hb hd=>by omega) (s:=d.side) (kind:=d.kind) hx hy (by omega)).elim;by_cases pm:V1 st.sd.writes d.b.x d.b.y d.side d.kind
  .obtain⟨rfl,k3⟩:=p1 pm
   have q3:=q2.t1 k3.co k3.md;have s3:=s2.trans (Xl.md k3.md (by decide));have t3:=((Xl.md k3.md (by decide):Xl col h2 _ h3).2 h.n (by omega) (c0 (by omega))).2.trans t2;have r3:=((Xl.md k3.md (by decide):Xl col h2 _ h3).2 h1.n (by omega) (c0 (by omega))).2.trans r2;obtain⟨w',h4,a4,e4⟩:=(Jq q3.c2 q3.g2 (s:=d.side) (kind:=d.kind) hx hy (by omega)).elim;rcases e4 with ⟨_,rfl,k4,m4⟩|⟨np,_⟩
   rotate_left
   .exact (np pm).elim
   have q4:=q3.t3 k4 m4;have s4:=s3.trans (Xl.md m4 (by decide));obtain⟨y1,y2⟩:=q4.cnt;have fin:AW col h c g cr gr m st G (.Zt [.bool true,.int .i64 0]) h4:=⟨0,_,G,_,rfl,q4.more (by omega) (by omega) hm,by omega,by rw[St.YG],s4⟩
   obtain⟨Y,hY⟩:∃y,y=st.ZC (MX d.side) (Fq G d.b.x d.b.y d.side) d.kind:=⟨_,rfl⟩
   rw[<-hY]at a3 a4;have dp:h1.Zp h.n 23=some (.bool true):=by rw[rd,<-hp];rfl
   obtain⟨y5,y6,y7⟩:h1.Zp h.n 0=some (.int .i64 d.b.x)/\h1.Zp h.n 1=some (.int .i64 d.b.y)/\h1.Zp h.n 24=some (.int .i64 d.side):=⟨by rw[rd];rfl,by rw[rd];rfl,by rw[rd];rfl⟩
   simp[bx,<-ZL,dp,y5,y6,y7,nw,zw,R r2,K t2,a3,R r3,K t3,a4,y1,y2];exact fin
  .obtain⟨rfl,k3⟩:=p2 pm
   have q3:=q2.t1 k3.co k3.md;have s3:=s2.trans (Xl.md k3.md (by decide));have t3:=((Xl.md k3.md (by decide):Xl col h2 _ h3).2 h.n (by omega) (c0 (by omega))).2.trans t2;have r3:=((Xl.md k3.md (by decide):Xl col h2 _ h3).2 h1.n (by omega) (c0 (by omega))).2.trans r2;obtain⟨w',h4,a4,e4⟩:=(Jq q3.c2 q3.g2 (s:=d.side) (kind:=d.kind) hx hy (by omega)).elim;rcases e4 with ⟨pm',_⟩|⟨np,rfl,x4⟩
   .exact (pm pm').elim
   have q4:=q3.ext x4;have s4:=s3.trans (Xl.ext x4);obtain⟨y1,y2⟩:=q4.cnt;have fin:AW col h c g cr gr m st G (.Zt [.bool true,.int .i64 2]) h4:=⟨2,_,G,_,rfl,q4.more (by omega) (by omega) hm,by omega,rfl,s4⟩
   have dp:h1.Zp h.n 23=some (.bool true):=by rw[rd,<-hp];rfl
   obtain⟨y5,y6,y7⟩:h1.Zp h.n 0=some (.int .i64 d.b.x)/\h1.Zp h.n 1=some (.int .i64 d.b.y)/\h1.Zp h.n 24=some (.int .i64 d.side):=⟨by rw[rd];rfl,by rw[rd];rfl,by rw[rd];rfl⟩
   simp[bx,<-ZL,dp,y5,y6,y7,nw,zw,R r2,K t2,a3,R r3,K t3,a4,y1,y2];exact fin
 |false =>
  have dp:h1.Zp h.n 23=some (.bool false):=by rw[rd,<-hp];rfl
  have B:∀{g:H},g.get h.n=some (.cells d.cs 44 false)->g.Ze h.n 0 23=some d.b.cs:=λhg=>by rw[ZU hg (by simp)];rfl
  have N:∀(g:H) (r:Bk),∃g',(g.new (.cells YC.cs 42 false)).X4 g.n 0 r.cs=some g'/\Ext g g'/\g'.get g.n=some (.cells r.cs 42 false)/\g'.n=g.n+1:=λg r=>⟨_,YO _ _ _ _ (by simp),(Ext.refl g).new _,ZY,H.ZP _ _⟩
  have RB:∀{g:H} {b:Nat} {r:Bk},g.get b=some (.cells r.cs 42 false)->g.Ze b 0 23=some r.cs:=λhg=>by rw[ZU hg (by simp)];rfl
  by_cases ok:PV G d.b/\(st.sd.writes=true->WE key ll d.b/\Yl (Zz G d.b) d.b);rotate_left
  .obtain⟨w,h2,a2,rfl,k2⟩:=(B3 q1.c1 (λb hb=>q1.lt b (by omega)) q1.g1 (λb hb hd=>by omega) hx hy (by omega) ok).elim
   have q2:=q1.t1 k2.co k2.md;have m2:=(Xl.md k2.md (by decide):Xl col h1 _ h2)
   have t2:=(m2.2 h.n (by omega) (c0 (by omega))).2.trans t1;have s2:=s1.trans m2;obtain⟨h3,w3,x3,u3,n3⟩:=N h2 YC;have q3:=q2.ext x3;have t3:=(x3.get _ (H.ZW t2)).trans t2;obtain⟨w',h4,a4,rfl,x4⟩:=(v7 q3.c2 q3.g2 hx hy (key:=key) (ll:=ll) ok).elim;obtain⟨h5,w5,x5,u5,n5⟩:=N h4 YC;have q5:=(q3.ext x4).ext x5;obtain⟨y1,y2⟩:=q5.cnt;have u35:=((x4.trans x5).get _ (H.ZW u3)).trans u3;have s5:=s2.trans (Xl.ext ((x3.trans x4).trans x5));have fin:AW col h c g cr gr m st G (.Zt [.bool true,.int .i64 2]) h5:=⟨2,_,G,_,rfl,q5.more (by omega) (by omega) hm,by omega,rfl,s5⟩
   simp[bx,<-ZL,dp,B t1,a2,nw,w3,B t3,a4,w5,RB u35,RB u5,y1,y2];exact fin
  obtain⟨ig,hw⟩:=ok;obtain⟨w,h2,a2,C2,M2,En⟩:=(Jp q1.c1 (λb hb=>q1.lt b (by omega)) q1.g1 (λb hb hd=>by omega) ig hm (key:=key) (ll:=ll) hw).elim;have q2:=q1.t1 C2 M2;have m2:=(Xl.md M2 (by decide):Xl col h1 _ h2)
  have t2:=(m2.2 h.n (by omega) (c0 (by omega))).2.trans t1;have s2:=s1.trans m2;generalize qZ:(TY st.sd.writes key ll (Wd Bk.skip G d.b.x d.b.y) (Wd Bk.inter G d.b.x d.b.y) (Zz G d.b) (AV st.sd.writes d.b)).exec st=RR at C2 En q2;obtain⟨o,YI⟩:=RR;have wrR:YI.sd.writes=st.sd.writes:=YS qZ;obtain⟨r,f,hr,hrr,hrf⟩:∃(r:Bk) (f:Int),w=.Zt [r.v,.int .i64 f]/\(f=0->YR r/\Y5 r.m0/\Y5 r.m1)/\(match o with|some r=>(.Zt [r.v,.int .i64 0]:V)|none=>.Zt [YC.v,.int .i64 4])=.Zt [r.v,.int .i64 f]:=by
   cases o with
   |some r=>exact⟨r,0,En,λ_=>vZ q.g1.ok q.c1.ok.1 ig hw qZ,rfl⟩
   |none=>exact⟨YC,4,En,(λh=>by cases h),rfl⟩
  subst hr;obtain⟨h3,w3,x3,u3,n3⟩:=N h2 r;have q3:=q2.ext x3;have t3:=(x3.get _ (H.ZW t2)).trans t2;obtain⟨w',h4,a4,C4,M4,av⟩:=(vY q3.c2 (λb hb=>q3.lt b (by omega)) q3.g2 (λb hb hd=>by omega) ig hm (key:=key) (ll:=ll) hw).elim;rw[qZ]at C4 av;have BT:w'=.Zt [r.v,.int .i64 f]:=av.trans hrf;subst BT;have q4:=q3.t3 C4 M4;have m4:=(Xl.md M4 (by decide):Xl _ h3 _ h4)
  have u3c:U8 col h1 h2 1 h2.n=0:=Classical.byContradiction λhc=>by have:=q2.lt _ hc;omega
  have u4:=(m4.2 h2.n (by omega) u3c).2.trans u3;obtain⟨h5,w5,x5,u5,n5⟩:=N h4 r;have q5:=q4.ext x5;obtain⟨y1,y2⟩:=q5.cnt;have u35:=(x5.get _ (H.ZW u4)).trans u4;have s5:=((s2.trans (Xl.ext x3)).trans m4).trans (Xl.ext x5);by_cases f0:f=0;rotate_left
  .have fin:AW col h c g cr gr m st G (.Zt [.bool true,.int .i64 f]) h5:=⟨f,YI,G,_,rfl,q5,by omega,wrR,s5⟩
   simp[bx,<-ZL,dp,B t1,a2,nw,w3,B t3,a4,w5,RB u35,RB u5,y1,y2,f0];exact fin
  subst f0;obtain⟨sh,hv⟩:=hrr rfl;obtain⟨_,h6,a6,rfl,G6,M6⟩:=(Ki q5.g1 sh hv hn).elim;have q6:=q5.t2 G6 M6;have m6:=(Xl.md M6 (by decide):Xl _ h5 _ h6)
  have u5c:∀{i},h4.n<=i->U8 (U8 col h1 h2 1) h3 h4 3 i=0:=λhi=>Classical.byContradiction λhc=>by have:=q4.lt _ hc;omega
  have u6:=(m6.2 h4.n (by omega) (u5c (Nat.le_refl _))).2.trans u5;obtain⟨_,h7,a7,rfl,G7,M7⟩:=(tG q6.g2 sh hv hn).elim;have q7:=q6.t4 G7 M7;have s7:=(s5.trans m6).trans (Xl.md M7 (by decide));have fin:AW col h c g cr gr m st G (.Zt [.bool true,.int .i64 0]) h7:=⟨0,YI,_,_,rfl,q7,tA G r,wrR,s7⟩
  simp[bx,<-ZL,dp,B t1,a2,nw,w3,B t3,a4,w5,RB u35,RB u5,y1,y2,a6,RB u6,a7];exact fin
end Go.Proofs.YtbkmdnmncaakdaaGreat
set_option linter.unusedVariables false
set_option linter.unusedSimpArgs false
set_option maxRecDepth 20000
namespace Go.Proofs.YtbkmdnmncaakdaaGreat
open Go Go.Zf
open Go.Zf (ZS)
@[simp] theorem xq4{β:Type}(d:Dq)(x:Option β):ck (some (.agg d.cs)) (.agg d.cs) x=x:=Kk _ rfl (by simp[Dq.cs,Bk.cs,V.same,V.Xm])
variable{D:Nat->Prop}{h:H}
theorem WD.nZ{v:V}{S:List (List Tb)}(a:WD D h v S){β:Type}(x:Option β):ck (some (.agg [v])) (.agg [v]) x=x:=by
 refine Kk _ rfl ?_;obtain⟨cs,B,(⟨rfl,_⟩|⟨b,k,rfl,_⟩),_⟩:=a<;>simp[V.same,V.Xm]
def Bo(Nh:Nat->Nat)(h0:H)(c g cr gr i:Nat)(wr:Bool)(h:H):Prop:=∃(st:St) (G:Gr) (col:Nat->Nat),Qd col h c g cr gr (72*i) (72*i) st st G G/\G.bs.length<=i/\st.sd.writes=wr/\Xl Nh h0 col h
abbrev sZ:List Nat:=[0,1,2,5,6,7,8,9,10,11,12,13,14,15,16,17,18]
structure I4(Nh:Nat->Nat)(h0:H)(lv:V)(c g cr gr p5 i:Nat)(e:E)(h:H):Prop where
 bo:Bo Nh h0 c g cr gr i false h
 e1:e.s sZ 1=lv
 e5:e.s sZ 5=.ptr p5 0
 e7:e.s sZ 7=.ptr c 0
 e9:e.s sZ 9=.ptr cr 0
 Vn:e.s sZ 11=.ptr g 0
 TS:e.s sZ 13=.ptr gr 0
 OC:e.s sZ 15=.int .i64 (i:Nat)
variable{Nh:Nat->Nat}{h0:H}{c g cr gr i:Nat}{d:Dq}
theorem Bo.step{wr:Bool}(a:Bo Nh h0 c g cr gr i wr h)(hi:i<60)(hx:Vw d.b.x)(hy:Vw d.b.y)(key ll:Bool):
  ∃(f:Int) (h':H),KW 21 [.ptr c 0,.ptr g 0,.ptr cr 0,.ptr gr 0,.agg d.cs,.bool key,.bool ll] h=some (.ret (.Zt [.bool true,.int .i64 f]),h')/\Bo Nh h0 c g cr gr (i+1) wr h':=by
 obtain⟨st,G,col,q,hG,hw,s⟩:=a;obtain⟨_,h',a1,f,YI,G',Fa,rfl,q',hG',BT,s'⟩:=(sY q hx hy (by omega) (by omega) (key:=key) (ll:=ll)).elim;exact⟨f,h',a1,YI,G',Fa,by rw[show 72*(i+1)=72*i+72 by omega];exact q',by omega,BT.trans hw,s.trans s'⟩
variable{lv:V}{L:List Dq}{key ll:Bool}
theorem wqu{p5:Nat}(hL:∀{h:H},(∀b,b<h0.n->Nh b=0->h.get b=h0.get b)->MD h lv L)(hI:∀d∈L,Vw d.b.x/\Vw d.b.y)(p0:p5<h0.n/\Nh p5=0/\h0.get p5=some (.cells [.bool key,.bool ll] 57 false)):
  ∀k e h,(k<=min L.length 60/\I4 Nh h0 lv c g cr gr p5 (min L.length 60-k) e h)->LS (λk e h=>k<=min L.length 60/\I4 Nh h0 lv c g cr gr p5 (min L.length 60-k) e h) (λs=>s.x=.ex 0/\(∃i,i<=60/\Bo Nh h0 c g cr gr i false s.h)/\s.e.s sZ 7=.ptr c 0/\s.e.s sZ 9=.ptr cr 0) k (vP KW ZI e h):=by
 rintro k e h ⟨hk,⟨bo,e1,e5,e7,e9,Vn,TS,OC⟩⟩;obtain⟨i,hi⟩:∃i,i=min L.length 60-k:=⟨_,rfl⟩
 rw[<-hi]at bo OC;have fr:∀b,b<h0.n->Nh b=0->h.get b=h0.get b:=λb hb iF=>by obtain⟨st,G,col,q,_,_,s⟩:=bo;exact (s.2 b hb iF).2
 have dl:=hL fr;have hln:Kc lv=some (.int .i64 (L.length:Nat)):=dl.len;by_cases ci:i=min L.length 60
 .by_cases c1:i<L.length
  .simp[vP,e1,hln,OC,c1,show ¬i<60 by omega,show (i:Int)<(L.length:Nat)by omega,show ¬(i:Int)<60 by omega]
   exact⟨rfl,⟨i,by omega,bo⟩,by simp[e7],by simp[e9]⟩
  .simp[vP,e1,hln,OC,c1,show ¬(i:Int)<(L.length:Nat)by omega]
   exact⟨rfl,⟨i,by omega,bo⟩,by simp[e7],by simp[e9]⟩
 have c1:i<L.length:=by omega
 have c2:i<60:=by omega
 obtain⟨d,hd⟩:∃d,L[i]?=some d:=⟨L[i],List.getElem?_eq_getElem c1⟩
 obtain⟨ix,iy⟩:=hI d (List.mem_of_getElem? hd);obtain⟨b,o,ia,rN⟩:=dl.at_ i d hd;obtain⟨f,h',a,bo'⟩:=bo.step c2 ix iy key ll;have hp:=(fr p5 p0.1 p0.2.1).trans p0.2.2;have k0:h.Zp p5 0=some (.bool key):=by rw[ZZ hp];rfl
 have k1:h.Zp p5 1=some (.bool ll):=by rw[ZZ hp];rfl
 have z2:IntKind.i64.wrap ((i:Int)+1)=((i+1:Nat):Int):=by rw[ZS (by omega) (by omega)];omega
 by_cases f4:f=4
 .simp[vP,e1,hln,OC,c1,c2,show (i:Int)<(L.length:Nat)by omega,show (i:Int)<60 by omega,ia,rN,e5,k0,k1,e7,e9,Vn,TS,a,f4]
  exact⟨rfl,⟨i+1,by omega,bo'⟩,by simp,by simp⟩
 .simp[vP,e1,hln,OC,c1,c2,show (i:Int)<(L.length:Nat)by omega,show (i:Int)<60 by omega,ia,rN,e5,k0,k1,e7,e9,Vn,TS,a,f4,z2,-Int.natCast_add]
  refine⟨k-1,by omega,by omega,?_⟩;rw[show min L.length 60-(k-1)=i+1 by omega];exact⟨bo',by simp[e1],by simp[e5],by simp,by simp,by simp,by simp,by simp⟩
variable{m:Nat}{st:St}{G:Gr}
theorem wqS{n2 n3 n4 n5 n6 n7:Nat}(k3:n3<=n4)(k5:n4<=n5)(k6:n5<=n6)(k7:n6<=n7/\n7<=h.n/\n2<=n3)(C:Zy (λb=>n2<=b/\b<n3) h c m st)(R:Zu (λb=>n4<=b/\b<n5) h cr m st)(G1:Zl (λb=>n5<=b/\b<n6) h g G)(G2:YY (λb=>n6<=b/\b<n7) h gr G):
  ∃col,Qd col h c g cr gr m m st st G G/\∀b,b<n2->col b=0:=by
 obtain⟨col,BR⟩:∃col:Nat->Nat,col=λb=>if n2<=b/\b<n3 then 1 else if n4<=b/\b<n5 then 3 else if n5<=b/\b<n6 then 2 else if n6<=b/\b<n7 then 4 else 0:=⟨_,rfl⟩
 have e2:(λb=>col b=2)=λb=>n5<=b/\b<n6:=by
  funext b;rw[BR];simp only;refine propext ⟨λh=>?_,λh=>?_⟩<;>(repeat' split at *)<;>omega
 have e4:(λb=>col b=4)=λb=>n6<=b/\b<n7:=by
  funext b;rw[BR];simp only;refine propext ⟨λh=>?_,λh=>?_⟩<;>(repeat' split at *)<;>omega
 refine⟨col,⟨C.mono λb _ hd=>?_,by rw[e2];exact G1,R.mono λb _ hd=>?_,by rw[e4];exact G2,λb hb=>?_⟩,λb hb=>?_⟩
 .rw[BR];simp only;rw[if_pos hd]
 .rw[BR];simp only;rw[if_neg (by omega),if_pos hd]
 .rw[BR]at hb;simp only at hb;(repeat' split at hb)<;>omega
 .rw[BR];simp only;rw[if_neg (by omega),if_neg (by omega),if_neg (by omega),if_neg (by omega)]
theorem Lk{bv:V}{l:List Nat}(sb:Jd h bv l)(hl:l.length<140737488355329)(hb:∀x∈l,x<256)(hL:MD h lv L)(hI:∀d∈L,Vw d.b.x/\Vw d.b.y):
  RT (λw h'=>w=.bool true/\Ext h h') (KW 4 [bv,lv,.agg [.bool key,.bool ll]] h):=by
 obtain⟨h1,ZL⟩:∃z,z=h.new (.cells [.bool key,.bool ll] 57 false):=⟨_,rfl⟩
 have x1:Ext h h1:=by rw[ZL];exact (Ext.refl h).new _
 have m1:h1.n=h.n+1:=by rw[ZL,H.ZP]
 have p1:h1.get h.n=some (.cells [.bool key,.bool ll] 57 false):=by rw[ZL,ZY]
 obtain⟨_,h2,a2,v2,rfl,W2,x2⟩:=(Tf h1).elim;obtain⟨_,h3,a3,c,rfl,C3,x3⟩:=(NT ((sb.keep x1.get).keep x2.get) hl hb W2.OB MU true).elim;have C3:=C3.cut;obtain⟨_,h4,a4,v4,rfl,W4,x4⟩:=(IF h3).elim;have sb4:=(((sb.keep x1.get).keep x2.get).keep x3.get).keep x4.get;obtain⟨_,h5,a5,cr,rfl,C5,x5⟩:=(I8 sb4 hl hb W4.OB MU true).elim;have C5:=C5.under;obtain⟨_,h6,a6,g,rfl,G6,x6⟩:=(DE h5).elim;obtain⟨_,h7,a7,gr,rfl,G7,x7⟩:=(tH h6).elim;have m2:=x2.n;have m3:=x3.n;have m4:=x4.n;have m5:=x5.n;have m6:=x6.n;have m7:=x7.n;obtain⟨col,q7,c0⟩:=wqS (by omega) (by omega) (by omega) (by omega) (C3.keep (by omega) λb _ hb=>(((x4.trans x5).trans x6).trans x7).get b hb) ((C5.ext x6).ext x7) (G6.ext x7) G7;have c0:=λb (hb:b<h1.n)=>c0 b (by omega);have x17:=((((x2.trans x3).trans x4).trans x5).trans x6).trans x7;have hL7:∀{h':H},(∀b,b<h7.n->col b=0->h'.get b=h7.get b)->MD h' lv L:=λ{h'} k=>hL.ext λb hb=>by rw[k b (by omega) (c0 b (by omega)),x17.get b (by omega),x1.get b hb]
 rw[W3 r4,s4];simp[bx,<-ZL,a2,a3,a4,a5,a6,a7];refine XV (C:=λo=>RT _ (Zf.fin Tryz.prog _ _ (sq (Y9 0 o) _))) _ _ (wqu (p5:=h.n) (key:=key) (ll:=ll) hL7 hI ⟨by omega,c0 _ (by omega),(x17.get _ (by omega)).trans p1⟩) (min L.length 60)
  ⟨Nat.le_refl _,by rw[Nat.sub_self];exact⟨⟨E9 l QC true,Nk,col,q7,by simp[Nk],rfl,⟨Nat.le_refl _,λb _ h0=>⟨h0,rfl⟩⟩⟩,by simp,by simp,by simp,by simp,by simp,by simp,by simp⟩⟩ ?_
 rintro⟨sx,se,h8⟩ ⟨s1,⟨i,hi,st,G,Fa,q8,_,_,s8⟩,e7,e9⟩;simp only at s1 q8 s8 e7 e9;subst s1;obtain⟨_,h9,a9,v9,rfl,W9,x9⟩:=(yU q8.c1).elim;obtain⟨IE,O6⟩:∃z,z=h9.new (.cells [v9] 30 false):=⟨_,rfl⟩
 have Ha:Ext h9 IE:=by rw[O6];exact (Ext.refl h9).new _
 have zw:(h9.new (.cells [.ZO] 30 false)).X4 h9.n 0 [v9]=some IE:=by rw[O6];exact YO _ _ _ _ rfl
 have zw':(h9.new (.cells [.ZO] 30 false)).WO h9.n 0 v9=some IE:=by rw[O6,PE _ _ _ _ _ (by simp)];rfl
 have u10:IE.Ze h9.n 0 1=some [v9]:=by rw[O6];exact VZ _ _ _ _ _ _ (by simp)
 obtain⟨vs,rs,Ws,_⟩:=((q8.c2.ext x9).ext Ha).set;obtain⟨_,BQ,ko,rfl,yT⟩:=(BP (W9.OB.ext Ha) Ws.OB q8.c1.ok.1.small).elim;obtain⟨_,IC,a12,rfl,yS⟩:=(BO BQ).elim;have x8:Ext h h8:=⟨by have:=s8.1;omega,λb hb=>by rw[(s8.2 b (by omega) (c0 b (by omega))).2,x17.get b (by omega),x1.get b hb]⟩
 have xF:=(((x8.trans x9).trans Ha).trans yT).trans yS;simp[e7,a9,nw,zw,zw',u10,e9,rs,ko,a12,W9.nZ,Ws.nZ];exact⟨rfl,xF⟩
end Go.Proofs.YtbkmdnmncaakdaaGreat
set_option linter.unusedVariables false
set_option linter.unusedSimpArgs false
set_option maxRecDepth 20000
namespace Go.Proofs.YtbkmdnmncaakdaaGreat
open Go Go.Zf
open Go.Zf (ZS)
open Go.ChangeShapes Go.WideShapes
end Go.Proofs.YtbkmdnmncaakdaaGreat
