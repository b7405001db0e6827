import Derived.Test.YtbkmdnmncaakdaaGreatPfHak
set_option linter.unusedVariables false
set_option linter.unusedSimpArgs false
set_option maxRecDepth 20000
namespace Go.Proofs.YtbkmdnmncaakdaaGreat
open Go Go.Zf
open Go.Zf (ZS)
def W8:List V:=[.bool false,.bool false,.bool true,.bool false,.bool false,.bool true,.bool true,.bool true]
theorem wqB(i:Nat)(hi:i<4):∃key ll,W8[i*2]?=some (.bool key)/\W8[i*2+1]?=some (.bool ll)/\(W8.drop (i*2)).take 2=[.bool key,.bool ll]:=by
 rcases i with _|_|_|_|i
 .exact⟨_,_,rfl,rfl,rfl⟩
 .exact⟨_,_,rfl,rfl,rfl⟩
 .exact⟨_,_,rfl,rfl,rfl⟩
 .exact⟨_,_,rfl,rfl,rfl⟩
 .omega
theorem wqA(h:H):bs h 5 9 [.int .u8 0,.int .u8 0,.int .u8 0,.int .u8 0,.int .u8 0,.int .u8 0,.int .u8 0,.int .u8 0,.int .u8 0] [(some (0,1),.int .u8 1),(some (1,1),.int .u8 2),(some (2,1),.int .u8 3),(some (3,1),.int .u8 4),(some (4,1),.int .u8 5),(some (5,1),.int .u8 6),(some (6,1),.int .u8 7),(some (7,1),.int .u8 8),(some (8,1),.int .u8 9)]=some (.sl h.n 0 9 (.ex 9),h.new (.cells (ZG [1,2,3,4,5,6,7,8,9]) 5 false)):=id rfl
theorem wqz(h:H):bs h 5 6 [.int .u8 0,.int .u8 0,.int .u8 0,.int .u8 0,.int .u8 0,.int .u8 0] [(some (0,1),.int .u8 255),(some (1,1),.int .u8 255),(some (2,1),.int .u8 255),(some (3,1),.int .u8 255),(some (4,1),.int .u8 255),(some (5,1),.int .u8 255)]=some (.sl h.n 0 6 (.ex 6),h.new (.cells (ZG [255,255,255,255,255,255]) 5 false)):=id rfl
theorem wqy{β:Type}(a b:Bool)(x:Option β):ck (some (.agg [.bool a,.bool b])) (.agg [.bool a,.bool b]) x=x:=Kk _ rfl (by simp[V.same,V.Xm])
variable{p:Nat}
theorem yqy{hQ:H}{lv:V}{L:List Dq}(dl:MD hQ lv L)(hI:∀d∈L,Vw d.b.x/\Vw d.b.y)(hp:hQ.get p=some (.cells W8 57 false)):
  ∀k e h,(k<=4/\Ext hQ h/\e.s K6 15=lv/\e.s K6 19=.sl p 0 4 (.ex 4)/\e.s K6 20=.int .i64 (4-k:Nat))->LS (λk e h=>k<=4/\Ext hQ h/\e.s K6 15=lv/\e.s K6 19=.sl p 0 4 (.ex 4)/\e.s K6 20=.int .i64 (4-k:Nat)) (λs=>s.x=.ex 4/\Ext hQ s.h) k (iL KW ZI e h):=by
 rintro k e h ⟨hk,x,OC,AK,kR⟩;obtain⟨i,hi⟩:∃i,i=4-k:=⟨_,rfl⟩
 rw[<-hi]at kR;by_cases c:i<4
 .obtain⟨key,ll,q1,q2,q3⟩:=wqB i c
  have dx:∀{g},Ext hQ g->MD g lv L:=λy=>dl.ext y.get;have px:∀{g},Ext hQ g->g.Ze p (i*2) 2=some [.bool key,.bool ll]:=λy=>by rw[ZU ((y.get _ (H.ZW hp)).trans hp) (by show _<=8;omega),q3]
  have g0:=(x.get _ (H.ZW hp)).trans hp;have r1:h.Zp p (i*2)=some (.bool key):=by rw[ZZ g0,q1]
  have r2:h.Zp p (i*2+1)=some (.bool ll):=by rw[ZZ g0,q2]
  obtain⟨_,h1,a1,rfl,x1⟩:=(bm (key:=key) (ll:=ll) (dx x) hI).elim;have x1:=x.trans x1;obtain⟨h2,Zq⟩:∃z,z=h1.new (.cells (ZG [1,2,3,4,5,6,7,8,9]) 5 false):=⟨_,rfl⟩
  have x2:Ext hQ h2:=by rw[Zq];exact x1.new _
  obtain⟨_,h3,a3,rfl,x3⟩:=(Lk (key:=key) (ll:=ll) (h:=h2) (bv:=.sl h1.n 0 9 (.ex 9)) (l:=[1,2,3,4,5,6,7,8,9]) (.inr ⟨_,0,_,_,_,_,rfl,by rw[Zq];exact ZY,by decide,rfl⟩) (by decide) (by decide) (dx x2) hI).elim;have x3:=x2.trans x3;obtain⟨h4,Xs⟩:∃z,z=h3.new (.cells (ZG [255,255,255,255,255,255]) 5 false):=⟨_,rfl⟩
  have x4:Ext hQ h4:=by rw[Xs];exact x3.new _
  obtain⟨_,h5,a5,rfl,x5⟩:=(Lk (key:=key) (ll:=ll) (h:=h4) (bv:=.sl h3.n 0 6 (.ex 6)) (l:=[255,255,255,255,255,255]) (.inr ⟨_,0,_,_,_,_,rfl,by rw[Xs];exact ZY,by decide,rfl⟩) (by decide) (by decide) (dx x4) hI).elim;have z2:IntKind.i64.wrap ((i:Int)+1)=((i+1:Nat):Int):=by rw[ZS (by omega) (by omega)];omega
  simp[iL,OC,AK,kR,c,show (i:Int)<4 by omega,r1,r2,a1,wqA,<-Zq,px x1,px x2,a3,wqz,<-Xs,px x3,px x4,a5,wqy,z2,-Int.natCast_add];exact⟨k-1,by omega,by omega,x4.trans x5,by simp[OC],by simp[AK],by simp;omega⟩
 .simp[iL,AK,kR,show ¬(i:Int)<4 by omega]
  exact⟨rfl,x⟩
theorem Lj{h:H}{l:List V}(hp:h.get p=some (.cells (.bool false::l) 83 false)):KW 58 [.ptr p 0] h=some (.ret (.bool true),h):=by
 have r0:h.Zp p 0=some (.bool false):=by rw[ZZ hp];rfl
 rw[W1 fk,s58];simp[r0]
theorem vN(h:H):RT (λw h'=>w=.bool true) (KW 6 [] h):=by
 obtain⟨_,h1,a1,g,rfl,G1,x1⟩:=(DE h).elim;obtain⟨_,h2,a2,v2,rfl,W2,x2⟩:=(Tf h1).elim;obtain⟨_,h3,a3,c,rfl,C3,x3⟩:=(Gx W2.OB MU true).elim;have C3:=C3.cut;obtain⟨_,h4,a4,rfl,x4⟩:=(D7 h3).elim;obtain⟨h5,Vv⟩:∃z,z=h4.new (.cells YC.cs 42 false):=⟨_,rfl⟩
 have n5:h5.n=h4.n+1:=by rw[Vv,H.ZP]
 obtain⟨h6,OP⟩:∃z,z=h5.new (.cells YC.cs 42 false):=⟨_,rfl⟩
 have n6:h6.n=h5.n+1:=by rw[OP,H.ZP]
 have g6:h6.get h4.n=some (.cells YC.cs 42 false):=by rw[OP,ZR (by omega),Vv,ZY]
 obtain⟨h7,Hu⟩:∃z,z=h6.put h4.n (.cells OS.cs 42 false):=⟨_,rfl⟩
 have w7:h6.X4 h4.n 0 OS.cs=some h7:=by rw[ZF g6 (by simp),Hu];rfl
 have g7:h7.get h5.n=some (.cells YC.cs 42 false):=by rw[Hu,ZX (by omega),OP,ZY]
 obtain⟨h8,WM⟩:∃z,z=h7.put h5.n (.cells PL.cs 42 false):=⟨_,rfl⟩
 have w8:h7.X4 h5.n 0 PL.cs=some h8:=by rw[ZF g7 (by simp),WM];rfl
 have n8:h8.n=h6.n:=by rw[WM,Hu];rfl
 have gA:h8.get h4.n=some (.cells OS.cs 42 false):=by rw[WM,ZX (by omega),Hu,ZV (by omega)]
 have gB:h8.get h5.n=some (.cells PL.cs 42 false):=by rw[WM,ZV (by rw[Hu,H.ZJ];omega)]
 have x8:Ext h4 h8:=by
  rw[WM,Hu,OP,Vv];exact ((((Ext.refl _).new _).new _).put (Nat.le_refl _) _).put (by rw[H.ZP];omega) _
 obtain⟨_,h9,a9,rfl,x9⟩:=(HQ (.ptr g 0) OS h8).elim;obtain⟨IE,O6⟩:∃z,z=h9.new (.cells YC.cs 42 false):=⟨_,rfl⟩
 have n10:IE.n=h9.n+1:=by rw[O6,H.ZP]
 have Ha:Ext h8 IE:=by rw[O6];exact x9.new _
 have m2:=x2.n;have m3:=x3.n;have m4:=x4.n;have m8:=x8.n;have m9:=x9.n;have wqx:=(x4.trans x8).trans Ha;obtain⟨_,BQ,ko,rfl,C11,M11⟩:=(oC (C3.keep wqx.n λb hb=>wqx.get b) (λb hb=>by have:=hb.2;omega) (by decide) OS).elim;have m11:=M11.n;obtain⟨IC,lC⟩:∃z,z=BQ.new (.cells YC.cs 42 false):=⟨_,rfl⟩
 have n12:IC.n=BQ.n+1:=by rw[lC,H.ZP]
 obtain⟨_,Gw,a13,rfl,A9⟩:=(F0 (.ptr g 0) IC).elim;have m13:=A9.n;obtain⟨mC,HR⟩:∃z,z=Gw.new (.cells [.bool false,.int .i64 0,.int .i64 0,.int .i64 0,.int .i64 0,.ZO,.Sz] 83 false):=⟨_,rfl⟩
 have n14:mC.n=Gw.n+1:=by rw[HR,H.ZP]
 have x14:Ext BQ mC:=by rw[HR];exact (((lC▸(Ext.refl BQ).new _:Ext BQ IC).trans A9).new _)
 have z14:mC.get Gw.n=some (.cells [.bool false,.int .i64 0,.int .i64 0,.int .i64 0,.int .i64 0,.ZO,.Sz] 83 false):=by rw[HR,ZY]
 have nd:∀b,h3.n<=b->(b<IE.n\/BQ.n<=b)->¬grow (λb=>h2.n<=b/\b<h3.n) IE BQ b:=λb _ _ hd=>by rcases hd with hd|hd<;>omega
 obtain⟨_,xr,a15,rfl,ji⟩:=(oB (C11.keep x14.n λb hb=>x14.get b) (by decide) (y:=.ptr Gw.n 0) λg M=>Lj (by rw[M.get _ (by omega) (nd _ (by omega) (by omega)),z14])).elim;have m15:=ji.n;have xqT:∀b,h3.n<=b->b<IE.n->xr.get b=IE.get b:=λb k1 k2=>by rw[ji.get _ (by omega) (nd _ k1 (.inl k2)),x14.get _ (by omega),M11.get _ k2 (by omega)]
 have yqP:xr.get h4.n=_:=(xqT _ (by omega) (by omega)).trans ((Ha.get _ (by omega)).trans gA);have BqW:xr.get h5.n=_:=(xqT _ (by omega) (by omega)).trans ((Ha.get _ (by omega)).trans gB);have wqt:xr.get h9.n=some (.cells YC.cs 42 false):=by rw[xqT _ (by omega) (by omega),O6,ZY]
 have wqs:xr.get BQ.n=some (.cells YC.cs 42 false):=by rw[ji.get _ (by omega) (nd _ (by omega) (by omega)),HR,ZR (by omega),A9.get _ (by omega),lC,ZY]
 have rd:∀{gg:H} {i:Nat} {b:Bk},gg.get i=some (.cells b.cs 42 false)->gg.Ze i 0 23=some b.cs:=λ{gg i b} hg=>by rw[ZU hg (by simp)];rfl
 have w10:IE.X4 h9.n 0 YC.cs=some IE:=by rw[O6];exact YO _ _ _ _ rfl
 have w12:IC.X4 BQ.n 0 YC.cs=some IC:=by rw[lC];exact YO _ _ _ _ rfl
 rw[W0 r6,s6];simp[a1,a2,a3,a4,nw,bx,<-Vv,<-OP,w7,w8,rd gA,a9,<-O6,w10,rd ((Ha.get _ (by omega)).trans gA),ko,<-lC,w12,a13,<-HR,a15,rd yqP,rd BqW,rd wqt,rd wqs,ah,kqc];refine XV (C:=λo=>RT _ (Zf.fin Tryz.prog _ _ (sq (Y9 0 o) _))) _ _ (yqB (hP:=xr) (p5:=h4.n) (p6:=h5.n)) 40 ⟨Nat.le_refl _,⟨(Ext.refl _).new _,by simp,by simp,[⟨OS,false,0,0⟩,⟨PL,false,0,0⟩],.inr ⟨xr.n,by simp,by rw[ZY];simp,rfl,Nat.le_refl _⟩,Nat.le_refl _,by decide⟩,by simp⟩ ?_;rintro⟨sx,se,h17⟩ ⟨s1,i17⟩;simp only at s1 i17;subst s1;simp[i17.e5,i17.e6];refine XV (C:=λo=>RT _ (Zf.fin Tryz.prog _ _ (sq (Y9 2 o) _))) _ _ (yqA (hP:=xr) (p5:=h4.n) (p6:=h5.n)) 12 ⟨Nat.le_refl _,⟨i17.x,by simp[i17.e5],by simp[i17.e6],by simpa using i17.l⟩,by simp⟩ ?_;rintro⟨sx,se,h18⟩ ⟨s1,x18,e5,e6,L,lv,_,hI⟩;simp only at s1 x18 e5 e6 lv;subst s1;have rA:∀{g},Ext h18 g->g.Ze h4.n 0 23=some OS.cs:=λy=>rd ((y.get _ (by have:=x18.n;omega)).trans ((x18.get _ (by omega)).trans yqP));have rB:∀{g},Ext h18 g->g.Ze h5.n 0 23=some PL.cs:=λy=>rd ((y.get _ (by have:=x18.n;omega)).trans ((x18.get _ (by omega)).trans BqW));obtain⟨_,h19,a19,rfl,x19⟩:=(Mw OS true false h18).elim;obtain⟨_,h20,a20,rfl,x20⟩:=(Mw PL true false h19).elim;obtain⟨_,h21,a21,rfl,x21⟩:=(Mw OS false true h20).elim;rw[if_pos (by decide +kernel)]at a19;rw[if_neg (by decide +kernel)]at a20 a21;obtain⟨h22,xqS⟩:∃z,z=h21.new (.cells W8 57 false):=⟨_,rfl⟩
 have b22:bs h21 57 4 [.bool false,.bool false,.bool false,.bool false,.bool false,.bool false,.bool false,.bool false] [(some (0,2),.agg [.bool false,.bool false]),(some (2,2),.agg [.bool true,.bool false]),(some (4,2),.agg [.bool false,.bool true]),(some (6,2),.agg [.bool true,.bool true])]=some (.sl h21.n 0 4 (.ex 4),h22):=by rw[xqS];rfl
 have t:∀a b:Bool,bl [.bool false,.bool false] [(some (0,1),.bool a),(some (1,1),.bool b)]=some (.agg [.bool a,.bool b]):=λ_ _=>rfl;have x22:Ext h18 h22:=by rw[xqS];exact (((x19.trans x20).trans x21).new _)
 simp[e5,e6,rA (Ext.refl _),a19,rB x19,a20,rA (x19.trans x20),a21,t,b22];refine XV (C:=λo=>RT _ (Zf.fin Tryz.prog _ _ (sq (Y9 4 o) _))) _ _ (yqy (hQ:=h22) (p:=h21.n) (lv.dos.ext x22.get) hI (by rw[xqS,ZY])) 4 ⟨Nat.le_refl _,Ext.refl _,by simp,by simp,by simp⟩ ?_;rintro⟨sx,se,h23⟩ ⟨s1,x23⟩;simp only at s1 x23;subst s1;obtain⟨_,h24,a24,rfl,x24⟩:=(BO h23).elim;simp[a24];rfl
theorem core6(W:World):Calls Tryz.prog 6 #[] W λe W'=>e=.returned (.bool true)/\Go.RowKit.Below W.heap.size W W':=by
 have a:=SD.empty W;obtain⟨w,h'',QS,rfl⟩:=(vN H.empty).elim;exact AP (us:=[]) (vO mixed kp QS) a.rel .nil a.NU a.no
end Go.Proofs.YtbkmdnmncaakdaaGreat
