import Derived.Test.YtbkmdnmncaakdaaGreatPfHad
set_option linter.unusedVariables false
set_option linter.unusedSimpArgs false
set_option maxRecDepth 20000
namespace Go.Proofs.YtbkmdnmncaakdaaGreat
open Go Go.Zf
open Go.Zf (ZS)
variable{h:H}{v:V}{l:List Nat}
theorem Jd.read(a:Jd h v l):Kc v=some (.int .i64 (l.length:Nat))/\∀i x,l[i]?=some x->∃b o,PY 1 v (.int .i64 (i:Nat))=some (.ptr b o)/\h.Zp b o=some (.int .u8 (x:Nat)):=by
 rcases a with ⟨rfl,rfl⟩|⟨b,o,k,c,e,ro,rfl,h1,h2,h3⟩
 .exact⟨rfl,λi x h=>by simp at h⟩
 .refine⟨rfl,λi x hx=>?_⟩
  have hi:i<l.length:=by
   rcases Nat.lt_or_ge i l.length with h|h
   .exact h
   .rw[List.getElem?_eq_none h]at hx;cases hx
  refine⟨b,o+i,by simp[hi],?_⟩;rw[ZZ h1];have:((c.drop o).take l.length)[i]?=(ZG l)[i]?:=by rw[h3]
  rw[List.getElem?_take_of_lt hi,List.getElem?_drop]at this;rw[this];simp[ZG,hx]
variable{w:V}
theorem wqM(hv:Jd h v l)(hw:Jd h w l)(hl:l.length<140737488355329):KW 27 [v,w] h=some (.ret (.bool true),h):=by
 obtain⟨v1,v2⟩:=hv.read;obtain⟨w1,w2⟩:=hw.read;rw[W2 r27,s27];simp[v1,w1];refine XV (C:=λo=>Zf.fin Tryz.prog _ _ (sq (Y9 0 o) _)=_) (λk e g=>k<=l.length/\g=h/\e.s [0,1,4,5] 0=v/\e.s [0,1,4,5] 1=w/\e.s [0,1,4,5] 5=.int .i64 ((l.length-k:Nat):Int)) (λs=>s.h=h/\s.x=.ex 0) ?_ l.length ⟨Nat.le_refl _,rfl,by simp,by simp,by simp⟩ ?_
 .rintro k e g ⟨hk,rfl,e0,e1,e5⟩
  obtain⟨i,hi⟩:∃i,i=l.length-k:=⟨_,rfl⟩
  rw[<-hi]at e5;by_cases c:i<l.length
  .obtain⟨b,o,a1,a2⟩:=v2 i l[i] (List.getElem?_eq_getElem c)
   obtain⟨b',o',a3,a4⟩:=w2 i l[i] (List.getElem?_eq_getElem c);have z2:IntKind.i64.wrap ((i:Int)+1)=((i+1:Nat):Int):=by rw[ZS (by omega) (by omega)];omega
   simp[kqb,e0,e1,e5,v1,c,show (i:Int)<(l.length:Nat)by omega,a1,a2,a3,a4,z2,-Int.natCast_add];exact⟨k-1,by omega,by omega,rfl,by simp[e0],by simp[e1],by rw[show l.length-(k-1)=i+1 by omega];simp⟩
  .simp[kqb,e0,e1,e5,v1,c,show ¬(i:Int)<(l.length:Nat)by omega]
   exact⟨rfl,rfl⟩
 .rintro⟨sx,se,sh⟩ ⟨s1,s2⟩
  simp only at s1 s2;subst s1 s2;simp
structure PT(h:H)(v:V)(L:List Bk):Prop where
 len:Kc v=some (.int .i64 (L.length:Nat))
 at_:∀(i:Nat) (b:Bk),L[i]?=some b->∃p o,PY 23 v (.int .i64 (i:Nat))=some (.ptr p o)/\h.Ze p o 23=some b.cs
variable{p:Nat}{L:List Bk}
theorem oE(gv:Zv p h v 42 23 (L.flatMap Bk.cs) L.length):PT h v L:=by
 refine⟨gv.len,λi d hd=>?_⟩;have hi:i<L.length:=by
  rcases Nat.lt_or_ge i L.length with h|h
  .exact h
  .rw[List.getElem?_eq_none h]at hd;cases hd
 rcases gv with ⟨rfl,h0,_⟩|⟨c,rfl,h2,h3,_⟩
 .omega
 .refine⟨c,i*23,by simp[hi],?_⟩
  rw[ZU h2 (by rw[xp];omega),rV _ _ _ hd]
theorem Pl(gv:Zv p h v 42 23 (L.flatMap Bk.cs) L.length):lenOf v=some L.length/\XY h 23 L.length v=some (L.flatMap Bk.cs):=by
 rcases gv with ⟨rfl,h0,h1⟩|⟨c,rfl,h2,h3,_⟩
 .rw[h0,h1];exact⟨rfl,rfl⟩
 .refine⟨rfl,?_⟩
  unfold XY;simp only;rw[ZU h2 (by omega),List.drop_zero,List.take_of_length_le (by omega)]
theorem fz(hv:PT h v L)(hw:PT h w L)(hl:L.length<100000):KW 28 [v,w] h=some (.ret (.bool true),h):=by
 obtain⟨v1,v2⟩:=hv;obtain⟨w1,w2⟩:=hw;rw[W2 r28,s28];simp[v1,w1];refine XV (C:=λo=>Zf.fin Tryz.prog _ _ (sq (Y9 0 o) _)=_) (λk e g=>k<=L.length/\g=h/\e.s [0,1,4,5] 0=v/\e.s [0,1,4,5] 1=w/\e.s [0,1,4,5] 5=.int .i64 ((L.length-k:Nat):Int)) (λs=>s.h=h/\s.x=.ex 0) ?_ L.length ⟨Nat.le_refl _,rfl,by simp,by simp,by simp⟩ ?_
 .rintro k e g ⟨hk,rfl,e0,e1,e5⟩
  obtain⟨i,hi⟩:∃i,i=L.length-k:=⟨_,rfl⟩
  rw[<-hi]at e5;by_cases c:i<L.length
  .obtain⟨b,o,a1,a2⟩:=v2 i L[i] (List.getElem?_eq_getElem c)
   obtain⟨b',o',a3,a4⟩:=w2 i L[i] (List.getElem?_eq_getElem c);have z2:IntKind.i64.wrap ((i:Int)+1)=((i+1:Nat):Int):=by rw[ZS (by omega) (by omega)];omega
   simp[yqz,e0,e1,e5,v1,c,show (i:Int)<(L.length:Nat)by omega,a1,a2,a3,a4,z2,-Int.natCast_add];exact⟨k-1,by omega,by omega,rfl,by simp[e0],by simp[e1],by rw[show L.length-(k-1)=i+1 by omega];simp⟩
  .simp[yqz,e0,e1,e5,v1,c,show ¬(i:Int)<(L.length:Nat)by omega]
   exact⟨rfl,rfl⟩
 .rintro⟨sx,se,sh⟩ ⟨s1,s2⟩
  simp only at s1 s2;subst s1 s2;simp
variable{D:Nat->Prop}{g:Nat}{G:Gr}
theorem zD(a:YY D h g G)(hn:G.bs.length<100000):RT (λw h'=>PT h' w G.bs/\Ext h h') (KW 30 [.ptr g 0] h):=by
 obtain⟨⟨vb,h1,gv,_⟩,_⟩:=a;have r4:=ZZ (o:=4) h1;obtain⟨f1,f2⟩:=Pl gv;obtain⟨v',h',k1,k2,k3,k4,_⟩:=Vq (bytes:=176) (Zv.nil 0 h 42 23) (Nat.zero_le _) f1 f2 (by rw[xp]) (by omega);rw[W1 r30,s30];simp[r4,k1];rw[List.nil_append,Nat.zero_add]at k2;exact⟨oE k2,⟨k3,λb hb=>k4 b hb λo n k e=>by cases e⟩⟩
theorem yV(a:Zl D h g G)(hn:G.bs.length<100000):RT (λw h'=>PT h' w G.bs/\Ext h h') (KW 29 [.ptr g 0] h):=by
 have e0:=UN a;obtain⟨⟨vb,m,h1,_,gv,_⟩,_⟩:=a;have r5:=ZZ (o:=5) h1;have gv0:=gv;obtain⟨f1,f2⟩:=Pl gv;have cl:RT (λw h'=>PT h' w G.bs/\Ext h h') (KW 79 [vb] h):=by
  rw[W1 r79,s79];rcases gv with ⟨rfl,z0,z1⟩|⟨c,rfl,z2,z3,_⟩
  .simp
   exact⟨oE gv0,Ext.refl _⟩
  .obtain⟨h2,Zq⟩:∃z,z=h.new (.cells [] 42 false):=⟨_,rfl⟩
   have x2:Ext h h2:=by rw[Zq];exact (Ext.refl h).new _
   have n2:h2.n=h.n+1:=by rw[Zq,H.ZP]
   have hc:=H.ZW z2;have f3:XY h2 23 G.bs.length (.sl c 0 G.bs.length (.op 23))=some (G.bs.flatMap Bk.cs):=by
    unfold XY;simp only;rw[ZU ((x2.get c hc).trans z2) (by omega),List.drop_zero,List.take_of_length_le (by omega)]
   have b2:h2.get h.n=some (.cells [] 42 false):=by rw[Zq,ZY]
   by_cases l0:G.bs.length=0
   .have ap:Vk 42 23 176 h2 (.sl h.n 0 0 (.ex 0)) (.sl c 0 G.bs.length (.op 23))=some (.sl h.n 0 0 (.ex 0),h2):=by
     have:G.bs.flatMap Bk.cs=[]:=List.eq_nil_of_length_eq_zero (by omega);rw[this]at f3;rw[l0]at f3 ⊢;have w0:h2.X4 h.n 0 []=some h2:=by
      rw[ZF b2 (by simp),Zq]
      show some ((h.new (.cells [] 42 false)).put h.n (.cells [] 42 false))=_
      rw[MK]
     simp[Vk,lenOf,f3,Iu,w0]
    simp[bs,YD,<-Zq,ap];have e:G.bs=[]:=List.eq_nil_of_length_eq_zero l0;rw[e];exact⟨⟨rfl,λi b hb=>by simp at hb⟩,x2⟩
   .have ap:Vk 42 23 176 h2 (.sl h.n 0 0 (.ex 0)) (.sl c 0 G.bs.length (.op 23))=some (.sl h2.n 0 G.bs.length (.op 23),h2.new (.cells (G.bs.flatMap Bk.cs) 42 false)):=by
     have r0:h2.Ze h.n 0 0=some []:=by rw[ZU b2 (by simp)];rfl
     simp[Vk,lenOf,f3,Iu,r0,show ¬G.bs.length<=0 by omega,l0];omega
    simp[bs,YD,<-Zq,ap];refine⟨oE (p:=0) (.inr ⟨h2.n,rfl,ZY,z3,Nat.zero_le _⟩),x2.new _⟩
 obtain⟨w,h',a9,b9,x9⟩:=cl.elim;rw[W1 r29,s29];simp[e0,r5,a9];exact⟨b9,x9⟩
end Go.Proofs.YtbkmdnmncaakdaaGreat
set_option linter.unusedVariables false
set_option linter.unusedSimpArgs false
set_option maxRecDepth 20000
namespace Go.Proofs.YtbkmdnmncaakdaaGreat
open Go Go.Zf
open Go.Zf (ZS)
open Go.ChangeShapes Go.WideShapes
variable{h:H}
theorem wqN{b o n m:Nat}{l:List V}(hr:h.Ze b o n=some l)(hm:m<=n):h.Ze b o m=some (l.take m):=by
 unfold H.Ze at hr ⊢;cases hg:h.get b with
 |none=>rw[hg]at hr;cases hr
 |some x =>
  rw[hg]at hr;cases x with
  |cells c t ro =>
   simp only at hr ⊢;split at hr
   .cases hr
    rw[if_pos (by omega),List.take_take,Nat.min_eq_left hm]
   .cases hr
  |_=>cases hr
variable{Nh:Nat->Nat}{h0 h':H}{c g cr gr:Nat}
theorem Bo.ext{i:Nat}{wr:Bool}(a:Bo Nh h0 c g cr gr i wr h)(x:Ext h h'):Bo Nh h0 c g cr gr i wr h':=by
 obtain⟨st,G,col,q,hG,hw,s⟩:=a;exact⟨st,G,col,q.ext x,hG,hw,s.trans (Xl.ext x)⟩
variable{v:V}{L:List Bk}
theorem PT.ext(a:PT h v L)(x:Ext h h'):PT h' v L :=
 ⟨a.len,λi d hd=>by
  obtain⟨b,o,h1,h2⟩:=a.at_ i d hd;exact⟨b,o,h1,zB h2 (x.get b)⟩⟩
abbrev oW:List Nat:=[0,1,2,6,7,8,9,10,11,12,13,14,15,16,18,20,22]
structure I5(Nh:Nat->Nat)(h0:H)(lv:V)(key ll:Bool)(c g cr gr i:Nat)(e:E)(h:H):Prop where
 bo:Bo Nh h0 c g cr gr i true h
 e0:e.s oW 0=lv
 e1:e.s oW 1=.bool key
 e2:e.s oW 2=.bool ll
 e7:e.s oW 7=.ptr c 0
 e9:e.s oW 9=.ptr cr 0
 Vn:e.s oW 11=.ptr g 0
 TS:e.s oW 13=.ptr gr 0
 OC:e.s oW 15=.int .i64 (i:Nat)
variable{lv:V}{key ll:Bool}
theorem wqL{L:List Dq}(hL:∀{h:H},(∀b,b<h0.n->Nh b=0->h.get b=h0.get b)->MD h lv L)(hI:∀d∈L,Vw d.b.x/\Vw d.b.y):
  ∀k e h,(k<=min L.length 60/\I5 Nh h0 lv key ll c g cr gr (min L.length 60-k) e h)->LS (λk e h=>k<=min L.length 60/\I5 Nh h0 lv key ll c g cr gr (min L.length 60-k) e h) (λs=>s.x=.ex 0/\(∃i,i<=60/\Bo Nh h0 c g cr gr i true s.h)/\s.e.s oW 7=.ptr c 0/\s.e.s oW 9=.ptr cr 0/\s.e.s oW 11=.ptr g 0/\s.e.s oW 13=.ptr gr 0) k (kqd KW ZI e h):=by
 rintro k e h ⟨hk,⟨bo,e0,e1,e2,e7,e9,Vn,TS,OC⟩⟩;obtain⟨i,hi⟩:∃i,i=min L.length 60-k:=⟨_,rfl⟩
 rw[<-hi]at bo OC;have fr:∀{h},Bo Nh h0 c g cr gr i true h->∀b,b<h0.n->Nh b=0->h.get b=h0.get b:=λbo b hb iF=>by obtain⟨st,G,col,q,_,_,s⟩:=bo;exact (s.2 b hb iF).2
 have dl:=hL (fr bo);have hln:Kc lv=some (.int .i64 (L.length:Nat)):=dl.len;by_cases ci:i=min L.length 60
 .by_cases c1:i<L.length
  .simp[kqd,e0,hln,OC,c1,show ¬i<60 by omega,show (i:Int)<(L.length:Nat)by omega,show ¬(i:Int)<60 by omega]
   exact⟨rfl,⟨i,by omega,bo⟩,by simp[e7],by simp[e9],by simp[Vn],by simp[TS]⟩
  .simp[kqd,e0,hln,OC,c1,show ¬(i:Int)<(L.length:Nat)by omega]
   exact⟨rfl,⟨i,by omega,bo⟩,by simp[e7],by simp[e9],by simp[Vn],by simp[TS]⟩
 have c1:i<L.length:=by omega
 have c2:i<60:=by omega
 obtain⟨d,hd⟩:∃d,L[i]?=some d:=⟨L[i],List.getElem?_eq_getElem c1⟩
 obtain⟨ix,iy⟩:=hI d (List.mem_of_getElem? hd);obtain⟨b,o,ia,rN⟩:=dl.at_ i d hd;have rB:∀{g:H},g.Ze b o 26=some d.cs->g.Ze b o 23=some d.b.cs:=λhg=>by rw[wqN hg (by decide)];rfl
 obtain⟨_,h1,a1,rfl,x1⟩:=(Mw d.b key ll h).elim;have rN1:=zB rN (x1.get b);obtain⟨_,h2,a2,rfl,x2⟩:=(Jr d.b key ll h1).elim;have rN2:=zB rN1 (x2.get b);obtain⟨f,h',a,bo'⟩:=((bo.ext x1).ext x2).step c2 ix iy key ll;have z2:IntKind.i64.wrap ((i:Int)+1)=((i+1:Nat):Int):=by rw[ZS (by omega) (by omega)];omega
 obtain⟨mv,uG⟩:∃z:Int,z=if WE key ll d.b then 0 else 2:=⟨_,rfl⟩
 rw[<-uG]at a1 a2;simp[kqd,e0,hln,OC,c1,c2,show (i:Int)<(L.length:Nat)by omega,show (i:Int)<60 by omega,ia,rB rN,rB rN1,e1,e2,a1,a2,rN2,e7,e9,Vn,TS,a,z2,-Int.natCast_add];refine⟨k-1,by omega,by omega,?_⟩;rw[show min L.length 60-(k-1)=i+1 by omega];exact⟨bo',by simp[e0],by simp[e1],by simp[e2],by simp,by simp,by simp,by simp,by simp⟩
end Go.Proofs.YtbkmdnmncaakdaaGreat
set_option linter.unusedVariables false
set_option linter.unusedSimpArgs false
set_option maxRecDepth 20000
namespace Go.Proofs.YtbkmdnmncaakdaaGreat
open Go Go.Zf
open Go.Zf (ZS)
open Go.ChangeShapes Go.WideShapes
variable{h:H}{lv:V}{key ll:Bool}
theorem bm{L:List Dq}(hL:MD h lv L)(hI:∀d∈L,Vw d.b.x/\Vw d.b.y):
  RT (λw h'=>w=.bool true/\Ext h h') (KW 5 [lv,.bool key,.bool ll] h):=by
 obtain⟨_,h2,a2,v2,rfl,W2,x2⟩:=(Tf h).elim;obtain⟨_,h3,a3,c,rfl,C3,x3⟩:=(Gx W2.OB MU true).elim;have C3:=C3.cut;obtain⟨_,h4,a4,v4,rfl,W4,x4⟩:=(IF h3).elim;obtain⟨_,h5,a5,cr,rfl,C5,x5⟩:=(BI W4.OB MU true).elim;have C5:=C5.under;obtain⟨_,h6,a6,g,rfl,G6,x6⟩:=(DE h5).elim;obtain⟨_,h7,a7,gr,rfl,G7,x7⟩:=(tH h6).elim;have m2:=x2.n;have m3:=x3.n;have m4:=x4.n;have m5:=x5.n;have m6:=x6.n;have m7:=x7.n;obtain⟨col,q7,c0⟩:=wqS (by omega) (by omega) (by omega) (by omega) (C3.keep (by omega) λb _ hb=>(((x4.trans x5).trans x6).trans x7).get b hb) ((C5.ext x6).ext x7) (G6.ext x7) G7;have c0:=λb (hb:b<h.n)=>c0 b (by omega);have x07:=((((x2.trans x3).trans x4).trans x5).trans x6).trans x7;have hL7:∀{h':H},(∀b,b<h7.n->col b=0->h'.get b=h7.get b)->MD h' lv L:=λ{h'} k=>hL.ext λb hb=>by rw[k b (by omega) (c0 b (by omega)),x07.get b (by omega)]
 rw[W3 r5,s5];simp[a2,a3,a4,a5,a6,a7];refine XV (C:=λo=>RT _ (Zf.fin Tryz.prog _ _ (sq (Y9 0 o) _))) _ _ (wqL (key:=key) (ll:=ll) hL7 hI) (min L.length 60)
  ⟨Nat.le_refl _,by rw[Nat.sub_self];exact⟨⟨rX QC true,Nk,col,q7,by simp[Nk],rfl,⟨Nat.le_refl _,λb _ h0=>⟨h0,rfl⟩⟩⟩,by simp,by simp,by simp,by simp,by simp,by simp,by simp,by simp⟩⟩ ?_
 rintro⟨sx,se,h8⟩ ⟨s1,⟨i,hi,st,G,Fa,q8,hG,hw,s8⟩,e7,e9,Vn,TS⟩;simp only at s1 q8 s8 e7 e9 Vn TS;subst s1;obtain⟨T,hs⟩:∃T:Sr,st.sd=wS T:=by
  cases e:st.sd with
  |w o lo rn=>exact⟨(o,lo,rn),rfl⟩
  |r=>rw[e]at hw;cases hw
 have HE:=BS (T:=T) (by have:=q8.c1.ok.2.1;rw[hs]at this;exact this);obtain⟨_,h9,a9,b9,rfl,B9,x9⟩:=(ED q8.c1 hs).elim;have q9:=q8.ext x9;obtain⟨_,IE,lH,ju,rfl,B10,Ha⟩:=(sT q9.c2 hs).elim;have DM:=q9.ext Ha;obtain⟨_,BQ,ko,v11,rfl,W11,yT⟩:=(yU DM.c1).elim;obtain⟨IC,lC⟩:∃z,z=BQ.new (.cells [v11] 30 false):=⟨_,rfl⟩
 have yS:Ext BQ IC:=by rw[lC];exact (Ext.refl BQ).new _
 have zw:(BQ.new (.cells [.ZO] 30 false)).X4 BQ.n 0 [v11]=some IC:=by rw[lC];exact YO _ _ _ _ rfl
 have zw':(BQ.new (.cells [.ZO] 30 false)).WO BQ.n 0 v11=some IC:=by rw[lC,PE _ _ _ _ _ (by simp)];rfl
 have u12:IC.Ze BQ.n 0 1=some [v11]:=by rw[lC];exact VZ _ _ _ _ _ _ (by simp)
 have uJ:=(DM.ext yT).ext yS;have eb:=wqM (h:=IC) (((B9.slb.keep Ha.get).keep yT.get).keep yS.get) ((B10.slb.keep yT.get).keep yS.get) HE;obtain⟨vs,rs,Ws,_⟩:=uJ.c2.set;obtain⟨_,Gw,a13,rfl,A9⟩:=(BP (W11.OB.ext yS) Ws.OB uJ.c1.ok.1.small).elim;have iE:=uJ.ext A9;obtain⟨l14,mC,a14,b14,x14⟩:=(yV iE.g1 (by omega)).elim;obtain⟨l15,xr,a15,b15,x15⟩:=(zD (iE.ext x14).g2 (by omega)).elim;have a16:=fz (b14.ext x15) b15 (by omega);obtain⟨_,h17,a17,rfl,x17⟩:=(BO xr).elim;have x8:Ext h h8:=⟨by have:=s8.1;omega,λb hb=>by rw[(s8.2 b (by omega) (c0 b (by omega))).2,x07.get b (by omega)]⟩
 have xF:=(((((((x8.trans x9).trans Ha).trans yT).trans yS).trans A9).trans x14).trans x15).trans x17;simp[e7,e9,Vn,TS,a9,lH,ko,nw,zw,zw',eb,u12,rs,a13,a14,a15,a16,a17,W11.nZ,Ws.nZ];exact⟨rfl,xF⟩
end Go.Proofs.YtbkmdnmncaakdaaGreat
