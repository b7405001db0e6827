import Derived.Test.YtbajipmhnoakeaaGreatPnHl
set_option linter.unusedVariables false
set_option linter.unusedSimpArgs false
set_option maxRecDepth 20000
namespace Go.Proofs.YtbajipmhnoakeaaGreat
open Go Go.Zf Go.RowKit Go.WideShapes
open Go.Zf (wi64)
structure I3 (h1:H) (v:V) (n c r j:Nat) (e:E) (g:H):Prop where
 hj:j≤n∧n - j≤8
 x:Ext h1 g
 P:∃ m st D F,P2 h1 g c r m st D F∧st.sd.writes=true∧m≤50000*(n - j)
 e0:e.s K3 0=v
 e5:e.s K3 5=.ptr c 0
 e7:e.s K3 7=.ptr r 0
 e9:e.s K3 9=.int .i64 ((n - j:Nat):Int)
structure O3 (h1:H) (c r:Nat) (s:Go.Zf.St):Prop where
 hx:s.x=.ex 0
 x:Ext h1 s.h
 P:∃ m st D F,P2 h1 s.h c r m st D F∧st.sd.writes=true∧m≤400000
 e5:s.e.s K3 5=.ptr c 0
 e7:s.e.s K3 7=.ptr r 0
theorem loopW3 {h1:H} {v:V} {l:List Dg} {c r:Nat} (A:SlA h1 4 v l.length fun j p=>∀ x,l[j]?=some x→DoW h1 p x) {e:E} {g:H} {o:Out} (ho:loopZ (l3_1 KW loopZ) e g=o) (hi:I3 h1 v l.length c r l.length e g) :
  ∃ s,o=some s∧O3 h1 c r s:=by
 have loop:=loop_run (body:=l3_1 KW loopZ) (I3 h1 v l.length c r) (O3 h1 c r) (fun j e g hi=>by
  obtain ⟨hj,x,⟨m,st,D,F,P,hw,hm⟩,e0,e5,e7,e9⟩:=hi
  have sl:=A.len
  cases j with
  | zero =>
   rw [Nat.sub_zero] at e9
   simp [l3_1,e0,e9,sl,gl_t]
   exact ⟨rfl,x,⟨m,st,D,F,P,hw,by omega⟩,by simp [e5],by simp [e7]⟩
  | succ j =>
   obtain ⟨i,hi⟩:∃ i,i=l.length - (j+1):=⟨_,rfl⟩
   rw [← hi] at e9 hm hj
   have hil:i < l.length:=by omega
   by_cases h8:i < 8
   ·obtain ⟨d,hd⟩:∃ d,l[i]?=some d:=⟨l[i],List.getElem?_eq_getElem hil⟩
    obtain ⟨b0,o0,p,t1,t2,t3,_,_⟩:=(A.ext x).at hil
    obtain ⟨vl,rfl,hI,hfv,hlo,hbd⟩:=t3 d hd
    -- the copy
    obtain ⟨g0,hg0⟩:∃ y,y=(g.new (.cells [.int .i64 0,.int .i64 0,.int .i64 0,.nils] 36 false)).put g.n (.cells [.int .i64 d.s,.int .i64 d.p,.int .i64 d.q,vl] 36 false):=⟨_,rfl⟩
    have x0:Ext g g0:=by rw [hg0];exact ((Ext.refl g).new _).put (Nat.le_refl _) _
    have n0:g0.n=g.n+1:=by rw [hg0,H.n_put,H.n_new]
    have r0:g0.get g.n=some (.cells [.int .i64 d.s,.int .i64 d.p,.int .i64 d.q,vl] 36 false):=by rw [hg0,get_put_same (by rw [H.n_new];omega)]
    have w0:(g.new (.cells [.int .i64 0,.int .i64 0,.int .i64 0,.nils] 36 false)).wrN g.n 0 [.int .i64 d.s,.int .i64 d.p,.int .i64 d.q,vl]=some g0:=by rw [wrN_of get_new_same (by simp),hg0];rfl
    have xg:=x.trans x0
    have xn:=x.n
    have aD:¬ D g.n:=fun h=>by have:=P.hD _ h;omega
    have aF:¬ F g.n:=fun h=>by have:=P.hF _ h;omega
    obtain ⟨w10,gA,a10,xA,G10⟩:=(copyIntsG_ok hbd (firstV_ext xg hfv) hlo).elim
    have nA:=xA.n
    have P0:=(P.ext x0).ext xA
    have xgA:=xg.trans xA
    have h10:IntsX D gA w10 d.l:=IntsX.grow G10 fun b hb _ hd=>by have:=P.hD _ hd;omega
    have h10':IntsX (fun b=>b < g0.n) gA w10 d.l:=IntsX.grow G10 fun b hb _ hd=>by omega
    obtain ⟨w1,w2,ec,g1,g2,m',L,N,st',a1,a2,hw',hm',B⟩:=both3 P0 xgA (by omega) hw hI hfv hlo h10
    have gA0:gA.get g.n=g0.get g.n:=xA.get _ (by omega)
    have g10:g1.get g.n=g0.get g.n:=by rw [B.k1 _ (by omega) aD,gA0]
    have g20:g2.get g.n=g0.get g.n:=by rw [B.k _ (by omega) aD aF,gA0]
    have rd:∀ {g':H},g'.get g.n=g0.get g.n→g'.rd1 g.n 0=some (.int .i64 d.s)∧g'.rd1 g.n 1=some (.int .i64 d.p)∧g'.rd1 g.n 2=some (.int .i64 d.q)∧g'.rd1 g.n 3=some vl:=fun {g'} h=>by
     rw [r0] at h
     exact ⟨by rw [rd1_of h];rfl,by rw [rd1_of h];rfl,by rw [rd1_of h];rfl,by rw [rd1_of h];rfl⟩
    obtain ⟨_,_,_,q3⟩:=rd (g':=g0) rfl
    obtain ⟨q4,q5,q6,_⟩:=rd gA0
    obtain ⟨q7,q8,q9,q10⟩:=rd g10
    obtain ⟨_,_,_,q11⟩:=rd g20
    -- what both are,behind the coding
    obtain ⟨D',F',P2',nD,nF⟩:=B.P
    have gn2:=B.n
    have keep10:∀ {g':H},gA.n≤g'.n→(∀ b,b < gA.n→¬ D b→¬ F b→g'.get b=gA.get b)→IntsX (fun _=>False) g' w10 d.l:=fun {g'} hn hk =>
     h10'.keep hn (fun b hb hb2=>hk b hb (fun hd=>by have:=P.hD _ hd;omega) (fun hd=>by have:=P.hF _ hd;omega)) fun _ _ _ h=>h
    have i10:=keep10 gn2 B.k
    have iv:IntsX (fun _=>False) g2 vl d.l:=hI.keep0 B.x fun _ _ h=>h
    have k13:=eqIntsG_ok i10 iv (by omega)
    rw [decide_eq_true rfl] at k13
    have cn:=count32_ok P2'.C
    obtain ⟨vs,_,_,rn⟩:=P2'.R.set
    have k15:=sign16_ok i10
    have k16:=sign16r_ok iv
    have k13a:=B.eq
    obtain ⟨y,hy⟩:∃ y,y=signP d.l:=⟨_,rfl⟩
    rw [← hy] at k15 k16
    have z1:IntKind.i64.wrap ((i:Int)+1)=((i+1:Nat):Int):=by rw [wi64 (by omega) (by omega)];omega
    simp [l3_1,e0,e5,e7,e9,sl,show (i:Int) < l.length by omega,hil,h8,show (i:Int) < 8 by omega,t1,t2,nw,w0,q3,a10,q4,q5,q6,a1,q7,q8,q9,q10,a2,k13a,q11,k13,cn,rn,k15,k16,ck,iv.same,V.same]
    generalize ho:loopZ (l3_0 KW loopZ) _ _=o
    obtain ⟨e',g3,rfl,⟨f0,f5,f7,f9,f10,f11⟩,bump⟩:=loop30 (v:=v) (c:=c) (r:=r) (i:=i) (A:=g.n) (w:=w10) (g0:=g2) (L:=L) (N:=N) (w1:=w1) B.nN ho ⟨Nat.le_refl _,⟨by simp [e0],by simp [e5],by simp [e7],by simp [e9],by simp,by simp⟩,⟨rfl,fun _ _=>rfl⟩,B.l,by simp,by simp⟩
    simp only [K3] at f0 f5 f7 f9 f10 f11
    have bn:=bump.n
    have nL:=B.nL
    have g30:g3.get g.n=g0.get g.n:=by rw [bump.get _ (by omega),g20]
    obtain ⟨_,_,_,q12⟩:=rd g30
    have xx3:Ext h1 g3:=⟨by have:=B.x.n;omega,fun b hb=>by rw [bump.get b (by omega),B.x.get b hb]⟩
    have j10:=keep10 (g':=g3) (by omega) fun b hb hD hF=>by rw [bump.get b (by omega),B.k b hb hD hF]
    have jv:IntsX (fun _=>False) g3 vl d.l:=hI.keep0 xx3 fun _ _ h=>h
    have k13b:=eqIntsG_ok j10 jv (by omega)
    rw [decide_eq_true rfl] at k13b
    simp [f0,f5,f7,f9,f10,f11,q12,k13b,z1,ck,jv.same,V.same,-Int.natCast_add]
    exact ⟨j,by omega,⟨by omega,by omega⟩,xx3,⟨m',st',D',F',P2'.bump bump nD nF,hw',by rw [show l.length - j=i+1 by omega];omega⟩,by simp [f0],by simp [f5],by simp [f7],by simp [show l.length - j=i+1 by omega]⟩
   ·simp [l3_1,e0,e9,sl,show (i:Int) < l.length by omega,hil,h8,show ¬ (i:Int) < 8 by omega]
    exact ⟨rfl,x,⟨m,st,D,F,P,hw,by omega⟩,by simp [e5],by simp [e7]⟩) l.length e g hi
 obtain ⟨s,h1,h2⟩:=loop
 exact ⟨s,by rw [← ho,h1],h2⟩
end Go.Proofs.YtbajipmhnoakeaaGreat
