import Derived.Test.YtbkmdnmncaakdaaGreatPfMp
import Derived.Test.YtbkmdnmncaakdaaGreatPfZNest
set_option linter.unusedVariables false
set_option linter.unusedSimpArgs false
set_option maxRecDepth 20000
namespace Go.Proofs.YtbkmdnmncaakdaaGreat
open Go Go.Zf
open Go.Zf (ZS)
inductive Pr (α:Type) where
  |done (a:α)
  |stop
  |sym (k c:Nat) (v:Int) (f:Nat->Pr α)
  |num (n:Nat) (v:Int) (f:Nat->Pr α)
namespace Pr
variable{α β:Type}
def bind:Pr α->(α->Pr β)->Pr β
  |.done a,g=>g a
  |.stop,_=>.stop
  |.sym k c v f,g=>.sym k c v λx=>(f x).bind g
  |.num n v f,g=>.num n v λx=>(f x).bind g
def exec:Pr α->St->Option α×St
  |.done a,st=>(some a,st)
  |.stop,st=>(none,st)
  |.sym k c v f,st=>(f (st.ZC k c v)).exec (st.sym k c v)
  |.num n v f,st=>(f (st.WG n v.toNat)).exec (st.num n v.toNat)
theorem YH(g:α->Pr β):∀(p:Pr α) (st:St),(p.bind g).exec st=match p.exec st with
   |(some a,YI)=>(g a).exec YI
   |(none,YI)=>(none,YI)
  |.done a,st=>rfl
  |.stop,st=>rfl
  |.sym k c v f,st=>YH g (f (st.ZC k c v)) (st.sym k c v)
  |.num n v f,st=>YH g (f (st.WG n v.toNat)) (st.num n v.toNat)
theorem SE(n:Nat)(v:Int)(f:Nat->Pr α)(st:St):(Pr.num n v f).exec st=(f (st.WG n v.toNat)).exec (st.num n v.toNat):=rfl
theorem X2(k c:Nat)(v:Int)(f:Nat->Pr α)(st:St):(Pr.sym k c v f).exec st=(f (st.ZC k c v)).exec (st.sym k c v):=rfl
theorem VI(a:α)(st:St):(Pr.done a).exec st=(some a,st):=rfl
variable{st YI:St}
theorem Zj{p:Pr α}{g:α->Pr β}{a:α}(h:p.exec st=(some a,YI)):(p.bind g).exec st=(g a).exec YI:=by rw[YH,h]
theorem RH{p:Pr α}{g:α->Pr β}(h:p.exec st=(none,YI)):(p.bind g).exec st=(none,YI):=by rw[YH,h]
theorem bind_assoc{γ:Type}(g:α->Pr β)(k:β->Pr γ):∀p:Pr α,(p.bind g).bind k=p.bind λa=>(g a).bind k
  |.done a=>rfl
  |.stop=>rfl
  |.sym _ _ _ f=>congrArg (Pr.sym _ _ _) (funext λx=>bind_assoc g k (f x))
  |.num _ _ f=>congrArg (Pr.num _ _) (funext λx=>bind_assoc g k (f x))
end Pr
def Xg(a b:Int):Int:=if b<a then b else a
def imax(a b:Int):Int:=if b>a then b else a
theorem zQ(k:IntKind)(a b:Int):Vx [.int k a,.int k b]=some (.int k (Xg a b)):=zP k a b
theorem Fx(k:IntKind)(a b:Int):Rg [.int k a,.int k b]=some (.int k (imax a b)):=PK k a b
theorem Fw(a b:Int):Xg a b<=a/\Xg a b<=b/\(Xg a b=a\/Xg a b=b):=by unfold Xg;split<;>omega
theorem Tn(a b:Int):a<=imax a b/\b<=imax a b/\(imax a b=a\/imax a b=b):=by unfold imax;split<;>omega
def Yc(b:Bool):Int:=if b then 1 else 0
def X3(a:Int):Int:=imax a (-a)
theorem OR(a:Int):0<=X3 a/\(X3 a=a\/X3 a=-a)/\a<=X3 a/\-a<=X3 a:=by have:=Tn a (-a);unfold X3;omega
structure BD where
  size:Nat
  n:Nat
  Wq0:Nat
  sign:Nat
  ord:List Nat
  src:List Int
  wr:Bool
open Go.Zf (ZS)
variable{x k:Nat}
theorem tL(h1:2^k<=x)(h2:x<2^(k+1)):Nat.log2 x=k:=by
  have hx:x≠0:=by have:=Nat.two_pow_pos k;omega
  have a:=(Nat.le_log2 hx (k:=k)).2 h1;have b:=(Nat.log2_lt hx (k:=k+1)).2 h2;omega
theorem Fv(hx:x≠0):2^Nat.log2 x<=x/\x<2^(Nat.log2 x+1):=⟨(Nat.le_log2 hx).1 (Nat.le_refl _),(Nat.log2_lt hx).1 (Nat.lt_succ_self _)⟩
theorem MH(h:2^k<=x):Nat.log2 (x/2^k)+k=Nat.log2 x:=by
  have hx:x≠0:=by have:=Nat.two_pow_pos k;omega
  have hp:=Nat.two_pow_pos k;have hy:x/2^k≠0:=by
   have:=(Nat.le_div_iff_mul_le hp (x:=1) (y:=x)).2 (by omega);omega
  have hb:=Fv hy;refine (tL ?_ ?_).symm
  .rw[Nat.pow_add];exact (Nat.le_div_iff_mul_le hp).1 hb.1
  .rw[show Nat.log2 (x/2^k)+k+1=(Nat.log2 (x/2^k)+1)+k by omega,Nat.pow_add];exact (Nat.div_lt_iff_lt_mul hp).1 hb.2
def zO:List UInt8:=[0,1,2,2,3,3,3,3,4,4,4,4,4,4,4,4,5,5,5,5,5,5,5,5,5,5,5,5,5,5,5,5,6,6,6,6,6,6,6,6,6,6,6,6,6,6,6,6,6,6,6,6,6,6,6,6,6,6,6,6,6,6,6,6,7,7,7,7,7,7,7,7,7,7,7,7,7,7,7,7,7,7,7,7,7,7,7,7,7,7,7,7,7,7,7,7,7,7,7,7,7,7,7,7,7,7,7,7,7,7,7,7,7,7,7,7,7,7,7,7,7,7,7,7,7,7,7,7,8,8,8,8,8,8,8,8,8,8,8,8,8,8,8,8,8,8,8,8,8,8,8,8,8,8,8,8,8,8,8,8,8,8,8,8,8,8,8,8,8,8,8,8,8,8,8,8,8,8,8,8,8,8,8,8,8,8,8,8,8,8,8,8,8,8,8,8,8,8,8,8,8,8,8,8,8,8,8,8,8,8,8,8,8,8,8,8,8,8,8,8,8,8,8,8,8,8,8,8,8,8,8,8,8,8,8,8,8,8,8,8,8,8,8,8,8,8,8,8,8,8,8,8,8,8,8,8]
theorem zN:zO.map (λc=>c.toNat)=(List.range 256).map (λx=>if x=0 then 0 else Nat.log2 x+1):=by kernel_rfl
theorem tK(h0:x≠0)(hx:x<256):iV (.str zO) (.int .u8 (x:Nat))=some (.int .u8 (Nat.log2 x+1:Nat)):=by
  have h1:(zO.map (λc=>c.toNat))[x]?=some (Nat.log2 x+1):=by rw[zN];simp[hx,h0]
  rw[List.getElem?_map]at h1;obtain⟨c,hc,h2⟩:=Option.map_eq_some_iff.1 h1;simp[iV,hc,h2]
variable{n:Nat}
theorem tJ(h:n<256):IntKind.u8.wrap (n:Int)=n:=wu8 (by omega) (by omega)
noncomputable def qx (K:Zs) (L:Yy) (e:E) (h:H):Out :=
 sq (some ⟨.nm,⟨[(e.s Yb 0),(.int .i64 0)],2,(.int .i64 0)⟩,h⟩) λe h =>
 sq (sq (bd (ZQ 0 .geq (e.s Yb 0) (.int .u64 4294967296)) λt4 =>
 some ⟨.nm,ux Yb e 4 t4,h⟩) λe h =>
 br (e.s Yb 4) (sq (bd (ZQ 0 .shr (e.s Yb 0) (.int .u64 32)) λt6 =>
 some ⟨.nm,⟨[t6,(e.s Yb 2)],0,t6⟩,h⟩) λe h =>
 some ⟨.nm,⟨[(e.s Yb 0),(.int .i64 32)],2,(.int .i64 32)⟩,h⟩)
 (some ⟨.nm,e,h⟩)) λe h =>
 sq (sq (bd (ZQ 0 .geq (e.s Yb 0) (.int .u64 65536)) λt8 =>
 some ⟨.nm,ux Yb e 8 t8,h⟩) λe h =>
 br (e.s Yb 8) (sq (bd (ZQ 0 .shr (e.s Yb 0) (.int .u64 16)) λt10 =>
 some ⟨.nm,⟨[t10,(e.s Yb 2)],0,t10⟩,h⟩) λe h =>
 bd (ZQ 0 .add (e.s Yb 2) (.int .i64 16)) λt12 =>
 some ⟨.nm,⟨[(e.s Yb 0),t12],2,t12⟩,h⟩)
 (some ⟨.nm,e,h⟩)) λe h =>
 sq (sq (bd (ZQ 0 .geq (e.s Yb 0) (.int .u64 256)) λt14 =>
 some ⟨.nm,ux Yb e 14 t14,h⟩) λe h =>
 br (e.s Yb 14) (sq (bd (ZQ 0 .shr (e.s Yb 0) (.int .u64 8)) λt16 =>
 some ⟨.nm,⟨[t16,(e.s Yb 2)],0,t16⟩,h⟩) λe h =>
 bd (ZQ 0 .add (e.s Yb 2) (.int .i64 8)) λt18 =>
 some ⟨.nm,⟨[(e.s Yb 0),t18],2,t18⟩,h⟩)
 (some ⟨.nm,e,h⟩)) λe h =>
 sq (bd (cv .u8 (e.s Yb 0)) λt21 =>
 bd (iV (.str zO) t21) λt22 =>
 bd (cv .i64 t22) λt23 =>
 bd (ZQ 0 .add (e.s Yb 2) t23) λt24 =>
 some ⟨.nm,⟨[(e.s Yb 0),t24],2,t24⟩,h⟩) λe h =>
 some ⟨.rt,e,h⟩
theorem iU:iT=qx:=by kernel_rfl
theorem zL(h0:x≠0)(hx:x<4294967296)(h:H):KW 168 [.int .u64 x] h=some (.ret (.int .i64 (Nat.log2 x+1:Nat)),h):=by
  have hl:Nat.log2 x<32:=(Nat.log2_lt h0).2 hx;have z:∀m:Nat,m<64->IntKind.i64.wrap ((m:Int))=m:=λm hm=>ZS (by omega) (by omega);rw[W1 iS,iU,qx];have key:∀(x n:Nat) (e:Int),x≠0->x<256->n+Nat.log2 x<64->e=n->IntKind.i64.wrap (e+IntKind.i64.wrap ((Nat.log2 x+1:Nat):Int))=((n+(Nat.log2 x+1):Nat):Int):=by
   intro x n e h0 h1 h2 he;subst he;have q:IntKind.i64.wrap ((Nat.log2 x+1:Nat):Int)=((Nat.log2 x+1:Nat):Int):=ZS (by omega) (by omega);rw[q,ZS (by omega) (by omega)];omega
  have tab:∀x:Nat,x≠0->x<256->iV (.str zO) (.int .u8 (x:Nat))=some (.int .u8 (Nat.log2 x+1:Nat)):=λx h0 hx=>tK h0 hx;have e0:decide ((4294967296:Int)<=(x:Int))=false:=by simp;omega
  by_cases c1:65536<=x
  .have d1:(x:Int)/65536=((x/65536:Nat):Int):=by omega
   have l1:=MH (x:=x) (k:=16) c1;have n1:x/65536≠0:=by omega
   obtain⟨y,hy⟩:∃y,y=x/65536:=⟨_,rfl⟩
   rw[<-hy]at d1 n1;have FH:y<65536:=by omega
   rw[show x/2^16=y by rw[hy]]at l1;by_cases c2:256<=y
   .have d2:(y:Int)/256=((y/256:Nat):Int):=by omega
    have l2:=MH (x:=y) (k:=8) c2;obtain⟨u,hu⟩:∃u,u=y/256:=⟨_,rfl⟩
    rw[<-hu]at d2;rw[show y/2^8=u by rw[hu]]at l2;have iR:u≠0:=by omega
    have oH:u<256:=by omega
    have k1:=key u 24 24 iR oH (by omega) rfl;have t1:=tab u iR oH;have w1:=tJ oH;have z16:IntKind.i64.wrap (16:Int)=16:=by decide
    have z24:IntKind.i64.wrap (24:Int)=24:=by decide
    have fin:((24+(Nat.log2 u+1):Nat):Int)=((Nat.log2 x+1:Nat):Int):=by omega
    simp[e0,show (4294967296:Int)<=(x:Int)↔False by simp;omega,show (65536:Int)<=(x:Int)by omega,IntKind.bits,d1,show (256:Int)<=(y:Int)by omega,d2,w1,t1,z16,z24,-Int.natCast_add,k1,fin]
   .have zK:y<256:=by omega
    have k1:=key y 16 16 n1 zK (by omega) rfl;have t1:=tab y n1 zK;have w1:=tJ zK;have z16:IntKind.i64.wrap (16:Int)=16:=by decide
    have fin:((16+(Nat.log2 y+1):Nat):Int)=((Nat.log2 x+1:Nat):Int):=by omega
    simp[e0,show (4294967296:Int)<=(x:Int)↔False by simp;omega,show (65536:Int)<=(x:Int)by omega,IntKind.bits,d1,show ¬(256:Int)<=(y:Int)by omega,w1,t1,z16,-Int.natCast_add,k1,fin]
  .by_cases c2:256<=x
   .have d2:(x:Int)/256=((x/256:Nat):Int):=by omega
    have l2:=MH (x:=x) (k:=8) c2;obtain⟨u,hu⟩:∃u,u=x/256:=⟨_,rfl⟩
    rw[<-hu]at d2;rw[show x/2^8=u by rw[hu]]at l2;have iR:u≠0:=by omega
    have oH:u<256:=by omega
    have k1:=key u 8 8 iR oH (by omega) rfl;have t1:=tab u iR oH;have w1:=tJ oH;have z8:IntKind.i64.wrap (8:Int)=8:=by decide
    have fin:((8+(Nat.log2 u+1):Nat):Int)=((Nat.log2 x+1:Nat):Int):=by omega
    simp[e0,show (4294967296:Int)<=(x:Int)↔False by simp;omega,show ¬(65536:Int)<=(x:Int)by omega,IntKind.bits,show (256:Int)<=(x:Int)by omega,d2,w1,t1,z8,-Int.natCast_add,k1,fin]
   .have zK:x<256:=by omega
    have k1:IntKind.i64.wrap ((Nat.log2 x+1:Nat):Int)=((Nat.log2 x+1:Nat):Int):=ZS (by omega) (by omega);have t1:=tab x h0 zK;have w1:=tJ zK;have fin:((0+(Nat.log2 x+1):Nat):Int)=((Nat.log2 x+1:Nat):Int):=by omega
    simp[e0,show (4294967296:Int)<=(x:Int)↔False by simp;omega,show ¬(65536:Int)<=(x:Int)by omega,IntKind.bits,show ¬(256:Int)<=(x:Int)by omega,w1,t1,-Int.natCast_add,k1]
theorem zJ(h0:x≠0)(hx:x<4294967296)(h:H):KW 143 [.int .u64 x] h=some (.ret (.int .i64 (Nat.log2 x+1:Nat)),h):=by
  rw[W1 iQ,oG];simp[zL h0 hx h]
theorem U6(k:Nat):((2^k:Nat):Int)=2^k:=by simp
open Go.Zf (ZS)
def RP(ok:V->H->Prop)(bad:H->Prop):Option (Rv×H)->Prop
  |some (.ret v,h)=>ok v h
  |some (.MZ v,h)=>v=.iface 88 (.agg [.int .i64 4])/\bad h
  |none=>False
theorem iP{ok:V->H->Prop}{bad:H->Prop}{x y:Option (Rv×H)}(h:x=y):RP ok bad x=RP ok bad y:=by rw[h]
attribute [congr] iP
section cd
variable{D0:Nat->Prop}{h0 h h':H}{q c ob L m:Nat}{vs:V}{B:BD}{st:St}{lv:List Int}
theorem YX.N2:∀(j v out:Nat) (sd:YX),(bits j v out sd).2.writes=sd.writes
  |0,v,out,sd=>rfl
  |j+1,v,out,sd=>by rw[bits,YX.N2];exact YX.Wt _ _ _
variable{D:Nat->Prop}{h:H}{p m:Nat}{st:St}
theorem Zy.ok(a:Zy D h p m st):Yw st.S/\Yp m st.sd/\0<=st.n/\st.n<=100*m:=by
  obtain⟨vo,vi,vs,Ds,Dw,h1,h2,h3,h4,h5,h6,h7,h8,h9⟩:=a;exact⟨h6,h4,h7.1,h7.2⟩
theorem St.YF(ok:Yw st.S){v:Int}(hk:k<32)(hx:x<cx k)(hv:st.sd.writes=true->0<=v/\v<vl k):st.ZC k x v<vl k:=by
  obtain⟨r,_,_,tok,tl⟩:=ok.get hk hx;have:=(YX.MY (v:=v) (sd:=st.sd) tok (by rw[tl];exact hv)).1;rw[tl]at this;exact this
theorem St.Jf(ok:Yp m st.sd){v:Nat}(hm:m+n<100000000):st.WG n v<2^n:=by
  have:=(DO n v 0 ok hm).2;simpa [St.WG]using this
theorem zI(j:Nat):∀(v out:Nat) (sd:YX),sd.writes=true->(bits j v out sd).1=out*2^j+v%2^j:=by
  induction j with
  |zero=>intro v out sd hw;simp[bits];omega
  |succ j ih =>
   intro v out sd hw;rw[bits,ih _ _ _ (by rw[YX.Wt];exact hw)];have hb:sd.bit (v/2^j%2)=v/2^j%2:=by cases sd with|w=>rfl|r=>cases hw
   rw[hb];have h1:v%2^(j+1)=v%2^j+2^j*(v/2^j%2):=by rw[Nat.pow_succ,Nat.mod_mul]
   rw[h1,Nat.pow_succ,Nat.add_mul,Nat.mul_comm 2 out,Nat.mul_assoc,Nat.mul_comm 2 (2^j),Nat.mul_comm (2^j) (v/2^j%2)];omega
theorem St.Fu(hw:st.sd.writes=true)(n v:Nat)(hv:v<2^n):st.WG n v=v:=by
  unfold St.WG;rw[zI n v 0 _ hw,Nat.mod_eq_of_lt hv];omega
theorem St.Yx(hw:st.sd.writes=true)(k x:Nat)(v:Int):st.ZC k x v=v.toNat:=by
  unfold St.ZC;generalize st.sd=sd at hw;cases sd with|w=>rfl|r=>cases hw
theorem St.YG(st:St)(k x:Nat)(v:Int):(st.sym k x v).sd.writes=st.sd.writes:=YX.Wt _ _ _
theorem St.Je(st:St)(n v:Nat):(st.num n v).sd.writes=st.sd.writes:=YX.N2 _ _ _ _
theorem Ug(a:Zy D h p m st):KW 42 [.ptr p 0] h=some (.ret (.bool st.sd.writes),h):=by
  obtain⟨vo,vi,vs,Ds,Dw,h1,h2,h3,_⟩:=a;exact Xt h1 h3
end cd
namespace Pr
variable{α β:Type}
def PZ:Pr α->Option α×List Op
  |.done a=>(some a,[])
  |.stop=>(none,[])
  |.sym k c v f=>((f v.toNat).PZ.1,.sym k c v.toNat::(f v.toNat).PZ.2)
  |.num n v f=>((f v.toNat).PZ.1,.num n v.toNat::(f v.toNat).PZ.2)
theorem MG(g:α->Pr β):∀p:Pr α,(p.bind g).PZ=match p.PZ.1 with
   |some a=>((g a).PZ.1,p.PZ.2++(g a).PZ.2)
   |none=>(none,p.PZ.2)
  |.done a=>by simp[bind,PZ]
  |.stop=>rfl
  |.sym k c v f=>by
   have:=MG g (f v.toNat);simp only[bind,PZ];rw[this];cases (f v.toNat).PZ.1<;>rfl
  |.num n v f=>by
   have:=MG g (f v.toNat);simp only[bind,PZ];rw[this];cases (f v.toNat).PZ.1<;>rfl
theorem zH{p:Pr α}{g:α->Pr β}{a:α}{l:List Op}(h:p.PZ=(some a,l)):(p.bind g).PZ=((g a).PZ.1,l++(g a).PZ.2):=by rw[MG,h]
end Pr
theorem oF(j:Nat):∀(v v' out:Nat) (sd:YX),sd.writes=false->bits j v out sd=bits j v' out sd:=by
  induction j with
  |zero=>intro v v' out sd hs;rfl
  |succ j ih =>
   intro v v' out sd hs;cases sd with
   |w=>cases hs
   |r rest code ZH=>simp only[bits,YX.bit];exact ih v v' _ _ rfl
variable{st:St}
theorem St.qw(hs:st.sd.writes=false)(n v v':Nat):st.num n v=st.num n v'/\st.WG n v=st.WG n v':=by
  unfold St.num St.WG;rw[oF n v v' 0 st.sd hs];exact⟨rfl,rfl⟩
namespace Pr
variable{α:Type}
end Pr
open Go.Zf (ZS)
theorem St.zG(st:St)(v:Nat):st.num 0 v=st:=by
  obtain⟨a,b,c,d⟩:=st;simp[St.num,bits]
open Go.Zf (ZS)
variable{h:H}
theorem Wr.slb{v:V}{l:List Nat}(a:Wr h n v l):Jd h v l:=by
  obtain⟨b,k,L,h1,h2,h3,h4,h5,h6⟩:=a;exact .inr ⟨b,0,k,_,_,_,h1,h3,by simpa using h4,by rw[List.drop_zero];unfold ZG;rw[<-List.map_take,h5]⟩
variable{m:Nat}
theorem BS{T:Sr}(so:Yp m (wS T)):(bytes T.1 T.2.1).length<140737488355329:=by
  have h2:T.1.length<=3*m:=so.2.1;have h3:=so.2.2;rw[On];have:=Ps (WL 4 T.1 T.2.1).1 (T.1.length+4);omega
open Go.Zf (ZS)
end Go.Proofs.YtbkmdnmncaakdaaGreat
