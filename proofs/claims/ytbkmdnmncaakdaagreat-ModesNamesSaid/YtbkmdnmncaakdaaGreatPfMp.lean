import Derived.Test.YtbkmdnmncaakdaaGreatPfMa
set_option linter.unusedVariables false
set_option linter.unusedSimpArgs false
set_option maxRecDepth 20000
namespace Go.Proofs.YtbkmdnmncaakdaaGreat
open Go Go.Zf
open Go.Zf (ZS)
def u32(n:Int):V:=.int .u32 n
def u64(n:Int):V:=.int .u64 n
def i64(n:Int):V:=.int .i64 n
theorem wrap32{n:Int}(h0:0<=n)(h1:n<4294967296):IntKind.u32.wrap n=n:=by
 unfold IntKind.wrap;simp[IntKind.bits,IntKind.signed];omega
theorem wrap64{n:Int}(h0:0<=n)(h1:n<18446744073709551616):IntKind.u64.wrap n=n:=by
 unfold IntKind.wrap;simp[IntKind.bits,IntKind.signed];omega
theorem JN(ZH lo hi:Int)(yc:0<=ZH)(hr:ZH<4294967296)(hl:0<=lo)(hlh:lo<hi)(hh:hi<=32768)(h:H):
   KW 165 [u32 ZH,u32 lo,u32 hi] h=some (.ret (.Zt [u32 (ZH/32768*lo),u32 (if hi=32768 then ZH-ZH/32768*lo else ZH/32768*(hi-lo))]),h):=by
 have e1:(ZH.fdiv (2^(min 15 IntKind.u32.bits)))=ZH/32768:=by
   rw[Int.fdiv_eq_ediv_of_nonneg _ (by decide)];rfl
 have hq:ZH/32768<131072:=by omega
 have qh:0<=ZH/32768:=by omega
 generalize hR:ZH/32768=r at *;have m1:r*lo<=r*32768:=Int.mul_le_mul_of_nonneg_left (by omega) qh;have m0:0<=r*lo:=Int.mul_nonneg qh hl;have m2:r*(hi-lo)<=r*32768:=Int.mul_le_mul_of_nonneg_left (by omega) qh;have m3:0<=r*(hi-lo):=Int.mul_nonneg qh (by omega);rw[W3 kqX,dF];simp only[u32];by_cases hc:hi=32768
 . subst hc
   simp[e1,wrap32 m0 (by omega),wrap32 (n:=ZH-r*lo) (by omega) (by omega)]
 . simp[e1,hc,wrap32 m0 (by omega),wrap32 (n:=hi-lo) (by omega) (by omega),wrap32 m3 (by omega)]
attribute [simp] Go.Zf.Vz
def E8(h:H)(b:Nat)(x:WI)(h':H):Prop:=h'.n=h.n/\∀c,h'.get c=if c=b then some x else h.get c
variable{h:H}{b:Nat}
theorem Iz(hb:b<h.n)(x:WI):E8 h b x (h.put b x) :=
 ⟨rfl,λc=>by simp[H.WN,hb]⟩
variable{h1 h2:H}
theorem E8.trans{x y:WI}(a:E8 h b x h1)(c:E8 h1 b y h2):E8 h b y h2 :=
 ⟨c.1.trans a.1,λd=>by rw[c.2,a.2];split<;>rfl⟩
theorem E8.refl{x:WI}(a:h.get b=some x):E8 h b x h:=⟨rfl,λd=>by split<;>simp_all⟩
def EO:List Nat->List Nat
 |[]=>[]
 |b::r=>if b=255 then 0::EO r else (b+1)::r
def inc(l:List Nat):List Nat:=(EO l.reverse).reverse
theorem sD:inc []=[]:=rfl
theorem PB(l:List Nat)(b:Nat):inc (l++[b])=if b=255 then inc l++[0]else l++[b+1]:=by
 simp only[inc,List.reverse_append,List.reverse_cons,List.reverse_nil,List.nil_append,List.singleton_append,EO];split<;>simp
theorem Xq(l:List Nat):(inc l).length=l.length:=by
 unfold inc;rw[List.length_reverse];have e:l.length=l.reverse.length:=by simp
 rw[e];generalize l.reverse=r
 induction r with
 |nil=>rfl
 |cons b r ih=>simp only[EO];split<;>simp[ih]
theorem JM:∀{l:List Nat},(∀x∈l,x<256)->∀x∈EO l,x<256
 |[],_,x,hx=>by simp[EO]at hx
 |b::r,h,x,hx=>by
   have hb:=h b (by simp);have hr:∀x∈r,x<256:=λx hx=>h x (by simp[hx]);simp only[EO]at hx;split at hx
   .rcases List.mem_cons.mp hx with rfl|hx
    .omega
    .exact JM hr x hx
   .rcases List.mem_cons.mp hx with rfl|hx
    .omega
    .exact hr x hx
variable{l:List Nat}
theorem Mc(h:∀x∈l,x<256):∀x∈inc l,x<256:=by
 intro x hx;exact JM (l:=l.reverse) (λx hx=>h x (by simpa using hx)) x (by simpa [inc]using hx)
theorem J2{n:Int}:IntKind.u8.wrap n=n%256:=by
 unfold IntKind.wrap;simp[IntKind.bits,IntKind.signed]
theorem yb(p b:Nat)(t tb:TypeId)(c1 c2:V)(len:Nat):∀(k:Nat) (pre suf:List Nat) (h:H) (e:E),pre.length=k->(∀x∈pre,x<256)->(pre++suf).length=len->len<1099511627776 ->
   h.get p=some (.cells [.sl b 0 len (.op 1),c1,c2] t false)->h.get b=some (.cells (ZG (pre++suf)) tb false)->p≠b ->
   e.s [0,2,28] 0=.ptr p 0->e.s [0,2,28] 2=.int .i64 ((k:Int)-1) ->
   ∃e' h',ZI (QE KW ZI) e h=some ⟨.ex 0,e',h'⟩/\e'.s [0,2,28] 0=.ptr p 0/\E8 h b (.cells (ZG (inc pre++suf)) tb false) h'
 |0,pre,suf,h,e,hk,hp,hl,hs,Am,HF,hn,PS,Fk=>by
   have:pre=[]:=List.length_eq_zero_iff.mp hk;subst this;rw[Zi];simp[QE,PS,Fk];exact⟨_,_,⟨rfl,rfl⟩,by simp,E8.refl HF⟩
 |k+1,pre,suf,h,e,hk,hp,hl,hs,Am,HF,hn,PS,Fk=>by
   obtain⟨pr,x,rfl⟩:∃pr x,pre=pr++[x]:=by
    rcases List.eq_nil_or_concat pre with h0|⟨a,b,h0⟩
    .subst h0;simp at hk
    .exact⟨a,b,by simpa using h0⟩
   have PQ:pr.length=k:=by simpa using hk
   have hx:x<256:=hp x (by simp);have qj:k<len:=by simp at hl;omega
   have Al:(ZG (pr++[x]++suf))[k]?=some (.int .u8 x):=by
    simp[ZG,<-PQ]
   have PC:∀y:Nat,(ZG (pr++[x]++suf)).set k (.int .u8 y)=ZG (pr++[y]++suf):=by
    intro y;simp[ZG,<-PQ]
   have HE:=H.ZW HF;have Rw:=H.ZW Am;have kq8:=HF;obtain⟨c,hc⟩:∃c,c=ZG (pr++[x]++suf):=⟨_,rfl⟩
   have V3:c.length=len:=by rw[hc];simpa using hl
   rw[<-hc]at HF Al PC;have hw:=λv=>Zw HF (o:=k) (by omega) v;have hpb:∀v,(h.put b v).get p=h.get p:=λv=>ZX hn;by_cases eQ:x=255
   .subst eQ
    have hz:c.set k (.int .u8 0)=ZG (pr++[0]++suf):=PC 0;have XQ:(h.put b (.cells (ZG (pr++[0]++suf)) tb false)).get b=some (.cells (ZG (pr++[0]++suf)) tb false):=ZV HE;have HD:(ZG (pr++[0]++suf))[k]?=some (.int .u8 0):=by simp[ZG,<-PQ]
    obtain⟨c',SV⟩:∃c',c'=ZG (pr++[0]++suf):=⟨_,rfl⟩
    obtain⟨h1,ZL⟩:∃h1,h1=h.put b (.cells c' tb false):=⟨_,rfl⟩
    have BM:h1.get p=some (.cells [.sl b 0 len (.op 1),c1,c2] t false):=by rw[ZL,hpb,Am]
    rw[<-SV]at hz XQ HD;rw[<-ZL]at XQ;rw[Zi];simp[QE,PS,Fk,ZZ Am,ZZ HF,Al,qj,hw,hz,J2,<-ZL,ZZ BM,ZZ XQ,HD];rw[ZS (by omega) (by omega)];obtain⟨e',h',i1,i2,i3⟩:=yb p b t tb c1 c2 len k pr (0::suf) h1 ⟨[V.ptr p 0,V.int IntKind.i64 ((k:Int)-1),V.int IntKind.u8 0],2,V.int IntKind.i64 ((k:Int)-1)⟩ PQ (λx hx=>hp x (by simp[hx]))
     (by simpa using hl) hs BM (by rw[XQ,SV];simp) hn (by simp) (by simp)
    refine⟨e',h',i1,i2,?_⟩;have hu:E8 h b (.cells c' tb false) h1:=by rw[ZL];exact Iz HE _
    rw[PB];simpa using hu.trans i3
   .rw[Zi]
    have hz:c.set k (.int .u8 ((x:Int)+1))=ZG (pr++[x+1]++suf):=PC (x+1);have XQ:(h.put b (.cells (ZG (pr++[x+1]++suf)) tb false)).get b=some (.cells (ZG (pr++[x+1]++suf)) tb false):=ZV HE;have HD:(ZG (pr++[x+1]++suf))[k]?=some (.int .u8 ((x:Int)+1)):=by simp[ZG,<-PQ]
    obtain⟨c',SV⟩:∃c',c'=ZG (pr++[x+1]++suf):=⟨_,rfl⟩
    obtain⟨h1,ZL⟩:∃h1,h1=h.put b (.cells c' tb false):=⟨_,rfl⟩
    have BM:h1.get p=some (.cells [.sl b 0 len (.op 1),c1,c2] t false):=by rw[ZL,hpb,Am]
    rw[<-SV]at hz XQ HD;rw[<-ZL]at XQ;have hm:((x:Int)+1)%256=(x:Int)+1:=by omega
    have Wp:¬((x:Int)+1=0):=by omega
    simp[QE,PS,Fk,ZZ Am,ZZ HF,Al,qj,hw,J2,hm,hz,<-ZL,ZZ BM,ZZ XQ,HD,Wp];have hu:E8 h b (.cells c' tb false) h1:=by rw[ZL];exact Iz HE _
    refine⟨_,_,⟨rfl,rfl⟩,by simp,?_⟩;rw[PB,if_neg eQ,<-SV];exact hu
def GR(h:H)(v:V)(l:List Nat):Prop :=
 (v=.ZO/\l=[])\/∃b,v=.sl b 0 l.length (.op 1)/\l≠[]/\h.get b=some (.cells (ZG l) 5 false)
structure X5(h:H)(p:Nat)(t:TypeId)(v:V)(out:List Nat)(low:Nat)(ZH:V):Prop where
 cell:h.get p=some (.cells [v,.int .u64 low,ZH] t false)
 grow:GR h v out
 byte:∀x∈out,x<256
 NN:low<18446744073709551616
def fp(p:Nat)(v:V)(c:Nat):Prop:=c=p\/∃o n k,v=.sl c o n k
def Iy(h h':H)(S:Nat->Prop):Prop:=h.n<=h'.n/\∀c,c<h.n->¬S c->h'.get c=h.get c
variable{n:Nat}
theorem pZ(hn:n<18446744073709551616):IntKind.u64.wrap ((n%2^IntKind.u64.bits &&& 4294967295%2^IntKind.u64.bits:Nat):Int)=(n:Int)%4294967296:=by
 rw[show IntKind.u64.bits=64 from rfl,Nat.mod_eq_of_lt (show n<2^64 by omega),Nat.mod_eq_of_lt (show 4294967295<2^64 by omega)];rw[show (4294967295:Nat)=2^32-1 from rfl,Nat.and_two_pow_sub_one_eq_mod];rw[wrap64 (by omega) (by omega)];omega
variable{p:Nat}{v x y:V}
theorem NQ{t tb:TypeId}(hp:h.get p=some (.cells [v,x,y] t false))(hb:h.get b=some (.cells (ZG l) tb false))(hv:∀k n,v≠.int k n):p≠b:=by
 intro e;subst e;rw[hp]at hb;simp only[Option.some.injEq,WI.cells.injEq]at hb;obtain⟨h1,_⟩:=hb;cases l with
 |nil=>simp[ZG]at h1
 |cons a l=>simp[ZG]at h1;exact hv _ _ h1.1
variable{out:List Nat}{low:Nat}
theorem ya{t:TypeId}{ZH:V}(a:X5 h p t v out low ZH)(hlen:out.length<1099511627776):
   ∃h',KW 147 [.ptr p 0] h=some (.ret (.Zt []),h')/\X5 h' p t v (inc out) (low%4294967296) ZH/\Iy h h' (fp p v)/\h'.n=h.n:=by
 have Rw:=H.ZW a.cell;have xqw:=a.NN;rcases a.grow with ⟨rfl,rfl⟩|⟨b,rfl,Wp,hb⟩
 . have hw:=λv=>Zw a.cell (o:=1) (by simp) v
   have hlp:ZI (QE KW ZI) ⟨[.ptr p 0,.int .i64 (-1),V.Zt []],2,.int .i64 (-1)⟩ h=some ⟨.ex 0,⟨[.ptr p 0,.int .i64 (-1),V.Zt []],10,.bool false⟩,h⟩:=by
    rw[Zi];simp[QE]
   rw[W1 fK,oa];simp[ZZ a.cell];rw[ZS (by omega) (by omega)];simp[hlp,hw,ZZ a.cell,pZ a.NN];refine⟨⟨ZV Rw,.inl ⟨rfl,rfl⟩,by simp[sD],by omega⟩,⟨Nat.le_refl _,λc hc hs=>ZX λe=>hs (.inl e)⟩,rfl⟩
 . have hn:=NQ a.cell hb (by simp)
   have yG:out.length≠0:=by simpa using Wp
   rw[W1 fK,oa];simp[ZZ a.cell];obtain⟨e',h',i1,i2,i3⟩:=yb p b t 5 (.int .u64 low) ZH out.length out.length out [] h ⟨[.ptr p 0,.int .i64 ((out.length:Int)-1),V.Wz],2,.int .i64 ((out.length:Int)-1)⟩ rfl a.byte (by simp) hlen a.cell (by simpa using hb) hn (by simp) (by simp);have SV:h'.get p=some (.cells [.sl b 0 out.length (.op 1),.int .u64 low,ZH] t false):=by rw[i3.2,if_neg hn,a.cell]
   have hw:=λv=>Zw SV (o:=1) (by simp) v;rw[ZS (by omega) (by omega)];simp at i1;simp[i1,i2,ZZ SV,hw,pZ a.NN];have mU:p<h'.n:=by rw[i3.1];exact Rw
   refine⟨⟨ZV mU,.inr ⟨b,by rw[Xq],?_,?_⟩,?_,by omega⟩,⟨by rw[H.ZJ,i3.1];exact Nat.le_refl _,λc hc hs=>?_⟩,i3.1⟩
   .intro e;have:=Xq out;rw[e]at this;simp at this;exact yG this.symm
   .rw[ZX (Ne.symm hn),i3.2,if_pos rfl];simp
   .exact Mc a.byte
   .rw[ZX λe=>hs (.inl e),i3.2,if_neg λe=>hs (.inr ⟨_,_,_,by rw[e]⟩)]
variable{q o:Nat}
theorem J1(g:GR h v out){cp:J5}(hr:h.Ze q o n=some (ZG l))(hl:l.length=n)(hn:n≠0)(hlen:out.length+n<1099511627777):
   ∃h2,Vk 5 1 1 h v (.sl q o n cp)=some (.sl h.n 0 (out.length+n) (.op 1),h2)/\h2.n=h.n+1/\h2.get h.n=some (.cells (ZG (out++l)) 5 false) /\
    ∀c,c<h.n->(∀o n k,v≠.sl c o n k)->h2.get c=h.get c:=by
 rcases g with ⟨rfl,rfl⟩|⟨b,rfl,Wp,hb⟩
 . refine⟨h.new (.cells (ZG l) 5 false),?_,rfl,?_,?_⟩
   .simp[Vk,lenOf,XY,hr,Iu,hn]
    simp at hlen;omega
   .simp[ZY]
   .intro c hc hv;exact ZR hc
 . have HE:=H.ZW hb
   refine⟨((h.put b .dead).new (.cells (ZG out++ZG l) 5 false)),?_,rfl,?_,?_⟩
   .have:List.take out.length (ZG out)=ZG out:=List.take_of_length_le (by simp)
    simp[Vk,lenOf,XY,hr,Iu,hn,hb,this,H.ZJ];omega
   .rw[show h.n=(h.put b .dead).n from rfl,ZY,Kz]
   .intro c hc hv
    rw[ZR (by simpa [H.ZJ]using hc),ZX (λe=>hv _ _ _ (by rw[e]))]
def emit(out:List Nat)(low:Nat):List Nat×Nat :=
 let q:=if 4294967296<=low then (inc out,low%4294967296)else (out,low)
 (q.1++[q.2/16777216],q.2%16777216*256)
theorem Vr(out:List Nat)(low:Nat):(emit out low).1.length=out.length+1:=by
 unfold emit;split<;>simp[Xq]
theorem Ix(out:List Nat)(low:Nat):(emit out low).2<4294967296:=by
 unfold emit;split<;>simp<;>omega
theorem GI{t:TypeId}{ZH:V}(a:X5 h p t v out low ZH)(hlen:out.length<1099511627775)(KF:low<8589934592):
   ∃h' v',KW 110 [.ptr p 0] h=some (.ret (.Zt []),h')/\X5 h' p t v' (emit out low).1 (emit out low).2 ZH/\Iy h h' (fp p v)/\∀c o n k,v'=.sl c o n k->h.n<=c:=by
 have Rw:=H.ZW a.cell
 -- behind the carry
 obtain⟨h1,o1,l1,hif,a1,hl1,mT,hq,f1,Uo⟩:∃h1 o1 l1,(4294967295<low->KW 147 [.ptr p 0] h=some (.ret (.Zt []),h1))/\X5 h1 p t v o1 l1 ZH/\l1<4294967296/\o1.length=out.length /\
    emit out low=(o1++[l1/16777216],l1%16777216*256)/\Iy h h1 (fp p v)/\h1.n=h.n/\(¬4294967295<low->h1=h):=by
   by_cases hc:4294967295<low
   .obtain⟨h1,k1,k2,k3,k4⟩:=ya a (by omega)
    exact⟨h1,inc out,low%4294967296,λ_=>k1,k2,by omega,Xq out,by simp[emit,show 4294967296<=low by omega],k3,k4,λh=>absurd hc h⟩
   .exact⟨h,out,low,λh=>absurd h hc,a,by omega,rfl,by simp[emit,show ¬4294967296<=low by omega],⟨Nat.le_refl _,λ_ _ _=>rfl⟩,rfl,λ_=>rfl⟩
 have nL:p<h1.n:=by omega
 obtain⟨x,hx⟩:∃x,x=l1/16777216:=⟨_,rfl⟩
 obtain⟨hn,Dm⟩:∃hn,hn=h1.new (.cells [.int .u8 (x:Int)] 5 false):=⟨_,rfl⟩
 have hnn:hn.n=h1.n+1:=by rw[Dm,H.ZP]
 have Md:hn.Ze h1.n 0 1=some (ZG [x]):=by
   rw[Dm];simp[H.Ze,ZY,ZG]
 have SG:GR hn v o1:=by
   rcases a1.grow with ⟨e1,e2⟩|⟨b,e1,e2,e3⟩
   .exact .inl ⟨e1,e2⟩
   .exact .inr ⟨b,e1,e2,by rw[Dm,ZR (H.ZW e3),e3]⟩
 obtain⟨h2,ha,U0,SS,eO⟩:=J1 SG (cp:=.ex 1) Md rfl (by decide) (by omega);have QP:h2.get p=some (.cells [v,.int .u64 l1,ZH] t false):=by
   rw[eO p (by omega),Dm,ZR nL,a1.cell];intro o n k e;rcases a1.grow with ⟨e1,e2⟩|⟨b,e1,e2,e3⟩
   .rw[e1]at e;cases e
   .rw[e1]at e;cases e;exact NQ a1.cell e3 (by simp[e1]) rfl
 have e1:(l1:Int).fdiv (2^(min 24 IntKind.u64.bits))=(x:Int):=by
   rw[Int.fdiv_eq_ediv_of_nonneg _ (by decide),hx];rfl
 have e2:IntKind.u8.wrap (x:Int)=(x:Int):=by rw[J2];omega
 have Ak:∀{β:Type} (y:Option β),ck (some v) v y=y:=by
   intro β y;rcases a1.grow with ⟨e1,e2⟩|⟨b,e1,e2,e3⟩<;>rw[e1]<;>simp
 have w1:=λx=>Zw QP (o:=0) (by simp) x;obtain⟨h3,Zc⟩:∃h3,h3=h2.put p (.cells [.sl hn.n 0 (o1.length+1) (.op 1),.int .u64 l1,ZH] t false):=⟨_,rfl⟩
 have NP:h3.get p=some (.cells [.sl hn.n 0 (o1.length+1) (.op 1),.int .u64 l1,ZH] t false):=by rw[Zc];exact ZV (by omega)
 have w3:=λx=>Zw NP (o:=1) (by simp) x;have fin:Iy h (h3.put p (.cells [.sl hn.n 0 (o1.length+1) (.op 1),.int .u64 ((l1%16777216*256:Nat):Int),ZH] t false)) (fp p v):=by
   refine⟨by rw[H.ZJ,Zc,H.ZJ];omega,λc hc hs=>?_⟩;have uI:c≠p:=λe=>hs (.inl e);rw[ZX uI,Zc,ZX uI,eO c (by omega) (λo n k e=>hs (.inr ⟨o,n,k,e⟩)),Dm,ZR (by omega),f1.2 c hc hs]
 have enc:X5 (h3.put p (.cells [.sl hn.n 0 (o1.length+1) (.op 1),.int .u64 ((l1%16777216*256:Nat):Int),ZH] t false)) p t (.sl hn.n 0 (o1.length+1) (.op 1)) (emit out low).1 (emit out low).2 ZH:=by
   rw[hq];refine⟨ZV (by rw[Zc,H.ZJ];omega),.inr ⟨hn.n,by simp,by simp,?_⟩,?_,by show _<_;omega⟩
   .rw[ZX (by omega),Zc,ZX (by omega),SS,hx]
   .intro y hy
    rcases List.mem_append.mp hy with hy|hy
    .exact a1.byte y hy
    .simp at hy;omega
 have m1:IntKind.u64.wrap (IntKind.u64.wrap ((l1%2^IntKind.u64.bits &&& 16777215%2^IntKind.u64.bits:Nat):Int)*2^(min 8 IntKind.u64.bits))=(l1:Int)%16777216*256:=by
   rw[show IntKind.u64.bits=64 from rfl,Nat.mod_eq_of_lt (show l1<2^64 by omega),Nat.mod_eq_of_lt (show 16777215<2^64 by omega)];rw[show (16777215:Nat)=2^24-1 from rfl,Nat.and_two_pow_sub_one_eq_mod];rw[wrap64 (n:=((l1%2^24:Nat):Int)) (by omega) (by omega),wrap64 (by simp;omega) (by simp;omega)];simp
 refine⟨_,_,?_,enc,fin,λc o n k e=>by cases e;omega⟩;rw[W1 WqF,gF];by_cases hc:4294967295<low
 . simp[ZZ a.cell,show (4294967295:Int)<low by omega,hif hc,ZZ a1.cell,bs,YD,e1,e2,V.cells,splice,<-Dm,ha,w1,Ak,<-Zc,ZZ NP,w3,m1]
 . have h1e:=Uo.2 hc
   subst h1e;have yG:low=l1:=by have e:=a.cell.symm.trans a1.cell;simp at e;omega
   rw[yG]at a hc;simp[ZZ a.cell,show ¬(4294967295:Int)<l1 by omega,ZZ a1.cell,bs,YD,e1,e2,V.cells,splice,<-Dm,ha,w1,Ak,<-Zc,ZZ NP,w3,m1]
structure Nf(h h':H)(p:Nat)(v v':V):Prop where
 fr:Iy h h' (fp p v)
 nw:v'=v\/∀c o n k,v'=.sl c o n k->h.n<=c
theorem Nf.refl(h:H)(p:Nat)(v:V):Nf h h p v v:=⟨⟨Nat.le_refl _,λ_ _ _=>rfl⟩,.inl rfl⟩
theorem Nf.trans{v1 v2:V}(a:Nf h h1 p v v1)(b:Nf h1 h2 p v1 v2):Nf h h2 p v v2:=by
 refine⟨⟨Nat.le_trans a.fr.1 b.fr.1,λc hc hs=>?_⟩,?_⟩
 . have h1n:=a.fr.1
   rw[b.fr.2 c (by omega) ?_,a.fr.2 c hc hs];rintro (e|⟨o,n,k,e⟩)
   .exact hs (.inl e)
   .rcases a.nw with e1|e1
    .exact hs (.inr ⟨o,n,k,by rw[<-e1,e]⟩)
    .have:=e1 c o n k e;omega
 . have h1n:=a.fr.1
   rcases b.nw with e|e
   .rw[e];exact a.nw
   .exact .inr λc o n k e1=>by have:=e c o n k e1;omega
def Yj:Nat->List Nat->Nat->Nat->List Nat×Nat×Nat
 |0,out,low,wide=>(out,low,wide)
 |n+1,out,low,wide=>if wide<16777216 then Yj n (emit out low).1 (emit out low).2 (wide*256)else (out,low,wide)
theorem xZ(p:Nat)(t:TypeId)(ZH:V):∀(n:Nat) (h:H) (v:V) (out:List Nat) (low wide:Nat) (e:E),X5 h p t v out low ZH->low<8589934592->16777216<=wide*256^n->wide<4294967296->out.length+n<1099511627775 ->
   e.s [0,1,2,6,7,8] 0=.ptr p 0->e.s [0,1,2,6,7,8] 8=.int .u32 wide ->
   ∃e' h' v',ZI (IU KW ZI) e h=some ⟨.ex 1,e',h'⟩/\e'.s [0,1,2,6,7,8] 0=.ptr p 0/\e'.s [0,1,2,6,7,8] 8=.int .u32 (Yj n out low wide).2.2 /\
    X5 h' p t v' (Yj n out low wide).1 (Yj n out low wide).2.1 ZH/\Nf h h' p v v'
 |n,h,v,out,low,wide,e,a,KF,hw,nH,hlen,PS,Ah=>by
   by_cases hc:wide<16777216
   .cases n with
    |zero=>simp at hw;omega
    |succ n =>
     obtain⟨h1,v1,k1,k2,k3,k4⟩:=GI a (by omega) KF;have hm:IntKind.u32.wrap ((wide:Int)*2^(min 8 IntKind.u32.bits))=((wide*256:Nat):Int):=by
      rw[show IntKind.u32.bits=32 from rfl,wrap32 (by simp;omega) (by simp;omega)];simp
     rw[Zi];simp[IU,PS,Ah,show (wide:Int)<=16777215 by omega,k1];rw[hm];obtain⟨e',h',v',i1,i2,i3,i4,i5⟩:=xZ p t ZH n h1 v1 _ _ (wide*256) ⟨[.ptr p 0,e.s [0,1,2,6,7,8] 1,e.s [0,1,2,6,7,8] 2,e.s [0,1,2,6,7,8] 6,e.s [0,1,2,6,7,8] 7,.int .u32 ((wide*256:Nat):Int)],8,.int .u32 ((wide*256:Nat):Int)⟩ k2
      (by have:=Ix out low;omega) (by rw[Nat.mul_assoc,<-Nat.pow_succ'];exact hw) (by omega) (by rw[Vr];omega) (by simp) (by simp)
     simp only[Yj,if_pos hc];exact⟨e',h',i1,i2,i3,v',i4,(Nf.trans ⟨k3,.inr k4⟩ i5)⟩
   .rw[Zi]
    simp[IU,PS,Ah,show ¬(wide:Int)<=16777215 by omega];have hr:Yj n out low wide=(out,low,wide):=by cases n<;>simp[Yj,hc]
    rw[hr];exact⟨_,_,⟨rfl,rfl⟩,by simp,by simp,v,a,Nf.refl _ _ _⟩
def part(ZH lo hi:Nat):Nat×Nat:=(ZH/32768*lo,if hi=32768 then ZH-ZH/32768*lo else ZH/32768*(hi-lo))
variable{ZH lo hi:Nat}
theorem WU(h0:16777216<=ZH)(h1:ZH<4294967296)(h2:lo<hi)(h3:hi<=32768):
   (part ZH lo hi).1+(part ZH lo hi).2<=ZH/\512<=(part ZH lo hi).2:=by
 unfold part;have hq:512<=ZH/32768:=by omega
 have qc:ZH/32768*32768<=ZH:=by omega
 generalize ZH/32768=q at *;have m1:q*lo+q*(hi-lo)<=q*32768:=by rw[<-Nat.mul_add];exact Nat.mul_le_mul_left _ (by omega)
 have m2:q*1<=q*(hi-lo):=Nat.mul_le_mul_left _ (by omega);split
 . subst_vars;constructor<;>simp only<;>omega
 . constructor<;>simp only<;>omega
def Iw(low ZH:Nat):Prop:=16777216<=ZH/\ZH<4294967296/\low+ZH<8589934592
theorem L3:∀{n:Nat} {out:List Nat} {low wide:Nat},16777216<=wide*256^n->wide<4294967296->low+wide<8589934592 ->
   Iw (Yj n out low wide).2.1 (Yj n out low wide).2.2/\(Yj n out low wide).1.length<=out.length+n
 |0,out,low,wide,h1,h2,h3=>⟨⟨by simpa [Yj]using h1,h2,h3⟩,Nat.le_refl _⟩
 |n+1,out,low,wide,h1,h2,h3=>by
   unfold Yj;split
   .have hl:(emit out low).2<=4294967040:=by unfold emit;split<;>simp<;>omega
    have:=L3 (n:=n) (out:=(emit out low).1) (low:=(emit out low).2) (wide:=wide*256) (by rw[Nat.mul_assoc,<-Nat.pow_succ'];exact h1) (by omega) (by omega);refine⟨this.1,?_⟩;have:=this.2;rw[Vr]at this;omega
   .rename_i hc
    exact⟨⟨by show _<=wide;omega,h2,h3⟩,by simp⟩
def put(out:List Nat)(low ZH lo hi:Nat):List Nat×Nat×Nat:=Yj 3 out (low+(part ZH lo hi).1) (part ZH lo hi).2
theorem sC(sS:Iw low ZH)(h2:lo<hi)(h3:hi<=32768):
   Iw (put out low ZH lo hi).2.1 (put out low ZH lo hi).2.2/\(put out low ZH lo hi).1.length<=out.length+3:=by
 obtain⟨a,b,c⟩:=sS;obtain⟨m1,m2⟩:=WU a b h2 h3;exact L3 (by omega) (by omega) (by omega)
theorem xY{t:TypeId}(a:X5 h p t v out low (.int .u32 ZH))(inv:Iw low ZH)(hlen:out.length<1099511627000)(h2:lo<hi)(h3:hi<=32768):
   ∃h' v',KW 137 [.ptr p 0,.int .u32 lo,.int .u32 hi] h=some (.ret (.int .i64 0),h') /\
    X5 h' p t v' (put out low ZH lo hi).1 (put out low ZH lo hi).2.1 (.int .u32 (put out low ZH lo hi).2.2)/\Nf h h' p v v':=by
 obtain⟨i1,i2,i3⟩:=inv;obtain⟨m1,m2⟩:=WU i1 i2 h2 h3;have Rw:=H.ZW a.cell;have BK:=JN ZH lo hi (by omega) (by omega) (by omega) (by omega) (by omega) h;obtain⟨at_,Iv⟩:∃x,x=(part ZH lo hi).1:=⟨_,rfl⟩
 obtain⟨wd,JY⟩:∃x,x=(part ZH lo hi).2:=⟨_,rfl⟩
 have e1:(ZH:Int)/32768*lo=(at_:Int):=by rw[Iv,part];simp
 have e2:(if (hi:Int)=32768 then (ZH:Int)-ZH/32768*lo else ZH/32768*(hi-lo))=(wd:Int):=by
   rw[JY,part];have:=m1;rw[part]at this;by_cases hc:hi=32768
   .have SV:(hi:Int)=32768:=by omega
    simp only[if_pos hc,if_pos SV]at *;rw[Int.natCast_sub (by omega)];simp
   .have SV:¬(hi:Int)=32768:=by omega
    simp only[if_neg hc,if_neg SV];rw[Int.natCast_mul,Int.natCast_sub (by omega)];simp
 rw[<-Iv,<-JY]at m1;rw[<-JY]at m2;rw[e2,e1]at BK;have UE:=λv=>Zw a.cell (o:=1) (by simp) v;obtain⟨h1,ZL⟩:∃h1,h1=h.put p (.cells [v,.int .u64 ((low:Int)+at_),.int .u32 ZH] t false):=⟨_,rfl⟩
 have a1:X5 h1 p t v out (low+at_) (.int .u32 ZH):=by
   refine⟨by rw[ZL,ZV Rw];simp,?_,a.byte,by omega⟩;rcases a.grow with g|⟨b,g1,g2,g3⟩
   .exact .inl g
   .exact .inr ⟨b,g1,g2,by rw[ZL,ZX (λe=>NQ a.cell g3 (by simp[g1]) e.symm),g3]⟩
 have o1:Nf h h1 p v v:=⟨⟨by rw[ZL,H.ZJ];exact Nat.le_refl _,λc hc hs=>by rw[ZL,ZX λe=>hs (.inl e)]⟩,.inl rfl⟩
 have ml:IntKind.u64.wrap ((low:Int)+at_)=(low:Int)+at_:=wrap64 (by omega) (by omega);have ma:IntKind.u64.wrap (at_:Int)=at_:=wrap64 (by omega) (by omega);obtain⟨e',h',v',k1,k2,k3,k4,k5⟩:=xZ p t (.int .u32 ZH) 3 h1 v out (low+at_) wd ⟨[.ptr p 0,.int .u32 lo,.int .u32 hi,.int .i64 0,.int .u32 at_,.int .u32 wd],0,.ptr p 0⟩ a1 (by omega) (by omega) (by omega) (by omega) (by simp) (by simp);have KE:put out low ZH lo hi=Yj 3 out (low+at_) wd:=by rw[put,<-Iv,<-JY]
 rw[KE];have mU:=H.ZW k4.cell;obtain⟨r,hr⟩:∃r,r=Yj 3 out (low+at_) wd:=⟨_,rfl⟩
 rw[<-hr]at k3 k4 ⊢;have nC:=λv=>Zw k4.cell (o:=2) (by simp) v;refine⟨h'.put p (.cells [v',.int .u64 r.2.1,.int .u32 r.2.2] t false),v',?_,⟨ZV mU,?_,k4.byte,k4.NN⟩,o1.trans (k5.trans ⟨⟨by rw[H.ZJ];exact Nat.le_refl _,λc hc hs=>by rw[ZX λe=>hs (.inl e)]⟩,.inl rfl⟩)⟩
 . rw[W3 Wqs,fT]
   simp only[u32]at BK;have hz:¬(ZH=0):=by omega
   have uC:¬(hi<=lo):=by omega
   have nF:¬(32768<hi):=by omega
   have uD:¬((hi:Int)<=lo):=by omega
   have HD:¬((32768:Int)<hi):=by omega
   simp[ZZ a.cell,hz,uD,HD,uC,nF,BK,UE,ma,ml,<-ZL,k1,k2,k3,nC]
 . rcases k4.grow with g|⟨b,g1,g2,g3⟩
   .exact .inl g
   .exact .inr ⟨b,g1,g2,by rw[ZX (λe=>NQ k4.cell g3 (by simp[g1]) e.symm),g3]⟩
theorem xX(h:H):∃h',KW 34 [] h=some (.ret (.ptr h.n 0),h')/\X5 h' h.n 144 .ZO [] 0 (.int .u32 (4294967295:Nat))/\h'.n=h.n+1/\∀c,c<h.n->h'.get c=h.get c:=by
 refine⟨h.new (.cells [.ZO,.int .u64 0,.int .u32 4294967295] 144 false),?_,⟨ZY,.inl ⟨rfl,rfl⟩,by simp,by omega⟩,rfl,λc hc=>ZR hc⟩;rw[W0 r34,s34];simp[bl,YD,bx,V.cells,splice]
theorem xW(g:GR h v out)(hlen:out.length<1099511627776):
   ∃h' v',KW 109 [v] h=some (.ret v',h')/\GR h' v' out/\h.n<=h'.n/\(∀c,c<h.n->h'.get c=h.get c)/\∀c o n k,v'=.sl c o n k->h.n<=c:=by
 rcases g with ⟨rfl,rfl⟩|⟨b,rfl,Wp,hb⟩
 . refine⟨h,.ZO,?_,.inl ⟨rfl,rfl⟩,Nat.le_refl _,λ_ _=>rfl,λc o n k e=>by cases e⟩
   rw[W1 yZ,BU];simp
 . have HE:=H.ZW hb
   have yG:out.length≠0:=by simpa using Wp
   obtain⟨h1,ZL⟩:∃h1,h1=h.new (.cells [] 5 false):=⟨_,rfl⟩
   have VJ:h1.get b=some (.cells (ZG out) 5 false):=by rw[ZL,ZR HE,hb]
   have hk:List.take out.length (ZG out)=ZG out:=List.take_of_length_le (by simp);refine⟨h1.new (.cells (ZG out) 5 false),.sl h1.n 0 out.length (.op 1),?_,.inr ⟨h1.n,rfl,Wp,ZY⟩,by rw[H.ZP,ZL,H.ZP];omega,λc hc=>?_,λc o n k e=>?_⟩
   .have yc:h1.get h.n=some (.cells [] 5 false):=by rw[ZL];exact ZY
    rw[W1 yZ,BU];simp[bs,YD,<-ZL,Vk,lenOf,XY,H.Ze,VJ,Iu,yc,hk,yG,show out.length<=140737488355328 by omega]
   .rw[ZR (by rw[ZL,H.ZP];omega),ZL,ZR hc]
   .cases e;rw[ZL,H.ZP];omega
def WL:Nat->List Nat->Nat->List Nat×Nat
 |0,out,low=>(out,low)
 |n+1,out,low=>WL n (emit out low).1 (emit out low).2
theorem xV(p:Nat)(t:TypeId)(ZH:V):∀(n:Nat) (h:H) (v:V) (out:List Nat) (low:Nat) (e:E),X5 h p t v out low ZH->low<8589934592->n<=4->out.length+n<1099511627775 ->
   e.s [0,2,3,4,24] 3=.ptr p 0->e.s [0,2,3,4,24] 24=.int .i64 (4-(n:Int)) ->
   ∃e' h' v',ZI (Du KW ZI) e h=some ⟨.ex 0,e',h'⟩/\e'.s [0,2,3,4,24] 3=.ptr p 0 /\
    X5 h' p t v' (WL n out low).1 (WL n out low).2 ZH/\Nf h h' p v v'
 |0,h,v,out,low,e,a,KF,hn,hlen,PS,FG=>by
   rw[Zi];simp[Du,PS,FG];exact⟨_,_,⟨rfl,rfl⟩,by simp,v,a,Nf.refl _ _ _⟩
 |n+1,h,v,out,low,e,a,KF,hn,hlen,PS,FG=>by
   obtain⟨h1,v1,k1,k2,k3,k4⟩:=GI a (by omega) KF;rw[Zi];simp[Du,PS,FG,show (4:Int)-(n+1)<4 by omega,k1];have hw:IntKind.i64.wrap ((4:Int)-(n+1)+1)=4-(n:Int):=by rw[ZS (by omega) (by omega)];omega
   rw[hw];obtain⟨e',h',v',i1,i2,i4,i5⟩:=xV p t ZH n h1 v1 _ _ ⟨[e.s [0,2,3,4,24] 0,e.s [0,2,3,4,24] 2,.ptr p 0,e.s [0,2,3,4,24] 4,.int .i64 (4-(n:Int))],24,.int .i64 (4-(n:Int))⟩ k2
    (by have:=Ix out low;omega) (by omega) (by rw[Vr];omega) (by simp) (by simp)
   exact⟨e',h',i1,i2,v',i4,Nf.trans ⟨k3,.inr k4⟩ i5⟩
def TI(out:List Nat):Nat->Nat
 |0=>0
 |k+1=>if out[k]?=some 0 then TI out k else k+1
theorem Ps(out:List Nat):∀k,TI out k<=k
 |0=>Nat.le_refl _
 |k+1=>by unfold TI;split;exact Nat.le_succ_of_le (Ps out k);exact Nat.le_refl _
theorem xU(p b:Nat)(t:TypeId)(c1 c2:V)(out:List Nat)(h:H)(hc:h.get p=some (.cells [.sl b 0 out.length (.op 1),c1,c2] t false))(hb:h.get b=some (.cells (ZG out) 5 false))(hlen:out.length<1099511627776):∀(k:Nat) (e:E),k<=out.length ->
   e.s [0,2,3,4,24] 3=.ptr p 0->e.s [0,2,3,4,24] 4=.int .i64 k ->
   ∃e',ZI (GX KW ZI) e h=some ⟨.ex 2,e',h⟩/\e'.s [0,2,3,4,24] 3=.ptr p 0/\e'.s [0,2,3,4,24] 4=.int .i64 (TI out k)
 |0,e,hk,PS,FG=>by
   rw[Zi];simp[GX,PS,FG,TI]
 |k+1,e,hk,PS,FG=>by
   obtain⟨x,hx⟩:∃x,out[k]?=some x:=⟨out[k],by simp⟩
   have B7:(ZG out)[k]?=some (.int .u8 x):=by simp[ZG,hx]
   have hw:IntKind.i64.wrap (((k+1:Nat):Int)-1)=k:=by rw[ZS (by omega) (by omega)];omega
   have BT:IntKind.i64.wrap ((k:Int))=k:=ZS (by omega) (by omega);have VW:k<out.length:=by omega
   obtain⟨c,hcc⟩:∃c,c=ZG out:=⟨_,rfl⟩
   have Qw:=hb;rw[<-hcc]at hb B7;rw[Zi];by_cases h0:x=0
   .subst h0
    simp[GX,PS,FG,ZZ hc,ZZ hb,B7,hw,BT,show (0:Int)<(k:Int)+1 by omega,VW];obtain⟨e',i1,i2,i3⟩:=xU p b t c1 c2 out h hc Qw hlen k ⟨[e.s [0,2,3,4,24] 0,e.s [0,2,3,4,24] 2,.ptr p 0,.int .i64 k,e.s [0,2,3,4,24] 24],4,.int .i64 k⟩ (by omega) (by simp) (by simp);refine⟨e',i1,i2,?_⟩;rw[i3,TI,hx];simp
   .have ht:TI out (k+1)=k+1:=by rw[TI,hx];simp[h0]
    simp[GX,PS,FG,ZZ hc,ZZ hb,B7,hw,BT,show (0:Int)<(k:Int)+1 by omega,VW,h0,ht]
theorem UQ:∀(n:Nat) (out:List Nat) (low:Nat),(WL n out low).1.length=out.length+n
 |0,_,_=>rfl
 |n+1,out,low=>by rw[WL,UQ n,Vr];omega
def bytes(out:List Nat)(low:Nat):List Nat:=(WL 4 out low).1.take (TI (WL 4 out low).1 (out.length+4))
theorem sB(g:GR h v out){β:Type}(y:Option β):ck (some v) v y=y:=by
 rcases g with ⟨e1,e2⟩|⟨b,e1,e2,e3⟩<;>rw[e1]<;>simp
theorem EN(g:GR h v out):v.cells=some [v]:=by
 rcases g with ⟨e1,e2⟩|⟨b,e1,e2,e3⟩<;>rw[e1]<;>simp[V.cells,V.Zr]
theorem J7(k:IntKind)(n:Int):(V.int k n).cells=some [.int k n]:=rfl
theorem EM{t:TypeId}(a:X5 h p t v out low (.int .u32 ZH))(inv:Iw low ZH)(hlen:out.length<1099511627000):
   ∃h' b,KW 62 [.ptr p 0] h=some (.ret (.sl b 0 (TI (WL 4 out low).1 (out.length+4)) (.ex (TI (WL 4 out low).1 (out.length+4)))),h') /\
    h'.get b=some (.cells (ZG (WL 4 out low).1) 5 false)/\(∀x∈(WL 4 out low).1,x<256)/\h.n<=b/\h.n<=h'.n/\∀c,c<h.n->h'.get c=h.get c:=by
 obtain⟨i1,i2,i3⟩:=inv;have Rw:=H.ZW a.cell;obtain⟨h1,v1,k1,k2,k3,k4,k5⟩:=xW a.grow (by omega);have US:h1.get p=some (.cells [v,.int .u64 low,.int .u32 ZH] t false):=by rw[k4 p Rw,a.cell]
 have hz:¬(ZH=0):=by omega
 have HE:bl [.ZO,.int .u64 0,.int .u32 0] [(some (0,1),v1),(some (1,1),.int .u64 low)]=some (.agg [v1,.int .u64 low,.int .u32 0]):=by
   simp[bl,YD,EN k2,J7,splice]
 obtain⟨h2,Zq⟩:∃h2,h2=h1.new (.cells [.ZO,.int .u64 0,.int .u32 0] 144 false):=⟨_,rfl⟩
 have qc:h2.get h1.n=some (.cells [.ZO,.int .u64 0,.int .u32 0] 144 false):=by rw[Zq];exact ZY
 obtain⟨h3,Zc⟩:∃h3,h3=h2.put h1.n (.cells [v1,.int .u64 low,.int .u32 0] 144 false):=⟨_,rfl⟩
 have WY:Zx 3 h2 (.ptr h1.n 0) (.agg [v1,.int .u64 low,.int .u32 0])=some (.Zt [],h3):=by
   rw[Zc];simp[Zx,H.X4,qc,splice]
 have a3:X5 h3 h1.n 144 v1 out low (.int .u32 0):=by
   refine⟨by rw[Zc,ZV (H.ZW qc)],?_,a.byte,a.NN⟩;rcases k2 with g|⟨b,g1,g2,g3⟩
   .exact .inl g
   .have:=H.ZW g3
    exact .inr ⟨b,g1,g2,by rw[Zc,ZX (by omega),Zq,ZR this,g3]⟩
 obtain⟨e',h4,v4,j1,j2,j3,j4⟩:=xV h1.n 144 (.int .u32 0) 4 h3 v1 out low ⟨[.ptr p 0,.ZO,.ptr h1.n 0,.Zt [],.int .i64 0],24,.int .i64 0⟩ a3 (by omega) (by omega) (by omega) (by simp) (by simp);have U0:h2.n=h1.n+1:=by rw[Zq,H.ZP]
 have dI:h3.n=h1.n+1:=by rw[Zc,H.ZJ,U0]
 have sA:=UQ 4 out low;rcases j3.grow with ⟨g1,g2⟩|⟨b,rfl,g2,g3⟩
 . rw[g2]at sA;simp at sA
 . obtain⟨e2,m1,m2,m3⟩:=xU h1.n b 144 (.int .u64 (WL 4 out low).2) (.int .u32 0) _ h4 j3.cell g3 (by omega) _ ⟨[e'.s [0,2,3,4,24] 0,e'.s [0,2,3,4,24] 2,.ptr h1.n 0,.int .i64 (WL 4 out low).1.length,e'.s [0,2,3,4,24] 24],4,.int .i64 (WL 4 out low).1.length⟩ (Nat.le_refl _) (by simp) (by simp)
   have hle:=Ps (WL 4 out low).1 (WL 4 out low).1.length;rw[<-sA];obtain⟨n,hn⟩:∃n,n=TI (WL 4 out low).1 (WL 4 out low).1.length:=⟨_,rfl⟩
   rw[<-hn]at m3 hle ⊢;have hsl:Ce 1 (.sl b 0 (WL 4 out low).1.length (.op 1)) none (some (.int .i64 n)) (some (.int .i64 n))=some (.sl b 0 n (.ex n)):=by
    have kqW:n<=(WL 4 out low).1.length:=hle;simp[Ce,Up,XK,kqW]
   refine⟨h4,b,?_,g3,j3.byte,?_,by have:=j4.fr.1;omega,λc hc=>?_⟩
   .rw[W1 r62,s62]
    simp[ZZ a.cell,hz,k1,ZZ US,HE,nw,<-Zq,WY,sB a.grow,j1,j2,ZZ j3.cell,m1,m2,m3,hsl]
   .rcases j4.nw with e|e
    .have:=k5 b;rw[<-e]at this;have:=this _ _ _ rfl;omega
    .have:=e b _ _ _ rfl;omega
   .rw[j4.fr.2 c (by omega) ?_,Zc,ZX (by omega),Zq,ZR (by omega),k4 c hc]
    rintro (e|⟨o,n,k,e⟩)
    .omega
    .have:=k5 _ _ _ _ e;omega
def kqV(h:H)(v:V)(l:List Nat):Prop :=
 (v=.ZO/\l=[])\/∃b o k c e ro,v=.sl b o l.length k/\h.get b=some (.cells c e ro)/\∀i,i<l.length->c[o+i]?=(ZG l)[i]?
def Yi(h h':H)(p:Nat):Prop:=h'.n=h.n/\∀c,c≠p->h'.get c=h.get c
theorem Yi.refl(h:H)(p:Nat):Yi h h p:=⟨rfl,λ_ _=>rfl⟩
theorem Yi.trans(a:Yi h h1 p)(b:Yi h1 h2 p):Yi h h2 p :=
 ⟨b.1.trans a.1,λc hc=>by rw[b.2 c hc,a.2 c hc]⟩
theorem Yi.put(h:H)(p:Nat)(x:WI):Yi h (h.put p x) p:=⟨H.ZJ _ _ _,λc hc=>ZX hc⟩
def E6(h:H)(X:Nat->Prop)(v:V)(l:List Nat):Prop :=
 (v=.ZO/\l=[])\/(∃b o k,v=.sl b o 0 k/\l=[]) \/
 ∃b o c e ro,v=.sl b o l.length (.op 1)/\¬X b/\h.get b=some (.cells c e ro)/\∀i,i<l.length->c[o+i]?=(ZG l)[i]?
variable{h':H}{X:Nat->Prop}
theorem E6.only(a:E6 h X v l)(o:Yi h h' p)(hX:X p):E6 h' X v l:=by
 rcases a with a|a|⟨b,o',c,e,ro,h1,h2,h3,h4⟩
 . exact .inl a
 . exact .inr (.inl a)
 . exact .inr (.inr ⟨b,o',c,e,ro,h1,h2,by rw[o.2 b (λe=>h2 (e▸hX)),h3],h4⟩)
structure TH(h:H)(X:Nat->Prop)(p:Nat)(v:V)(rest:List Nat)(code ZH:Nat):Prop where
 cell:h.get p=some (.cells [v,.int .u32 code,.int .u32 ZH] 171 false)
 own:X p
 sl:E6 h X v rest
 byte:∀x∈rest,x<256
def L9(code ZH:Nat):Prop:=16777216<=ZH/\ZH<4294967296/\code<ZH
def value(code ZH:Nat):Nat:=min (code/(ZH/32768)) 32767
variable{rest:List Nat}
theorem L2{code:Nat}(a:TH h X p v rest code ZH)(inv:L9 code ZH):
   KW 163 [.ptr p 0] h=some (.ret (.int .u32 (value code ZH)),h):=by
 obtain⟨i1,i2,i3⟩:=inv;have e1:(ZH:Int).fdiv (2^(min 15 IntKind.u32.bits))=((ZH/32768:Nat):Int):=by
   rw[Int.fdiv_eq_ediv_of_nonneg _ (by decide)];rfl
 obtain⟨q,hq⟩:∃q,q=ZH/32768:=⟨_,rfl⟩
 have qh:¬(q=0):=by omega
 have e2:(code:Int).tdiv (q:Int)=((code/q:Nat):Int):=by rw[Int.tdiv_eq_ediv_of_nonneg (by omega)];rfl
 have hle:code/q<=code:=Nat.div_le_self _ _;rw[<-hq]at e1;rw[value,<-hq];obtain⟨x,hx⟩:∃x,x=code/q:=⟨_,rfl⟩
 rw[<-hx]at e2 hle ⊢;have e3:IntKind.u32.wrap (x:Int)=x:=wrap32 (by omega) (by omega);have e4:Vx [.int .u32 (x:Int),.int .u32 32767]=some (.int .u32 ((min x 32767:Nat):Int)):=by
   simp[Vx,SU,NR];split<;>omega
 rw[W1 kqU,dE];simp[ZZ a.cell,e1,qh,e2,e3,e4]
theorem L1{code:Nat}(a:TH h X p v rest code ZH)(hc:code<16777216):
   ∃h' v',KW 111 [.ptr p 0] h=some (.ret (.Zt []),h')/\TH h' X p v' rest.tail (code*256+rest.headD 0) ZH/\Yi h h' p:=by
 have Rw:=H.ZW a.cell;obtain⟨d,hd⟩:∃d,d=code*256:=⟨_,rfl⟩
 have m1:IntKind.u32.wrap ((code:Int)*2^(min 8 IntKind.u32.bits))=(d:Int):=by
   rw[show IntKind.u32.bits=32 from rfl,wrap32 (by simp;omega) (by simp;omega),hd];simp
 have UE:=λx=>Zw a.cell (o:=1) (by simp) x;obtain⟨h1,ZL⟩:∃h1,h1=h.put p (.cells [v,.int .u32 (d:Int),.int .u32 ZH] 171 false):=⟨_,rfl⟩
 have US:h1.get p=some (.cells [v,.int .u32 (d:Int),.int .u32 ZH] 171 false):=by rw[ZL];exact ZV Rw
 have o1:Yi h h1 p:=by rw[ZL];exact Yi.put _ _ _
 rw[<-hd];rcases a.sl with ⟨rfl,rfl⟩|⟨b,o,k,rfl,rfl⟩|⟨b,o,c,e,ro,rfl,hbX,hb,hcs⟩
 . refine⟨h1,.ZO,?_,⟨by simpa using US,a.own,.inl ⟨rfl,rfl⟩,by simp⟩,o1⟩
   rw[W1 tf,yY];simp[ZZ a.cell,UE,m1,<-ZL,ZZ US]
 . refine⟨h1,.sl b o 0 k,?_,⟨by simpa using US,a.own,.inr (.inl ⟨b,o,k,rfl,rfl⟩),by simp⟩,o1⟩
   rw[W1 tf,yY];simp[ZZ a.cell,UE,m1,<-ZL,ZZ US]
 . cases rest with
   |nil =>
    simp only[List.length_nil]at ZL US;refine⟨h1,.sl b o 0 (.op 1),?_,⟨by simpa using US,a.own,.inr (.inl ⟨b,o,_,rfl,rfl⟩),by simp⟩,o1⟩;rw[W1 tf,yY];simp[ZZ a.cell,UE,m1,<-ZL,ZZ US]
   |cons x r =>
    have qi:b≠p:=λe=>hbX (e▸a.own);have hx:x<256:=a.byte x (by simp);have jZ:c[o]?=some (.int .u8 x):=by have:=hcs 0 (by simp);simpa [ZG]using this
    have VJ:h1.get b=some (.cells c e ro):=by rw[o1.2 b qi,hb]
    have ho:IntKind.u32.wrap ((d%2^IntKind.u32.bits ||| x%2^IntKind.u32.bits:Nat):Int)=((d+x:Nat):Int):=by
     rw[show IntKind.u32.bits=32 from rfl,Nat.mod_eq_of_lt (show d<2^32 by omega),Nat.mod_eq_of_lt (show x<2^32 by omega)];have e1:d ||| x=d+x:=by
      rw[hd,Nat.mul_comm,show (256:Nat)=2^8 from rfl,Nat.two_pow_add_eq_or_of_lt (by omega)]
     rw[e1,wrap32 (by omega) (by omega)]
    have mx:IntKind.u32.wrap (x:Int)=x:=wrap32 (by omega) (by omega);have BL:=λx=>Zw US (o:=1) (by simp) x;obtain⟨w,hw⟩:∃w,w=d+x:=⟨_,rfl⟩
    rw[<-hw]at ho;obtain⟨h2,Zq⟩:∃h2,h2=h1.put p (.cells [.sl b o (x::r).length (.op 1),.int .u32 (w:Int),.int .u32 ZH] 171 false):=⟨_,rfl⟩
    have QP:h2.get p=some (.cells [.sl b o (x::r).length (.op 1),.int .u32 (w:Int),.int .u32 ZH] 171 false):=by rw[Zq];exact ZV (H.ZW US)
    have o2:Yi h1 h2 p:=by rw[Zq];exact Yi.put _ _ _
    have nC:=λx=>Zw QP (o:=0) (by simp) x;have hsl:Ce 1 (.sl b o (r.length+1) (.op 1)) (some (.int .i64 1)) none none=some (.sl b (o+1) r.length (.op 1)):=by
     simp[Ce,Up,XK,show (1:Int)<=(r.length:Int)+1 by omega]
    obtain⟨h3,Zc⟩:∃h3,h3=h2.put p (.cells [.sl b (o+1) r.length (.op 1),.int .u32 (w:Int),.int .u32 ZH] 171 false):=⟨_,rfl⟩
    have o3:Yi h2 h3 p:=by rw[Zc];exact Yi.put _ _ _
    have NP:h3.get p=some (.cells [.sl b (o+1) r.length (.op 1),.int .u32 (w:Int),.int .u32 ZH] 171 false):=by rw[Zc];exact ZV (H.ZW QP)
    simp only[List.length_cons]at ZL US Zq QP;refine⟨h3,.sl b (o+1) r.length (.op 1),?_,⟨by simpa [<-hw]using NP,a.own,.inr (.inr ⟨b,o+1,c,e,ro,rfl,hbX,by rw[o3.2 b qi,o2.2 b qi,VJ],λi hi=>?_⟩),λy hy=>a.byte y (by simp at hy;simp[hy])⟩,o1.trans (o2.trans o3)⟩
    .rw[W1 tf,yY]
     simp[ZZ a.cell,UE,m1,<-ZL,ZZ US,ZZ VJ,jZ,mx,ho,BL,<-Zq,ZZ QP,nC,hsl,<-Zc]
    .have:=hcs (i+1) (by simp at hi ⊢;omega)
     simp[ZG]at this ⊢;rw[show o+1+i=o+(i+1)by omega,this]
def YN:Nat->List Nat->Nat->Nat->List Nat×Nat×Nat
 |0,rest,code,wide=>(rest,code,wide)
 |n+1,rest,code,wide=>if wide<16777216 then YN n rest.tail (code*256+rest.headD 0) (wide*256)else (rest,code,wide)
theorem TM(h:∀x∈l,x<256):l.headD 0<256:=by
 cases l with
 |nil=>simp
 |cons a l=>exact h a (by simp)
theorem xT(X:Nat->Prop)(p:Nat)(ZH:Nat):∀(n:Nat) (h:H) (v:V) (rest:List Nat) (code wide:Nat) (e:E),TH h X p v rest code ZH->code<wide->16777216<=wide*256^n->wide<4294967296 ->
   e.s [0,1,2,6,7,8,9] 0=.ptr p 0->e.s [0,1,2,6,7,8,9] 9=.int .u32 wide ->
   ∃e' h' v',ZI (IQ KW ZI) e h=some ⟨.ex 0,e',h'⟩/\e'.s [0,1,2,6,7,8,9] 0=.ptr p 0/\e'.s [0,1,2,6,7,8,9] 9=.int .u32 (YN n rest code wide).2.2 /\
    TH h' X p v' (YN n rest code wide).1 (YN n rest code wide).2.1 ZH/\Yi h h' p
 |n,h,v,rest,code,wide,e,a,hcw,hw,nH,PS,he9=>by
   by_cases hc:wide<16777216
   .cases n with
    |zero=>simp at hw;omega
    |succ n =>
     obtain⟨h1,v1,k1,k2,k3⟩:=L1 a (by omega);have hm:IntKind.u32.wrap ((wide:Int)*2^(min 8 IntKind.u32.bits))=((wide*256:Nat):Int):=by
      rw[show IntKind.u32.bits=32 from rfl,wrap32 (by simp;omega) (by simp;omega)];simp
     have hb:=TM a.byte;rw[Zi];simp[IQ,PS,he9,show (wide:Int)<=16777215 by omega,k1];rw[hm];obtain⟨e',h',v',i1,i2,i3,i4,i5⟩:=xT X p ZH n h1 v1 _ _ (wide*256) ⟨[.ptr p 0,e.s [0,1,2,6,7,8,9] 1,e.s [0,1,2,6,7,8,9] 2,e.s [0,1,2,6,7,8,9] 6,e.s [0,1,2,6,7,8,9] 7,e.s [0,1,2,6,7,8,9] 8,.int .u32 ((wide*256:Nat):Int)],9,.int .u32 ((wide*256:Nat):Int)⟩ k2
      (by omega) (by rw[Nat.mul_assoc,<-Nat.pow_succ'];exact hw) (by omega) (by simp) (by simp)
     simp only[YN,if_pos hc];exact⟨e',h',i1,i2,i3,⟨v',i4⟩,k3.trans i5⟩
   .rw[Zi]
    simp[IQ,PS,he9,show ¬(wide:Int)<=16777215 by omega];have hr:YN n rest code wide=(rest,code,wide):=by cases n<;>simp[YN,hc]
    rw[hr];exact⟨_,_,⟨rfl,rfl⟩,by simp,by simp,⟨v,a⟩,Yi.refl _ _⟩
theorem LZ{code:Nat}(a:TH h X p v rest code ZH)(inv:L9 code ZH):
   KW 134 [.ptr p 0] h=some (.ret (.Zt [.int .u32 (value code ZH),.int .i64 0]),h):=by
 have h1:=L2 a inv;have hz:¬(ZH=0):=by have:=inv.1;omega
 rw[W1 Wqv,fW];simp[ZZ a.cell,hz,h1]
def take(rest:List Nat)(code ZH lo hi:Nat):List Nat×Nat×Nat:=YN 3 rest (code-(part ZH lo hi).1) (part ZH lo hi).2
theorem Oy{code:Nat}(inv:L9 code ZH)(h1:lo<=value code ZH)(h2:value code ZH<hi)(h3:hi<=32768):
   (part ZH lo hi).1<=code/\code-(part ZH lo hi).1<(part ZH lo hi).2:=by
 obtain⟨i1,i2,i3⟩:=inv;unfold value at h1 h2;unfold part;have hq:512<=ZH/32768:=by omega
 have qc:ZH/32768*32768<=ZH:=by omega
 generalize ZH/32768=q at *;have d1:q*(code/q)<=code:=Nat.mul_div_le _ _;have d2:q*lo<=q*(code/q):=Nat.mul_le_mul_left _ (by omega);refine⟨by simp only;omega,?_⟩;simp only;split
 . omega
 . have h4:code/q<hi:=by omega
   have d3:code<q*hi:=by rw[Nat.mul_comm];exact (Nat.div_lt_iff_lt_mul (by omega)).mp h4
   rw[Nat.mul_sub];omega
theorem NJ:∀{n:Nat} {rest:List Nat} {code wide:Nat},16777216<=wide*256^n->wide<4294967296->code<wide->(∀x∈rest,x<256) ->
   L9 (YN n rest code wide).2.1 (YN n rest code wide).2.2/\∀x∈(YN n rest code wide).1,x<256
 |0,rest,code,wide,h1,h2,h3,h4=>⟨⟨by simpa [YN]using h1,h2,h3⟩,h4⟩
 |n+1,rest,code,wide,h1,h2,h3,h4=>by
   unfold YN;split
   .have:=TM h4
    exact NJ (by rw[Nat.mul_assoc,<-Nat.pow_succ'];exact h1) (by omega) (by omega) λx hx=>h4 x (List.mem_of_mem_tail hx)
   .exact⟨⟨by simp only;omega,h2,h3⟩,h4⟩
theorem xS{code:Nat}(inv:L9 code ZH)(h1:lo<=value code ZH)(h2:value code ZH<hi)(h3:hi<=32768)(hb:∀x∈rest,x<256):
   L9 (take rest code ZH lo hi).2.1 (take rest code ZH lo hi).2.2/\∀x∈(take rest code ZH lo hi).1,x<256:=by
 obtain⟨m1,m2⟩:=WU inv.1 inv.2.1 (by omega:lo<hi) h3;have:=inv.2.1;exact NJ (by omega) (by omega) (Oy inv h1 h2 h3).2 hb
theorem Bx{code:Nat}(a:TH h X p v rest code ZH)(inv:L9 code ZH)(h1:lo<=value code ZH)(h2:value code ZH<hi)(h3:hi<=32768):
   ∃h' v',KW 138 [.ptr p 0,.int .u32 lo,.int .u32 hi] h=some (.ret (.int .i64 0),h') /\
    TH h' X p v' (take rest code ZH lo hi).1 (take rest code ZH lo hi).2.1 (take rest code ZH lo hi).2.2/\Yi h h' p:=by
 have hv:=L2 a inv;obtain⟨t1,t2⟩:=Oy inv h1 h2 h3;obtain⟨i1,i2,i3⟩:=inv;obtain⟨m1,m2⟩:=WU i1 i2 (by omega:lo<hi) h3;have BK:=JN ZH lo hi (by omega) (by omega) (by omega) (by omega) (by omega) h;obtain⟨vl,hvl⟩:∃x,x=value code ZH:=⟨_,rfl⟩
 rw[<-hvl]at hv h1 h2;obtain⟨at_,Iv⟩:∃x,x=(part ZH lo hi).1:=⟨_,rfl⟩
 obtain⟨wd,JY⟩:∃x,x=(part ZH lo hi).2:=⟨_,rfl⟩
 have e1:(ZH:Int)/32768*lo=(at_:Int):=by rw[Iv,part];simp
 have e2:(if (hi:Int)=32768 then (ZH:Int)-ZH/32768*lo else ZH/32768*(hi-lo))=(wd:Int):=by
   rw[JY,part];have:=m1;rw[part]at this;by_cases hc:hi=32768
   .have SV:(hi:Int)=32768:=by omega
    simp only[if_pos hc,if_pos SV]at *;rw[Int.natCast_sub (by omega)];simp
   .have SV:¬(hi:Int)=32768:=by omega
    simp only[if_neg hc,if_neg SV];rw[Int.natCast_mul,Int.natCast_sub (by omega)];simp
 rw[<-Iv,<-JY]at m1 t2;rw[<-JY]at m2;rw[<-Iv]at t1;rw[e2,e1]at BK;have Ai:take rest code ZH lo hi=YN 3 rest (code-at_) wd:=by rw[take,<-Iv,<-JY]
 obtain⟨cd,sU⟩:∃x,x=code-at_:=⟨_,rfl⟩
 rw[<-sU]at t2 Ai;have mc:IntKind.u32.wrap ((code:Int)-at_)=(cd:Int):=by rw[wrap32 (by omega) (by omega)];omega
 have UE:=λv=>Zw a.cell (o:=1) (by simp) v;obtain⟨Tt,ZL⟩:∃h1,h1=h.put p (.cells [v,.int .u32 (cd:Int),.int .u32 ZH] 171 false):=⟨_,rfl⟩
 have o1:Yi h Tt p:=by rw[ZL];exact Yi.put _ _ _
 have a1:TH Tt X p v rest cd ZH:=⟨by rw[ZL];exact ZV (H.ZW a.cell),a.own,a.sl.only o1 a.own,a.byte⟩
 obtain⟨e',h',v',k1,k2,k3,k4,k5⟩:=xT X p ZH 3 Tt v rest cd wd ⟨[.ptr p 0,.int .u32 lo,.int .u32 hi,.int .i64 0,.int .u32 vl,.int .u32 at_,.int .u32 wd],0,.ptr p 0⟩ a1 (by omega) (by omega) (by omega) (by simp) (by simp);rw[Ai];obtain⟨r,hr⟩:∃r,r=YN 3 rest cd wd:=⟨_,rfl⟩
 rw[<-hr]at k3 k4 ⊢;have nC:=λv=>Zw k4.cell (o:=2) (by simp) v;have o3:=Yi.put h' p (.cells [v',.int .u32 r.2.1,.int .u32 r.2.2] 171 false);refine⟨h'.put p (.cells [v',.int .u32 r.2.1,.int .u32 r.2.2] 171 false),v',?_,⟨ZV (H.ZW k4.cell),k4.own,k4.sl.only o3 k4.own,k4.byte⟩,o1.trans (k5.trans o3)⟩;rw[W3 Wqr,fS];simp only[u32]at BK;have hz:¬(ZH=0):=by omega
 have z1:¬((vl:Int)<lo):=by omega
 have z1':¬(vl<lo):=by omega
 have z2:¬((hi:Int)<=vl):=by omega
 have jY:¬(hi<=vl):=by omega
 have z3:¬((32768:Int)<hi):=by omega
 have z3':¬(32768<hi):=by omega
 simp[ZZ a.cell,hz,hv,z1,z1',z2,jY,z3,z3',BK,UE,mc,<-ZL,k1,k2,k3,nC]
def Jd(h:H)(v:V)(l:List Nat):Prop :=
 (v=.ZO/\l=[])\/∃b o k c e ro,v=.sl b o l.length k/\h.get b=some (.cells c e ro)/\o+l.length<=c.length/\(c.drop o).take l.length=ZG l
def Frs(h:H)(n:Nat)(v:V)(l:List Nat):Prop :=
 (v=.ZO/\l=[])\/(∃b k,v=.sl b 0 0 k/\l=[]/\n<=b/\∃c e ro,h.get b=some (.cells c e ro))\/∃b,v=.sl b 0 l.length (.op 1)/\n<=b/\l≠[]/\h.get b=some (.cells (ZG l) 5 false)
theorem E6.mono{Y:Nat->Prop}(a:E6 h X v l)(hXY:∀b,b<h.n->¬X b->¬Y b):E6 h Y v l:=by
 rcases a with a|a|⟨b,o,c,e,ro,a1,a2,a3,a4⟩
 . exact .inl a
 . exact .inr (.inl a)
 . exact .inr (.inr ⟨b,o,c,e,ro,a1,hXY b (H.ZW a3) a2,a3,a4⟩)
theorem E6.keep(a:E6 h X v l)(hk:∀b,b<h.n->¬X b->h'.get b=h.get b):E6 h' X v l:=by
 rcases a with a|a|⟨b,o,c,e,ro,a1,a2,a3,a4⟩
 . exact .inl a
 . exact .inr (.inl a)
 . exact .inr (.inr ⟨b,o,c,e,ro,a1,a2,by rw[hk b (H.ZW a3) a2,a3],a4⟩)
theorem Jd.at(a:Jd h v l):kqV h v l:=by
 rcases a with a|⟨b,o,k,c,e,ro,a1,a2,a3,a4⟩
 . exact .inl a
 . refine .inr ⟨b,o,k,c,e,ro,a1,a2,λi hi=>?_⟩
   rw[<-a4,List.getElem?_take,if_pos hi,List.getElem?_drop]
theorem Jd.len(a:Jd h v l):lenOf v=some l.length:=by
 rcases a with ⟨rfl,rfl⟩|⟨b,o,k,c,e,ro,rfl,a2,a3,a4⟩<;>simp[lenOf]
theorem Jd.first(a:Jd h v l):XY h 1 l.length v=some (ZG l):=by
 rcases a with ⟨rfl,rfl⟩|⟨b,o,k,c,e,ro,rfl,a2,a3,a4⟩
 . simp[XY,ZG]
 . simp[XY,H.Ze,a2,a3,a4]
theorem Jd.keep(a:Jd h v l)(hk:∀c,c<h.n->h'.get c=h.get c):Jd h' v l:=by
 rcases a with a|⟨b,o,k,c,e,ro,a1,a2,a3,a4⟩
 . exact .inl a
 . exact .inr ⟨b,o,k,c,e,ro,a1,by rw[hk b (H.ZW a2),a2],a3,a4⟩
theorem Bw(g:Jd h v l)(hlen:l.length<140737488355329):
   ∃h' v',KW 109 [v] h=some (.ret v',h')/\Frs h' h.n v' l/\h.n<=h'.n/\∀c,c<h.n->h'.get c=h.get c:=by
 rcases g with ⟨rfl,rfl⟩|⟨b,o,k,c,e,ro,rfl,hb,mT,hcs⟩
 . refine⟨h,.ZO,?_,.inl ⟨rfl,rfl⟩,Nat.le_refl _,λ_ _=>rfl⟩
   rw[W1 yZ,BU];simp
 . have HE:=H.ZW hb
   obtain⟨h1,ZL⟩:∃h1,h1=h.new (.cells [] 5 false):=⟨_,rfl⟩
   have VJ:h1.get b=some (.cells c e ro):=by rw[ZL,ZR HE,hb]
   have yc:h1.get h.n=some (.cells [] 5 false):=by rw[ZL];exact ZY
   by_cases hl:l=[]
   .subst hl
    simp only[List.length_nil]at mT;have hf:(c.drop o).take 0=[]:=rfl;have xR:=ZF yc (o:=0) (vs:=[]) (by simp);refine⟨h1.put h.n (.cells (splice [] 0 []) 5 false),.sl h.n 0 0 (.ex 0),?_,.inr (.inl ⟨_,_,rfl,rfl,Nat.le_refl _,_,_,_,ZV (H.ZW yc)⟩),by rw[H.ZJ,ZL,H.ZP];omega,λc hc=>by rw[ZX (by omega),ZL,ZR hc]⟩;rw[W1 yZ,BU];simp at mT;simp[bs,YD,<-ZL,Vk,lenOf,XY,H.Ze,VJ,Iu,mT,xR]
   .have yG:l.length≠0:=by simpa using hl
    refine⟨h1.new (.cells (ZG l) 5 false),.sl h1.n 0 l.length (.op 1),?_,.inr (.inr ⟨h1.n,rfl,by rw[ZL,H.ZP];omega,hl,ZY⟩),by rw[H.ZP,ZL,H.ZP];omega,λc hc=>?_⟩
    .rw[W1 yZ,BU]
     simp[bs,YD,<-ZL,Vk,lenOf,XY,H.Ze,VJ,Iu,yc,hcs,yG,mT,show l.length<=140737488355328 by omega]
    .rw[ZR (by rw[ZL,H.ZP];omega),ZL,ZR hc]
def KT:Nat->List Nat->Nat->List Nat×Nat
 |0,r,c=>(r,c)
 |n+1,r,c=>KT n r.tail (c*256+r.headD 0)
def VK(l:List Nat):List Nat×Nat:=((KT 4 l 0).1,min (KT 4 l 0).2 4294967294)
theorem xQ(X:Nat->Prop)(p ZH:Nat):∀(n:Nat) (h:H) (v:V) (rest:List Nat) (code:Nat) (e:E),TH h X p v rest code ZH->code<256^(4-n)->n<=4 ->
   e.s [0,2,3,8] 3=.ptr p 0->e.s [0,2,3,8] 8=.int .i64 (4-n:Nat) ->
   ∃e' h' v',ZI (Dt KW ZI) e h=some ⟨.ex 0,e',h'⟩/\e'.s [0,2,3,8] 3=.ptr p 0/\TH h' X p v' (KT n rest code).1 (KT n rest code).2 ZH/\(KT n rest code).2<4294967296/\Yi h h' p
 |0,h,v,rest,code,e,a,hc,hn,yA,Ah=>by
   rw[Zi];simp[Dt,yA,Ah];exact⟨_,_,⟨rfl,rfl⟩,by simp[yA],⟨v,a⟩,by simpa [KT]using hc,Yi.refl _ _⟩
 |n+1,h,v,rest,code,e,a,hc,hn,yA,Ah=>by
   have hc3:256^(4-(n+1))<=256^3:=Nat.pow_le_pow_right (by decide) (by omega);obtain⟨h1,v1,k1,k2,k3⟩:=L1 a (by omega);have hb:=TM a.byte;have Tm:((4-(n+1):Nat):Int)<4:=by omega
   have hm:IntKind.i64.wrap (((4-(n+1):Nat):Int)+1)=((4-n:Nat):Int):=by rw[ZS (by omega) (by omega)];omega
   have SV:code*256+rest.headD 0<256^(4-n):=by
    rw[show 4-n=(4-(n+1))+1 by omega,Nat.pow_succ];omega
   obtain⟨j,hj⟩:∃j,j=4-(n+1):=⟨_,rfl⟩
   obtain⟨j1,eI⟩:∃j,j=4-n:=⟨_,rfl⟩
   rw[<-hj]at Tm Ah;rw[<-hj,<-eI]at hm;have yz:j<4:=by omega
   rw[Zi];simp[Dt,yA,Ah,Tm,yz,k1];rw[hm];obtain⟨e',h',v',i1,i2,i3,i4,i5⟩:=xQ X p ZH n h1 v1 rest.tail _ ⟨[e.s [0,2,3,8] 0,e.s [0,2,3,8] 2,.ptr p 0,.int .i64 (j1:Int)],8,.int .i64 (j1:Int)⟩ k2 SV (by omega) (by simp) (by simp[eI]);exact⟨e',h',i1,i2,⟨v',i3⟩,i4,k3.trans i5⟩
theorem Bv(g:Jd h v l)(hlen:l.length<140737488355329)(hb:∀x∈l,x<256):
   ∃h' p v',KW 63 [v] h=some (.ret (.ptr p 0),h')/\(∀X:Nat->Prop,X p->(∀c,h.n<=c->c<h'.n->c≠p->¬X c)->TH h' X p v' (VK l).1 (VK l).2 4294967295)/\h.n<=p/\p<h'.n/\(∀c,c<h.n->h'.get c=h.get c):=by
 obtain⟨h1,v1,k1,k2,k3,k4⟩:=Bw g hlen;obtain⟨h2,Zq⟩:∃h2,h2=h1.new (.cells [v1,.int .u32 (0:Nat),.int .u32 (4294967295:Nat)] 171 false):=⟨_,rfl⟩
 have QP:h2.get h1.n=some (.cells [v1,.int .u32 (0:Nat),.int .u32 (4294967295:Nat)] 171 false):=by rw[Zq];exact ZY
 have hos:E6 h2 (λc=>¬(h.n<=c/\c<h1.n)) v1 l:=by
   rcases k2 with a|⟨b,k,a1,a2,a3,a4⟩|⟨b,a1,a2,a3,a4⟩
   .exact .inl a
   .exact .inr (.inl ⟨b,0,k,a1,a2⟩)
   .have:=H.ZW a4
    exact .inr (.inr ⟨b,0,_,_,_,a1,by omega,by rw[Zq,ZR this,a4],λi hi=>by simp⟩)
 obtain⟨e',h',v',i1,i2,i3,i4,i5⟩:=xQ (λc=>¬(h.n<=c/\c<h1.n)) h1.n 4294967295 4 h2 v1 l 0 ⟨[v,.Zh,.ptr h1.n 0,.int .i64 0],8,.int .i64 0⟩ ⟨QP,by omega,hos,hb⟩ (by decide) (by omega) (by simp) (by simp);have UE:=λv=>Zw i3.cell (o:=1) (by simp) v;obtain⟨r,hr⟩:∃r,r=KT 4 l 0:=⟨_,rfl⟩
 have oi:VK l=(r.1,min r.2 4294967294):=by rw[VK,hr]
 rw[<-hr]at i3 i4 UE;have e4:Vx [.int .u32 (r.2:Int),.int .u32 4294967294]=some (.int .u32 ((min r.2 4294967294:Nat):Int)):=by
   simp[Vx,SU,NR];split<;>omega
 obtain⟨y,hy⟩:∃y,y=min r.2 4294967294:=⟨_,rfl⟩
 rw[<-hy]at e4 oi;rw[oi];have o3:=Yi.put h' h1.n (.cells [v',.int .u32 y,.int .u32 (4294967295:Nat)] 171 false);have HC:bl [.ZO,.int .u32 0,.int .u32 0] [(some (0,1),v1),(some (2,1),.int .u32 4294967295)]=some (.agg [v1,.int .u32 0,.int .u32 4294967295]):=by
   rcases k2 with ⟨rfl,_⟩|⟨b,k,rfl,_⟩|⟨b,rfl,_⟩<;>simp[bl,YD,V.cells,splice]
 refine⟨h'.put h1.n (.cells [v',.int .u32 y,.int .u32 (4294967295:Nat)] 171 false),h1.n,v',?_,λX hX hf=>⟨ZV (H.ZW i3.cell),hX,(i3.sl.only o3 i3.own).mono λb hb RG=>hf b (by omega) hb (by omega),i3.byte⟩,k3,by rw[H.ZJ,i5.1,Zq,H.ZP];omega,λc hc=>?_⟩
 . rw[W1 r63,s63]
   simp at Zq;simp at UE i3;simp[k1,HC,bx,V.cells,<-Zq,i1,i2,ZZ i3.cell,e4,UE]
 . rw[o3.2 c (by omega),i5.2 c (by omega),Zq,ZR (by omega),k4 c hc]
theorem E0:∀(n:Nat) {m:Nat} {rest:List Nat} {code:Nat},(∀x∈rest,x<256)->code<256^m->(KT n rest code).2<256^(m+n)/\∀x∈(KT n rest code).1,x<256
 |0,m,rest,code,hb,hc=>⟨by simpa [KT]using hc,hb⟩
 |n+1,m,rest,code,hb,hc=>by
   have h1:=TM hb;have:=E0 n (m:=m+1) (rest:=rest.tail) (code:=code*256+rest.headD 0) (λx hx=>hb x (List.mem_of_mem_tail hx)) (by rw[Nat.pow_succ];omega);rw[show m+(n+1)=m+1+n by omega];exact this
theorem JO(hb:∀x∈l,x<256):L9 (VK l).2 4294967295/\∀x∈(VK l).1,x<256 :=
 ⟨⟨by decide,by decide,by simp only[VK];omega⟩,(E0 4 (m:=0) (code:=0) hb (by decide)).2⟩
def Wr(h:H)(n:Nat)(v:V)(l:List Nat):Prop :=
 ∃b k L,v=.sl b 0 l.length k/\n<=b/\h.get b=some (.cells (ZG L) 5 false)/\l.length<=L.length/\L.take l.length=l/\∀x∈L,x<256
theorem Wr.byte(a:Wr h n v l):∀x∈l,x<256:=by
 obtain⟨b,k,L,h1,h2,h3,h4,h5,h6⟩:=a;intro x hx;rw[<-h5]at hx;exact h6 x (List.mem_of_mem_take hx)
theorem On(out:List Nat)(low:Nat):(bytes out low).length=TI (WL 4 out low).1 (out.length+4):=by
 unfold bytes;rw[List.length_take,UQ];exact Nat.min_eq_left (Ps _ _)
theorem EL{t:TypeId}(a:X5 h p t v out low (.int .u32 ZH))(inv:Iw low ZH)(hlen:out.length<1099511627000):
   ∃h' v',KW 62 [.ptr p 0] h=some (.ret v',h')/\Wr h' h.n v' (bytes out low)/\h.n<=h'.n/\∀c,c<h.n->h'.get c=h.get c:=by
 obtain⟨h',b,k1,k2,k3,k4,k5,k6⟩:=EM a inv hlen;refine⟨h',_,k1,⟨b,_,(WL 4 out low).1,by rw[On],k4,k2,?_,?_,k3⟩,k5,k6⟩
 . rw[On,UQ];exact Ps _ _
 . rw[On];rfl
variable{v':V}
theorem Nf.keep(a:Nf h h' p v v')(hp:n<=p)(hv:∀c o m k,v=.sl c o m k->n<=c)(hn:n<=h.n):n<=h'.n/\(∀c,c<n->h'.get c=h.get c)/\∀c o m k,v'=.sl c o m k->n<=c:=by
 refine⟨by have:=a.fr.1;omega,λc hc=>a.fr.2 c (by omega) ?_,?_⟩
 . rintro (e|⟨o,m,k,e⟩)
   .omega
   .have:=hv _ _ _ _ e;omega
 . rcases a.nw with e|e
   .rw[e];exact hv
   .intro c o m k e1;have:=e c o m k e1;omega
abbrev tU:TypeId:=137
abbrev tT:TypeId:=101
abbrev tR:TypeId:=98
theorem mS(h:H)(b o:Nat):KP Tryz.prog 101 h (.ptr b o)=XM 2 h (.ptr b o):=by
 have h1:Ve Tryz.prog 101=some true:=by kernel_rfl
 have h2:S8 Tryz.prog 101=some 2:=by kernel_rfl
 simp[KP,h1,h2]
theorem mR(h:H)(b o:Nat):KP Tryz.prog 30 h (.ptr b o)=XM 1 h (.ptr b o):=by
 have h1:Ve Tryz.prog 30=some true:=by kernel_rfl
 have h2:S8 Tryz.prog 30=some 1:=by kernel_rfl
 simp[KP,h1,h2]
theorem mQ(h:H)(b o:Nat):KP Tryz.prog 95 h (.ptr b o)=XM 96 h (.ptr b o):=by
 have h1:Ve Tryz.prog 95=some true:=by kernel_rfl
 have h2:S8 Tryz.prog 95=some 96:=by kernel_rfl
 simp[KP,h1,h2]
theorem EK(P:Program)(s:Nat->V)(h:H)(t n:Nat)(rs:List ResultVar):SQ P s h (.cell t n::rs)=bd (KP P n h (s t)) λv=>bd (SQ P s h rs) λvs=>some (v::vs):=by
 rfl
attribute [simp] mS mR mQ EK
structure Mod(D:Nat->Prop)(h h':H):Prop where
 n:h.n<=h'.n
 get:∀c,c<h.n->¬D c->h'.get c=h.get c
def grow(D:Nat->Prop)(h h':H):Nat->Prop:=λc=>D c\/(h.n<=c/\c<h'.n)
theorem Mod.refl(D:Nat->Prop)(h:H):Mod D h h:=⟨Nat.le_refl _,λ_ _ _=>rfl⟩
variable{D:Nat->Prop}{a:H}
theorem Mod.trans{b c:H}(x:Mod D a b)(y:Mod (grow D a b) b c):Mod D a c :=
 ⟨Nat.le_trans x.n y.n,λi hi hd=>by
   have:=x.n;rw[y.get i (by omega) (by rintro (h|h);exact hd h;omega),x.get i hi hd]⟩
theorem Mod.tr{b c:H}(x:Mod D a b)(y:Mod D b c):Mod D a c :=
 ⟨Nat.le_trans x.n y.n,λi hi hd=>by
   have:=x.n;rw[y.get i (by omega) hd,x.get i hi hd]⟩
theorem Mod.mono{E:Nat->Prop}{b:H}(x:Mod D a b)(h:∀c,c<a.n->D c->E c):Mod E a b:=⟨x.n,λi hi hd=>x.get i hi λe=>hd (h i hi e)⟩
theorem Mod.of{b:H}(x:Ext a b):Mod D a b:=⟨x.n,λi hi _=>x.get i hi⟩
theorem Mod.ext{b:H}(x:Mod D a b){p:H}(hp:Ext p a)(hd:∀c,c<p.n->¬D c):Ext p b :=
 ⟨Nat.le_trans hp.n x.n,λc hc=>by have:=hp.n;rw[x.get c (by omega) (hd c hc),hp.get c hc]⟩
def Y0(l:List Nat):List V:=l.map λx=>.int .u16 (x:Nat)
theorem Xh(l:List Nat):(Y0 l).length=l.length:=by simp[Y0]
def nth(l:List Nat)(i:Nat):Nat:=l.getD i 0
variable{i:Nat}
theorem Qy(h:i<l.length):nth l i=l[i]:=by simp[nth,h]
theorem LY(l:List Nat)(i:Nat)(h:i<l.length):(Y0 l)[i]?=some (.int .u16 (nth l i:Nat)):=by simp[Y0,h,nth]
def LX(z n:Nat):J5->Prop
 |.ex c=>n<=c
 |.op z'=>z'=z
def Wo(D:Nat->Prop)(h:H)(v:V)(t z n:Nat)(cs:List V):Prop :=
 (v=.ZO/\n=0/\cs=[])\/∃b o k c,v=.sl b o n k/\h.get b=some (.cells c t false)/\o+n*z<=c.length/\cs=(c.drop o).take (n*z)/\D b/\LX z n k
section sJ
variable{D:Nat->Prop}{h:H}{v:V}{t z n:Nat}{cs:List V}
theorem Wo.length(a:Wo D h v t z n cs):cs.length=n*z:=by
 rcases a with ⟨_,rfl,rfl⟩|⟨b,o,k,c,_,_,h3,rfl,_⟩
 . simp
 . rw[List.length_take,List.length_drop];omega
theorem Wo.len(a:Wo D h v t z n cs):Kc v=some (.int .i64 n):=by
 rcases a with ⟨rfl,rfl,_⟩|⟨b,o,k,c,rfl,_⟩<;>simp
theorem Wo.lenOf(a:Wo D h v t z n cs):lenOf v=some n:=by
 rcases a with ⟨rfl,rfl,_⟩|⟨b,o,k,c,rfl,_⟩<;>rfl
theorem Wo.cell(a:Wo D h v t z n cs):v.Zr=true:=by
 rcases a with ⟨rfl,rfl,_⟩|⟨b,o,k,c,rfl,_⟩<;>rfl
theorem Wo.cells(a:Wo D h v t z n cs):V.cells v=some [v]:=by
 rcases a with ⟨rfl,rfl,_⟩|⟨b,o,k,c,rfl,_⟩<;>rfl
theorem Wo.same(a:Wo D h v t z n cs):V.same v v=true:=by
 rcases a with ⟨rfl,rfl,_⟩|⟨b,o,k,c,rfl,_⟩<;>simp[V.same]
theorem Wo.ck(a:Wo D h v t z n cs){β:Type}(k:Option β):ck (some v) v k=k:=by
 rcases a with ⟨rfl,rfl,_⟩|⟨b,o,k,c,rfl,_⟩<;>simp
theorem Wo.Zx(a:Wo D h v t z n cs)(g:H)(b o:Nat):Zx 1 g (.ptr b o) v=(g.WO b o v).bind λh'=>some (.Wz,h'):=Io g b o v a.cell
theorem Wo.first(a:Wo D h v t z n cs):XY h z n v=some cs:=by
 rcases a with ⟨rfl,rfl,rfl⟩|⟨b,o,k,c,rfl,h2,h3,rfl,_⟩
 . rfl
 . show h.Ze b o (n*z)=_;rw[ZU h2 h3]
theorem Wo.mono{E:Nat->Prop}(a:Wo D h v t z n cs)(hd:∀b,b<h.n->D b->E b):Wo E h v t z n cs:=by
 rcases a with a|⟨b,o,k,c,h1,h2,h3,h4,h5,h6⟩
 . exact .inl a
 . exact .inr ⟨b,o,k,c,h1,h2,h3,h4,hd b (H.ZW h2) h5,h6⟩
theorem Wo.keep(a:Wo D h v t z n cs)(hk:∀b c,D b->h.get b=some (.cells c t false)->h'.get b=h.get b):Wo D h' v t z n cs:=by
 rcases a with a|⟨b,o,k,c,h1,h2,h3,h4,h5,h6⟩
 . exact .inl a
 . exact .inr ⟨b,o,k,c,h1,by rw[hk b c h5 h2,h2],h3,h4,h5,h6⟩
theorem Wo.ext(a:Wo D h v t z n cs)(x:Ext h h'):Wo D h' v t z n cs:=a.keep λb c _ hb=>x.get b (H.ZW hb)
theorem Wo.nil(D:Nat->Prop)(h:H)(t z:Nat):Wo D h .ZO t z 0 []:=.inl ⟨rfl,rfl,rfl⟩
theorem Wo.of{k:J5}{c:List V}(hb:h.get b=some (.cells c t false))(hl:c.length=n*z)(hd:D b)(hk:LX z n k:=by first|assumption|exact Nat.le_refl _|rfl):Wo D h (.sl b 0 n k) t z n c :=
 .inr ⟨b,0,k,c,rfl,hb,by omega,by rw[List.drop_zero,List.take_of_length_le (by omega)],hd,hk⟩
theorem Zv.sJ(a:Zv p h v t z cs n)(hd:∀b,p<=b->D b):Wo D h v t z n cs:=by
 rcases a with ⟨rfl,rfl,rfl⟩|⟨b,rfl,h2,h3,h4⟩
 . exact Wo.nil _ _ _ _
 . exact Wo.of h2 h3 (hd b h4)
theorem Wo.at(a:Wo D h v t z n cs)(hi:i<n):∃b o,PY z v (.int .i64 i)=some (.ptr b o)/\D b/\(∃c,h.get b=some (.cells c t false))/\(∀j,j<z->h.Zp b (o+j)=cs[i*z+j]?)/\h.Ze b o z=some ((cs.drop (i*z)).take z):=by
 rcases a with ⟨rfl,rfl,_⟩|⟨b,o,k,c,rfl,h2,h3,rfl,h5,_⟩
 . omega
 . have hz:i*z+z<=n*z:=by have:=Nat.mul_le_mul_right z hi;rw[Nat.succ_mul]at this;exact this
   refine⟨b,o+i*z,by simp[hi],h5,⟨c,h2⟩,λj hj=>?_,?_⟩
   .rw[ZZ h2,List.getElem?_take,if_pos (by omega),List.getElem?_drop];congr 1;omega
   .rw[ZU h2 (by omega)]
    congr 1
    apply List.ext_getElem?;intro j;simp only[List.getElem?_take,List.getElem?_drop];by_cases hj:j<z
    .rw[if_pos hj,if_pos hj,if_pos (by omega)];congr 1;omega
    .rw[if_neg hj,if_neg hj]
theorem Wo.at1(a:Wo D h v t 1 n cs)(hi:i<n):∃b o,PY 1 v (.int .i64 i)=some (.ptr b o)/\h.Zp b o=cs[i]?/\D b/\∃c,h.get b=some (.cells c t false):=by
 obtain⟨b,o,h1,h2,h3,h4,_⟩:=a.at hi;exact⟨b,o,h1,by have:=h4 0 (by omega);simpa using this,h2,h3⟩
theorem Wo.at2(a:Wo D h v t 2 n cs)(hi:i<n)(hx:cs[2*i]?=some x)(hy:cs[2*i+1]?=some y):∃b o,PY 2 v (.int .i64 i)=some (.ptr b o)/\h.Zp b o=some x/\h.Zp b (o+1)=some y/\h.Ze b o 2=some [x,y]/\D b/\∃c,h.get b=some (.cells c t false):=by
 obtain⟨b,o,h1,h2,h3,h4,h5⟩:=a.at hi;refine⟨b,o,h1,by have:=h4 0 (by omega);rw[Nat.add_zero,Nat.add_zero,Nat.mul_comm,hx]at this;exact this,by have:=h4 1 (by omega);rw[this,Nat.mul_comm,hy],?_,h2,h3⟩;rw[h5]
 congr 1
 apply List.ext_getElem?;intro j;simp only[List.getElem?_take,List.getElem?_drop,Nat.mul_comm i 2]
 match j with
 |0=>simp[hx]
 |1=>simp[hy]
 |j+2=>simp;omega
end sJ
structure Tb where
 c:List Nat
 n:Int
def VE(D:Nat->Prop)(h:H)(v:V)(c:List Nat):Prop:=Wo D h v tU 1 c.length (Y0 c)/\∀x∈c,x<65536
def Ts(D:Nat->Prop)(h:H)(cs:List V)(r:List Tb):Prop:=∀(i:Nat) (t:Tb),r[i]?=some t->∃vc,cs[2*i]?=some vc/\cs[2*i+1]?=some (.int .i64 t.n)/\VE D h vc t.c
def UC(D:Nat->Prop)(h:H)(v:V)(r:List Tb):Prop:=∃cs,Wo D h v tT 2 r.length cs/\Ts D h cs r
def Xe(D:Nat->Prop)(h:H)(v:V)(S:List (List Tb)):Prop:=∃cs,Wo D h v tR 1 S.length cs/\∀(k:Nat) (r:List Tb),S[k]?=some r->∃vr,cs[k]?=some vr/\UC D h vr r
section nB
variable{D E:Nat->Prop}{h h':H}{v:V}
variable{c:List Nat}
theorem VE.keep(a:VE D h v c)(hk:∀b c,D b->h.get b=some (.cells c tU false)->h'.get b=h.get b):VE D h' v c:=⟨a.1.keep hk,a.2⟩
theorem VE.ext(a:VE D h v c)(x:Ext h h'):VE D h' v c:=⟨a.1.ext x,a.2⟩
theorem VE.mono(a:VE D h v c)(hd:∀b,b<h.n->D b->E b):VE E h v c:=⟨a.1.mono hd,a.2⟩
theorem VE.at(a:VE D h v c)(hi:i<c.length):∃b o,PY 1 v (.int .i64 i)=some (.ptr b o)/\h.Zp b o=some (.int .u16 (nth c i:Nat))/\D b/\∃c,h.get b=some (.cells c tU false):=by
 obtain⟨b,o,h1,h2,h3⟩:=a.1.at1 hi;exact⟨b,o,h1,by rw[h2,LY c i hi],h3⟩
variable{cs:List V}{r:List Tb}
theorem Ts.keep(a:Ts D h cs r)(hk:∀b c,D b->h.get b=some (.cells c tU false)->h'.get b=h.get b):Ts D h' cs r:=λi t hi=>by
 obtain⟨vc,h1,h2,h3⟩:=a i t hi;exact⟨vc,h1,h2,h3.keep hk⟩
theorem Ts.ext(a:Ts D h cs r)(x:Ext h h'):Ts D h' cs r:=a.keep λb c _ hb=>x.get b (H.ZW hb)
theorem Ts.mono(a:Ts D h cs r)(hd:∀b,b<h.n->D b->E b):Ts E h cs r:=λi t hi=>by
 obtain⟨vc,h1,h2,h3⟩:=a i t hi;exact⟨vc,h1,h2,h3.mono hd⟩
theorem Ts.nil(D:Nat->Prop)(h:H):Ts D h [] []:=λi t hi=>by simp at hi
theorem UC.keep(a:UC D h v r)(hk:∀b,D b->b<h.n->h'.get b=h.get b):UC D h' v r:=by
 obtain⟨cs,h1,h2⟩:=a;exact⟨cs,h1.keep λb c hd hb=>hk b hd (H.ZW hb),h2.keep λb c hd hb=>hk b hd (H.ZW hb)⟩
theorem UC.mono(a:UC D h v r)(hd:∀b,b<h.n->D b->E b):UC E h v r:=by
 obtain⟨cs,h1,h2⟩:=a;exact⟨cs,h1.mono hd,h2.mono hd⟩
variable{S:List (List Tb)}
theorem Xe.keep(a:Xe D h v S)(hk:∀b,D b->b<h.n->h'.get b=h.get b):Xe D h' v S:=by
 obtain⟨cs,h1,h2⟩:=a;exact⟨cs,h1.keep λb c hd hb=>hk b hd (H.ZW hb),λk r hr=>by obtain⟨vr,k1,k2⟩:=h2 k r hr;exact⟨vr,k1,k2.keep hk⟩⟩
theorem Xe.ext(a:Xe D h v S)(x:Ext h h'):Xe D h' v S:=a.keep λb _ hb=>x.get b hb
theorem Xe.mono(a:Xe D h v S)(hd:∀b,b<h.n->D b->E b):Xe E h v S:=by
 obtain⟨cs,h1,h2⟩:=a;exact⟨cs,h1.mono hd,λk r hr=>by obtain⟨vr,k1,k2⟩:=h2 k r hr;exact⟨vr,k1,k2.mono hd⟩⟩
variable{k:Nat}
theorem Xe.row(a:Xe D h v S)(hr:S[k]?=some r):∃b o vr,PY 1 v (.int .i64 k)=some (.ptr b o)/\h.Zp b o=some vr/\UC D h vr r/\D b/\b<h.n:=by
 obtain⟨cs,h1,h2⟩:=a;obtain⟨vr,k1,k2⟩:=h2 k r hr;have hk:k<S.length:=by
   by_cases e:k<S.length
   .exact e
   .rw[List.getElem?_eq_none (by omega)]at hr;cases hr
 obtain⟨b,o,j1,j2,j3,c,j4⟩:=h1.at1 hk;exact⟨b,o,vr,j1,by rw[j2,k1],k2,j3,H.ZW j4⟩
variable{t:Tb}
theorem UC.tab(a:UC D h v r)(hr:r[i]?=some t):∃b o vc,PY 2 v (.int .i64 i)=some (.ptr b o)/\h.Zp b o=some vc/\h.Zp b (o+1)=some (.int .i64 t.n)/\h.Ze b o 2=some [vc,.int .i64 t.n]/\VE D h vc t.c/\D b/\b<h.n:=by
 obtain⟨cs,h1,h2⟩:=a;obtain⟨vc,k1,k2,k3⟩:=h2 i t hr;have hk:i<r.length:=by
   by_cases e:i<r.length
   .exact e
   .rw[List.getElem?_eq_none (by omega)]at hr;cases hr
 obtain⟨b,o,j1,j2,j3,j4,j5,c,j6⟩:=h1.at2 hk k1 k2;exact⟨b,o,vc,j1,j2,j3,j4,k3,j5,H.ZW j6⟩
end nB
open Go.Zf (ZS)
def Sorted(c:List Nat):Prop:=∀i,i+1<c.length->nth c i<=nth c (i+1)
def YP(t:Tb):Prop:=(2<=t.c.length/\t.c.length<=16)/\(0<=t.n/\t.n<=32)/\Sorted t.c/\nth t.c (t.c.length-1)=32768
noncomputable instance (t:Tb):Decidable (YP t):=Classical.propDecidable _
noncomputable instance (c:List Nat):Decidable (Sorted c):=Classical.propDecidable _
def pt(t:Tb)(j:Nat):Nat:=if j=0 then 0 else nth t.c (j-1)*(32768-4*t.c.length)/32768+4*j
variable{c:List Nat}
theorem JL(h:Sorted c):∀{j i:Nat},i<=j->j<c.length->nth c i<=nth c j
 |0,i,h1,h2 =>
          by
           have:i=0:=by omega
           subst this;exact Nat.le_refl _
 |j+1,i,h1,h2=>by
   by_cases e:i=j+1
   .subst e;exact Nat.le_refl _
   .exact Nat.le_trans (JL h (j:=j) (by omega) (by omega)) (h j h2)
variable{t:Tb}
theorem YP.le(a:YP t)(hi:i<t.c.length):nth t.c i<=32768:=by
 have:=JL a.2.2.1 (i:=i) (j:=t.c.length-1) (by omega) (by omega);rw[a.2.2.2]at this;exact this
theorem Im(t:Tb):pt t 0=0:=by simp[pt]
theorem PA(t:Tb)(s:Nat):pt t (s+1)=nth t.c s*(32768-4*t.c.length)/32768+4*(s+1):=by simp[pt]
variable{s:Nat}
theorem yi(a:YP t)(hs:s<t.c.length):pt t s<pt t (s+1):=by
 rw[PA];cases s with
 |zero=>rw[Im];omega
 |succ s =>
   rw[PA];have h1:=a.2.2.1 s hs;have h2:=Nat.div_le_div_right (c:=32768) (Nat.mul_le_mul_right (32768-4*t.c.length) h1);omega
theorem MR(a:YP t):pt t t.c.length=32768:=by
 obtain⟨⟨l1,l2⟩,_,_,h⟩:=a;obtain⟨n,hn⟩:∃n,t.c.length=n+1:=⟨t.c.length-1,by omega⟩
 rw[hn]at h ⊢;rw[PA,hn];simp only[Nat.add_sub_cancel]at h;rw[h,Nat.mul_comm,Nat.mul_div_cancel _ (by decide)];omega
theorem De(a:YP t):∀{j i:Nat},i<=j->j<=t.c.length->pt t i<=pt t j
 |0,i,h1,h2 =>
          by
           have:i=0:=by omega
           subst this;exact Nat.le_refl _
 |j+1,i,h1,h2=>by
   by_cases e:i=j+1
   .subst e;exact Nat.le_refl _
   .exact Nat.le_trans (De a (j:=j) (by omega) (by omega)) (Nat.le_of_lt (yi a (by omega)))
variable{j:Nat}
theorem NM(a:YP t)(hj:j<=t.c.length):pt t j<=32768:=by rw[<-MR a];exact De a hj (Nat.le_refl _)
theorem Qv(n:Int)(h:H):KW 83 [.int .i64 n] h=some (.ret (.bool (decide (2<=n)&&decide (n<=16))),h):=by
 rw[W1 r83,s83];by_cases h1:2<=n
 . simp[h1]
 . simp[h1]
theorem xP(a:Int)(h:H):KW 174 [.int .u16 a] h=some (.ret (.bool false),h):=by
 rw[W1 kqT,dD];simp
theorem Bu(a b:Int)(h:H):KW 162 [.int .u16 a,.int .u16 b] h=some (.ret (.bool (decide (a<b))),h):=by
 rw[W2 kqS,dC];simp[xP,Vt,nN]
theorem GH(u:VE D h v c)(hl:c.length<1000):KW 132 [v] h=some (.ret (.bool (decide (Sorted c))),h):=by
 have loop:=Zd (body:=IW KW ZI) (λn e g=>g=h/\e.s [0,2,3] 0=v/\e.s [0,2,3] 3=.int .i64 ((n:Int)-1)/\n<=c.length/\∀j,n<=j+1->j+1<c.length->nth c j<=nth c (j+1))
   (λs=>s.h=h/\((s.x=.ex 0/\Sorted c)\/(s.x=.rt/\s.e.s [0,2,3] 2=.bool false/\¬Sorted c)))
   (λn e g ⟨hg,p0,p3,hn,hs⟩=>by
    subst hg;by_cases h0:(0:Int)<(n:Int)-1
    .obtain⟨i,rfl⟩:∃i,n=i+2:=⟨n-2,by omega⟩
     obtain⟨b,o,q1,q2,_⟩:=u.at (i:=i+1) (by omega);obtain⟨b',o',r1,r2,_⟩:=u.at (i:=i) (by omega);have z1:((i+2:Nat):Int)-1=((i+1:Nat):Int):=by omega
     rw[z1]at p3;simp[IW,p3,show (0:Int)<(i:Int)+1 by omega];have qf:PY 1 v (.int .i64 ((i:Int)+1))=some (.ptr b o):=by simpa using q1
     have jY:IntKind.i64.wrap (i:Int)=(i:Int):=ZS (by omega) (by omega);simp[p0,qf,q2,jY,r1,r2,Bu];by_cases hc:nth c (i+1)<nth c i
     .simp[hc]
      refine⟨rfl,.inr ⟨rfl,by simp,λhS=>?_⟩⟩;have:=hS i (by omega);omega
     .simp[hc]
      refine⟨i+1,by omega,rfl,by simp[p0],by simp[jY],by omega,λj hj jX=>?_⟩;by_cases e:j=i
      .subst e;omega
      .exact hs j (by omega) jX
    .simp[IW,p3,show ¬(0:Int)<(n:Int)-1 by omega,show ¬1<(n:Int)by omega,show ¬1<n by omega]
     exact⟨rfl,.inl ⟨rfl,λj hj=>hs j (by omega) hj⟩⟩)
 have JK:=u.1.len;obtain⟨s,r1,r2,r3⟩:=loop c.length ⟨[v,.bool false,.int .i64 ((c.length:Int)-1)],3,.int .i64 ((c.length:Int)-1)⟩ h ⟨rfl,by simp,by simp,by omega,λj hj jX=>by omega⟩;rw[W1 Wqx,fY];have z:IntKind.i64.wrap ((c.length:Int)-1)=(c.length:Int)-1:=ZS (by omega) (by omega);obtain⟨x,e',h'⟩:=s;simp only at r2 r3;subst r2;simp[JK,z,r1];rcases r3 with ⟨rfl,hs⟩|⟨rfl,p2,hs⟩
 . simp[hs]
 . simp[p2,hs]
theorem TL(u:VE D h v t.c):∃h1,bx h 101 (.agg [v,.int .i64 t.n])=some (.ptr h.n 0,h1)/\Ext h h1/\h1.get h.n=some (.cells [v,.int .i64 t.n] 101 false)/\h1.n=h.n+1/\VE D h1 v t.c :=
 ⟨h.new (.cells [v,.int .i64 t.n] 101 false),rfl,(Ext.refl h).new _,ZY,H.ZP _ _,u.ext ((Ext.refl h).new _)⟩
theorem Qu(u:VE D h v t.c)(hl:t.c.length<1000):RT (λw h'=>w=.int .i64 (if YP t then 0 else 2)/\Ext h h') (KW 80 [.agg [v,.int .i64 t.n]] h):=by
 obtain⟨h1,b1,x1,g1,n1,u1⟩:=TL u;have ul:=u1.1.len;have us:=GH u1 hl;have st:=Qv (t.c.length:Int);rw[W1 r80,s80];by_cases c1:2<=t.c.length/\t.c.length<=16
 . obtain⟨c1,c2⟩:=c1
   rw[show (decide (2<=(t.c.length:Int))&&decide ((t.c.length:Int)<=16))=true by rw[Bool.and_eq_true,decide_eq_true_eq,decide_eq_true_eq];omega]at st;by_cases c3:t.n<0
   .simp[b1,ZZ g1,ul,st,c1,c2,c3]
    exact⟨by rw[if_neg];intro a;have:=a.2.1;omega,x1⟩
   .by_cases c4:32<t.n
    .simp[b1,ZZ g1,ul,st,c1,c2,c3,c4]
     exact⟨by rw[if_neg];intro a;have:=a.2.1;omega,x1⟩
    .by_cases c5:Sorted t.c
     .obtain⟨b,o,q1,q2,_⟩:=u1.at (i:=t.c.length-1) (by omega)
      have z1:IntKind.i64.wrap ((t.c.length:Int)-1)=((t.c.length-1:Nat):Int):=by rw[ZS (by omega) (by omega)];omega
      obtain⟨x,hx⟩:∃x,x=nth t.c (t.c.length-1):=⟨_,rfl⟩
      rw[<-hx]at q2;by_cases c6:x=32768
      .simp[b1,ZZ g1,ul,st,c1,c2,c3,c4,us,c5,z1,q1,q2,c6]
       exact⟨by rw[if_pos ⟨⟨c1,c2⟩,⟨by omega,by omega⟩,c5,by rw[<-hx,c6]⟩],x1⟩
      .have c6':¬(x:Int)=32768:=by omega
       simp[b1,ZZ g1,ul,st,c1,c2,c3,c4,us,c5,z1,q1,q2,c6,c6'];exact⟨by rw[if_neg];intro a;exact c6 (by rw[hx];exact a.2.2.2),x1⟩
     .simp[b1,ZZ g1,ul,st,c1,c2,c3,c4,us,c5]
      exact⟨by rw[if_neg];intro a;exact c5 a.2.2.1,x1⟩
 . have e1:(decide (2<=(t.c.length:Int))&&decide ((t.c.length:Int)<=16))=false:=by
    rw[Bool.and_eq_false_iff];simp only[decide_eq_false_iff_not];omega
   rw[e1]at st;simp[b1,ZZ g1,ul,st];exact⟨by rw[if_neg];intro a;exact c1 a.1,x1⟩
theorem LW(u:VE D h v t.c)(ok:YP t)(hj:j<=t.c.length):RT (λw h'=>w=.int .u32 (pt t j:Nat)/\Ext h h') (KW 164 [.agg [v,.int .i64 t.n],.int .i64 ((j:Int)-1)] h):=by
 obtain⟨h1,b1,x1,g1,n1,u1⟩:=TL u;have ul:=u1.1.len;rw[W2 kqR,dB];cases j with
 |zero =>
   simp[b1];exact⟨by simp[pt],x1⟩
 |succ s =>
   obtain⟨b,o,q1,q2,_⟩:=u1.at (i:=s) (by omega);have hc:=ok.le (i:=s) (by omega);obtain⟨x,hx⟩:∃x,x=nth t.c s:=⟨_,rfl⟩
   obtain⟨n,hn⟩:∃n,n=t.c.length:=⟨_,rfl⟩
   have hp:=PA t s;have Rw:=NM ok hj;rw[hp,<-hx,<-hn]at Rw;rw[<-hx]at q2 hc;rw[hp,<-hx,<-hn];rw[<-hn]at ul hj;have l1:=ok.1.1;have l2:=ok.1.2;rw[<-hn]at l1 l2;have zs:((s+1:Nat):Int)-1=(s:Int):=by omega
   have z1:IntKind.u32.wrap (x:Int)=x:=Sp (by omega) (by omega);have z2:IntKind.i64.wrap (4*(n:Int))=4*n:=ZS (by omega) (by omega);have z3:IntKind.i64.wrap (32768-4*(n:Int))=32768-4*n:=ZS (by omega) (by omega);have z4:IntKind.u32.wrap (32768-4*(n:Int))=32768-4*n:=Sp (by omega) (by omega);have m1:=yJ (a:=(x:Int)) (b:=32768-4*(n:Int)) (A:=32768) (B:=32768) (by omega) (by omega) (by omega) (by omega);have z5:IntKind.u32.wrap ((x:Int)*(32768-4*n))=x*(32768-4*n):=Sp m1.1 (by omega);have z6:IntKind.i64.wrap ((s:Int)+1)=s+1:=ZS (by omega) (by omega);have z7:IntKind.i64.wrap (4*((s:Int)+1))=4*(s+1):=ZS (by omega) (by omega);have z8:IntKind.u32.wrap (4*((s:Int)+1))=4*(s+1):=Sp (by omega) (by omega);have e1:((x*(32768-4*n)/32768+4*(s+1):Nat):Int)=(x:Int)*(32768-4*n)/32768+4*(s+1):=by
    rw[Int.natCast_add,Int.natCast_ediv,Int.natCast_mul,Int.ofNat_sub (by omega)];simp
   have z9:IntKind.u32.wrap ((x:Int)*(32768-4*n)/32768+4*(s+1))=((x*(32768-4*n)/32768+4*(s+1):Nat):Int):=by
    rw[<-e1];exact Sp (by omega) (by omega)
   rw[zs];simp[b1,show ¬(s:Int)<0 by omega,ZZ g1,ul,q1,q2,z1,z2,z3,z4,z5,z6,z7,z8,z9,u1.1.ck,show (min 15 IntKind.u32.bits)=15 from rfl];exact⟨rfl,x1⟩
open Go.Zf (ZS)
theorem LV(u:VE D h v t.c)(hl:t.c.length<1000)(s:Int):RT (λw h'=>w=.bool (decide (YP t/\0<=s/\s<t.c.length))/\Ext h h') (KW 139 [.agg [v,.int .i64 t.n],.int .i64 s] h):=by
 obtain⟨h1,b1,x1,g1,n1,u1⟩:=TL u;obtain⟨w,h2,e2,rfl,x2⟩:=(Qu u1 hl).elim;have g2:h2.get h.n=_:=(x2.get _ (H.ZW g1)).trans g1;have ul:=u1.1.len;rw[W2 Wqq,fR];by_cases c1:YP t
 . by_cases c2:0<=s
   .simp[b1,ZU (o:=0) (n:=2) g1 (by simp),e2,c1,c2,ZZ g2,ul,sr]
    exact⟨by simp,x1.trans x2⟩
   .simp[b1,ZU (o:=0) (n:=2) g1 (by simp),e2,c1,c2,Vt]
    exact⟨by simp,x1.trans x2⟩
 . simp[b1,ZU (o:=0) (n:=2) g1 (by simp),e2,c1,Vt]
   exact⟨by simp,x1.trans x2⟩
theorem NI(u:VE D h v t.c)(ok:YP t)(hs:s<t.c.length):RT (λw h'=>w=.Zt [.int .u32 (pt t s:Nat),.int .u32 (pt t (s+1):Nat),.int .i64 0]/\Ext h h') (KW 136 [.agg [v,.int .i64 t.n],.int .i64 s] h):=by
 obtain⟨h1,b1,x1,g1,n1,u1⟩:=TL u;have hl:t.c.length<1000:=by have:=ok.1;omega
 obtain⟨w,h2,e2,rfl,x2⟩:=(LV u1 hl (s:Int)).elim;rw[show decide (YP t/\0<=(s:Int)/\(s:Int)<t.c.length)=true by rw[decide_eq_true_eq];exact⟨ok,by omega,by omega⟩]at e2;obtain⟨w,h3,e3,rfl,x3⟩:=(LW (u1.ext x2) ok (j:=s) (by omega)).elim;obtain⟨w,h4,e4,rfl,x4⟩:=(LW ((u1.ext x2).ext x3) ok (j:=s+1) (by omega)).elim;rw[show ((s+1:Nat):Int)-1=(s:Int)by omega]at e4;have g2:h2.get h.n=_:=(x2.get _ (H.ZW g1)).trans g1;have g3:h3.get h.n=_:=(x3.get _ (H.ZW g2)).trans g2;have z:IntKind.i64.wrap ((s:Int)-1)=(s:Int)-1:=ZS (by omega) (by omega);rw[W2 Wqt,fU];simp[b1,ZU (o:=0) (n:=2) g1 (by simp),ZU (o:=0) (n:=2) g2 (by simp),ZU (o:=0) (n:=2) g3 (by simp),e2,e3,e4,z,ck,V.same,V.Xm,u.1.same];exact⟨rfl,((x1.trans x2).trans x3).trans x4⟩
def VX(t:Tb)(at_:Nat):Nat:=(List.range t.c.length).findIdx λs=>at_<pt t (s+1)
theorem L7{at_:Nat}(hs:s<t.c.length)(h1:at_<pt t (s+1))(h2:∀j,j<s->pt t (j+1)<=at_):VX t at_=s:=by
 unfold VX;rw[List.findIdx_eq (by simpa using hs)];refine⟨by simpa using h1,λj hj=>?_⟩;have:=h2 j hj;simp;omega
theorem GK(ok:YP t){at_:Nat}(h:at_<32768):VX t at_<t.c.length/\pt t (VX t at_)<=at_/\at_<pt t (VX t at_+1):=by
 have h0:∃n,n<=t.c.length/\at_<pt t n/\∀j,j<n->pt t j<=at_:=by
   have GG:∀m,m<=t.c.length->(∃n,n<=m/\at_<pt t n/\∀j,j<n->pt t j<=at_)\/∀j,j<=m->pt t j<=at_:=by
    intro m
    induction m with
    |zero =>
         intro _;exact .inr λj hj=>by
            have:j=0:=by omega
            subst this;rw[Im];omega
    |succ m ih =>
     intro hm;rcases ih (by omega)with ⟨n,a,b⟩|a
     .exact .inl ⟨n,by omega,b⟩
     .by_cases hc:at_<pt t (m+1)
      .exact .inl ⟨m+1,by omega,hc,λj hj=>a j (by omega)⟩
      .exact .inr λj hj=>by
        by_cases e:j=m+1
        .subst e;omega
        .exact a j (by omega)
   rcases GG t.c.length (Nat.le_refl _)with a|a
   .exact a
   .have:=a _ (Nat.le_refl _);rw[MR ok]at this;omega
 obtain⟨n,a,b,c⟩:=h0;cases n with
 |zero=>rw[Im]at b;omega
 |succ n =>
   have e:=L7 (t:=t) (at_:=at_) (s:=n) (by omega) b (λj hj=>c (j+1) (by omega));rw[e];exact⟨by omega,c n (by omega),b⟩
theorem Bt(u:VE D h v t.c)(ok:YP t){at_:Nat}(ha:at_<32768):RT (λw h'=>w=.Zt [.int .i64 (VX t at_:Nat),.int .i64 0]/\Ext h h') (KW 135 [.agg [v,.int .i64 t.n],.int .u32 at_] h):=by
 obtain⟨h1,b1,x1,g1,n1,u1⟩:=TL u;have hl:t.c.length<1000:=by have:=ok.1;omega
 obtain⟨w,h2,e2,rfl,x2⟩:=(Qu u1 hl).elim;rw[if_pos ok]at e2;have loop:=Zd (body:=IV KW ZI) (λn e g=>Ext h2 g/\n<=t.c.length/\0<n/\e.s [0,1,2,4,5,6] 1=.int .u32 at_/\e.s [0,1,2,4,5,6] 2=.ptr h.n 0/\e.s [0,1,2,4,5,6] 6=.int .i64 ((t.c.length-n:Nat):Int)/\∀j,j<t.c.length-n->pt t (j+1)<=at_)
   (λs=>Ext h2 s.h/\s.x=.ex 0/\s.e.s [0,1,2,4,5,6] 6=.int .i64 (VX t at_:Nat))
   (λn e g ⟨xg,hn,GQ,p1,p2,p6,hj⟩=>by
    obtain⟨k,hk⟩:∃k,k=t.c.length-n:=⟨_,rfl⟩
    rw[<-hk]at p6 hj;have gg:g.get h.n=_:=(xg.get _ (by have:=x2.n;omega)).trans ((x2.get _ (H.ZW g1)).trans g1);obtain⟨w,h3,e3,rfl,x3⟩:=(LW ((u1.ext x2).ext xg) ok (j:=k+1) (by omega)).elim;rw[show ((k+1:Nat):Int)-1=(k:Int)by omega]at e3;by_cases hc:pt t (k+1)<=at_
    .have z:IntKind.i64.wrap ((k:Int)+1)=k+1:=ZS (by omega) (by omega)
     have Uo:n≠1:=by
      intro e;subst e;have:k+1=t.c.length:=by omega
      rw[this,MR ok]at hc;omega
     simp[IV,p2,ZU (o:=0) (n:=2) gg (by simp),p6,e3,p1,hc,z];refine⟨n-1,by omega,xg.trans x3,by omega,by omega,by simp[p1],by simp[p2],by simp;omega,λj jX=>?_⟩;by_cases e:j=k
     .subst e;exact hc
     .exact hj j (by omega)
    .simp[IV,p2,ZU (o:=0) (n:=2) gg (by simp),p6,e3,p1,hc]
     refine⟨xg.trans x3,rfl,?_⟩;rw[L7 (s:=k) (by omega) (by omega) hj];simp[p6])
 obtain⟨s,r1,r2,r3,r4⟩:=loop t.c.length ⟨[.agg [v,.int .i64 t.n],.int .u32 at_,.ptr h.n 0,.int .i64 0,.int .i64 0,.int .i64 0],6,.int .i64 0⟩ h2 ⟨Ext.refl h2,Nat.le_refl _,by have:=ok.1;omega,by simp,by simp,by simp,λj hj=>by omega⟩;obtain⟨x,e',h'⟩:=s;simp only at r2 r3 r4;subst r3;rw[W2 Wqu,fV];simp[b1,ZU (o:=0) (n:=2) g1 (by simp),e2,show ¬(32768:Int)<=at_ by omega,r1,r4,show ¬32768<=at_ by omega];exact⟨rfl,(x1.trans x2).trans r2⟩
open Go.Zf (ZS)
def xO(p:Nat)(h:H)(v:V)(t z:Nat)(cs:List V)(n:Nat):Prop :=
 (v=.ZO/\n=0/\cs=[])\/∃b k,v=.sl b 0 n k/\h.get b=some (.cells cs t false)/\cs.length=n*z/\p<=b/\LX z n k
variable{z:Nat}{cs:List V}
theorem xO.sJ{t:Nat}(a:xO p h v t z cs n)(hd:∀b,p<=b->b<h.n->D b):Wo D h v t z n cs:=by
 rcases a with ⟨rfl,rfl,rfl⟩|⟨b,k,rfl,h2,h3,h4,h5⟩
 . exact Wo.nil _ _ _ _
 . exact Wo.of h2 h3 (hd b h4 (H.ZW h2)) h5
theorem JJ{e bytes:Nat}(a:Wo D h v e z n cs)(hb:n*bytes<=140737488355328):
   ∃v' h',Vk e z bytes (h.new (.cells [] e false)) (.sl h.n 0 0 (.ex 0)) v=some (v',h')/\xO h.n h' v' e z cs n/\Ext h h'/\(0<n->∃b,v'=.sl b 0 n (.op z)):=by
 have x:=(Ext.refl h).new (.cells [] e false);have a1:=a.ext x;have hl:=a1.lenOf;have hf:=a1.first
 have hc:=a.length;have g0:(h.new (.cells [] e false)).get h.n=some (.cells [] e false):=ZY;cases n with
 |zero =>
   have:cs=[]:=by cases cs with
    |nil=>rfl
    |cons a l=>simp at hc
   subst this;refine⟨.sl h.n 0 0 (.ex 0),(h.new (.cells [] e false)).put h.n (.cells [] e false),?_,.inr ⟨h.n,_,rfl,ZV (H.ZW g0),by simp,Nat.le_refl _,Nat.le_refl _⟩,x.put (Nat.le_refl _) _,λh=>by omega⟩;simp[Vk,hl,hf,Iu,ZF (o:=0) g0,splice]
 |succ n =>
   refine⟨.sl (h.n+1) 0 (n+1) (.op z),(h.new (.cells [] e false)).new (.cells cs e false),?_,.inr ⟨h.n+1,_,rfl,QA (by rw[H.ZP]),hc,by omega,rfl⟩,x.new _,λ_=>⟨_,rfl⟩⟩;simp[Vk,hl,hf,Iu,hb,ZU (o:=0) (n:=0) g0,H.ZP]
theorem LU(u:VE D h v c)(hl:c.length<1000):RT (λw h'=>xO h.n h' w tU 1 (Y0 c) c.length/\Ext h h'/\(0<c.length->∃b,w=.sl b 0 c.length (.op 1))) (KW 82 [v] h):=by
 rw[W1 r82,s82];rcases u.1 with ⟨rfl,h2,h3⟩|⟨b,o,k,cs,hv,h2,h3,h4,h5⟩
 . simp
   exact⟨.inl ⟨rfl,h2,h3⟩,Ext.refl h,λh=>by omega⟩
 . obtain⟨v',h',k1,k2,k3,k4⟩:=JJ (bytes:=2) u.1 (by omega)
   have hn:ZQ 3 .eql v .ZO=some (.bool false):=by rw[hv];rfl
   simp[hn,bs,YD,k1];exact⟨k2,k3,k4⟩
def WB(t:Tb):Nat:=3+(if t.c.length<4 then 1 else 2)+(if 15<t.n then 1 else 0)+(if 31<t.n then 1 else 0)
theorem GO(t:Tb):WB t<8:=by unfold WB;split<;>split<;>split<;>omega
theorem xN(h1:2<=n)(h2:n<=16)(h:H):∃m:Nat,KW 168 [.int .u64 n] h=some (.ret (.int .i64 m),h)/\min (m-1) 2=(if n<4 then 1 else 2)/\1<=m/\m<10:=by
 have hn:n=2\/n=3\/n=4\/n=5\/n=6\/n=7\/n=8\/n=9\/n=10\/n=11\/n=12\/n=13\/n=14\/n=15\/n=16:=by omega
 rw[W1 iS];rcases hn with rfl|rfl|rfl|rfl|rfl|rfl|rfl|rfl|rfl|rfl|rfl|rfl|rfl|rfl|rfl
 . exact⟨2,by kernel_rfl,by decide,by omega,by omega⟩
 . exact⟨2,by kernel_rfl,by decide,by omega,by omega⟩
 . exact⟨3,by kernel_rfl,by decide,by omega,by omega⟩
 . exact⟨3,by kernel_rfl,by decide,by omega,by omega⟩
 . exact⟨3,by kernel_rfl,by decide,by omega,by omega⟩
 . exact⟨3,by kernel_rfl,by decide,by omega,by omega⟩
 . exact⟨4,by kernel_rfl,by decide,by omega,by omega⟩
 . exact⟨4,by kernel_rfl,by decide,by omega,by omega⟩
 . exact⟨4,by kernel_rfl,by decide,by omega,by omega⟩
 . exact⟨4,by kernel_rfl,by decide,by omega,by omega⟩
 . exact⟨4,by kernel_rfl,by decide,by omega,by omega⟩
 . exact⟨4,by kernel_rfl,by decide,by omega,by omega⟩
 . exact⟨4,by kernel_rfl,by decide,by omega,by omega⟩
 . exact⟨4,by kernel_rfl,by decide,by omega,by omega⟩
 . exact⟨5,by kernel_rfl,by decide,by omega,by omega⟩
theorem Bs(u:VE D h v t.c)(ok:YP t):RT (λw h'=>w=.int .i64 (WB t:Nat)/\Ext h h') (KW 140 [.agg [v,.int .i64 t.n]] h):=by
 obtain⟨h1,b1,x1,g1,n1,u1⟩:=TL u;have ul:=u1.1.len;obtain⟨m,e2,hm,m1,m2⟩:=xN ok.1.1 ok.1.2 h1;have e87:KW 143 [.int .u64 (t.c.length:Int)] h1=some (.ret (.int .i64 m),h1):=by
   rw[W1 iQ,oG];simp[e2]
 have z0:IntKind.u64.wrap (t.c.length:Int)=t.c.length:=by have:=ok.1;exact eX (by omega) (by omega)
 have z1:IntKind.i64.wrap ((m:Int)-1)=((m-1:Nat):Int):=by rw[ZS (by omega) (by omega)];omega
 obtain⟨q,hq⟩:∃q,q=(if t.c.length<4 then 1 else 2):=⟨_,rfl⟩
 have e3:(if (2:Int)<((m-1:Nat):Int)then (2:Int)else ((m-1:Nat):Int))=(q:Int):=by
   rw[hq,<-hm];split<;>omega
 have qc:q<=2:=by rw[hq];split<;>omega
 have z2:IntKind.i64.wrap (3+(q:Int))=3+q:=ZS (by omega) (by omega);have z3:IntKind.i64.wrap (3+(q:Int)+1)=3+q+1:=ZS (by omega) (by omega);have z4:IntKind.i64.wrap (3+(q:Int)+1+1)=3+q+1+1:=ZS (by omega) (by omega);have hr:(WB t:Int)=3+q+(if 15<t.n then 1 else 0)+(if 31<t.n then 1 else 0):=by
   unfold WB;rw[<-hq];split<;>split<;>simp
 rw[hr];rw[W1 Wqp,fQ];by_cases c1:15<t.n
 . by_cases c2:31<t.n
   .simp[b1,ZZ g1,ul,z0,e87,z1,e3,z2,c1,c2,z3,z4]
    exact⟨rfl,x1⟩
   .simp[b1,ZZ g1,ul,z0,e87,z1,e3,z2,c1,c2,z3,z4]
    exact⟨rfl,x1⟩
 . simp[b1,ZZ g1,ul,z0,e87,z1,e3,z2,c1,show ¬31<t.n by omega]
   exact⟨rfl,x1⟩
open Go.Zf (ZS)
def mix(f g:Nat->Nat)(m j:Nat):List Nat:=(List.range m).map λi=>if i<j then f i else g i
theorem Wv(f g:Nat->Nat)(m j:Nat):(mix f g m j).length=m:=by simp[mix]
variable{m:Nat}
theorem Il(f g:Nat->Nat)(h:i<m):nth (mix f g m j) i=if i<j then f i else g i:=by
 rw[Qy (by rw[Wv];exact h)];simp[mix]
theorem Ik(f g:Nat->Nat)(m j:Nat):(mix f g m j).set j (f j)=mix f g m (j+1):=by
 apply List.ext_getElem
 . simp[mix]
 . intro i h1 h2
   rw[List.getElem_set];simp only[mix,List.getElem_map,List.getElem_range];by_cases e:j=i
   .subst e;simp
   .simp only[e,if_false]
    by_cases h:i<j
    .simp[h,Nat.lt_succ_of_lt h]
    .rw[if_neg h,if_neg (by omega)]
theorem NH{m:List Nat}(h:l.length=m.length)(hn:∀i,i<l.length->nth l i=nth m i):l=m:=by
 apply List.ext_getElem h;intro i h1 h2;have:=hn i h1
 rwa[Qy h1,Qy h2]at this
theorem xM(l:List Nat)(f:Nat->Nat):mix f (nth l) l.length 0=l:=by
 apply NH (Wv _ _ _ _);intro i hi;rw[Wv]at hi;rw[Il f _ hi,if_neg (by omega)]
theorem S7(l:List Nat)(i x:Nat):(Y0 l).set i (.int .u16 x)=Y0 (l.set i x):=by simp[Y0,List.map_set]
def OT(t:Tb)(s i:Nat):Nat:=if i+1=t.c.length then nth t.c i else if i<s then nth t.c i-nth t.c i/2^WB t else nth t.c i+(32768-nth t.c i)/2^WB t
def YE(t:Tb)(s:Nat):Tb:=⟨(List.range t.c.length).map (OT t s),min (t.n+1) 32⟩
theorem Yh(t:Tb)(s:Nat):(YE t s).c.length=t.c.length:=by simp[YE]
theorem VD(h:i<t.c.length):nth (YE t s).c i=OT t s i:=by
 rw[Qy (by rw[Yh];exact h)];simp[YE]
theorem sj(t:Tb)(s:Nat):mix (OT t s) (nth t.c) t.c.length (t.c.length-1)=(YE t s).c:=by
 apply NH (by rw[Wv,Yh]);intro i hi;rw[Wv]at hi;rw[Il _ _ hi,VD hi];split
 . rfl
 . rw[OT,if_pos (by omega)]
theorem EY(ok:YP t)(s:Nat)(hi:i<t.c.length):OT t s i<=32768:=by
 have:=ok.le hi;unfold OT;split
 . exact this
 . split
   .exact Nat.le_trans (Nat.sub_le _ _) this
   .have:=Nat.div_le_self (32768-nth t.c i) (2^WB t)
    generalize (32768-nth t.c i)/2^WB t=a at *;omega
theorem xL(ok:YP t)(s:Nat)(hi:i+1<t.c.length):OT t s i<=OT t s (i+1):=by
 have h1:=ok.2.2.1 i hi;have h2:=ok.le hi;have h3:=ok.le (show i<t.c.length by omega);obtain⟨q,hq⟩:∃q,q=2^WB t:=⟨_,rfl⟩
 have hq1:1<=q:=by rw[hq];exact Nat.two_pow_pos _
 have hl:=ok.2.2.2;unfold OT;rw[<-hq,if_neg (show ¬i+1=t.c.length by omega)];obtain⟨x,hx⟩:∃x,x=nth t.c i:=⟨_,rfl⟩
 obtain⟨y,hy⟩:∃x,x=nth t.c (i+1):=⟨_,rfl⟩
 rw[<-hx,<-hy];rw[<-hx]at h1 h3;rw[<-hy]at h1 h2;have d1:x-x/q<=y-y/q:=by
   have hm:∀k,x+k-(x+k)/q ≥ x-x/q:=by
    intro k
    induction k with
    |zero=>exact Nat.le_refl _
    |succ k ih =>
     have:=Nat.div_le_self (x+k) q;have hd:(x+(k+1))/q<=(x+k)/q+1:=by
      rw[<-Nat.add_assoc]
      calc (x+k+1)/q<=(x+k+q)/q:=Nat.div_le_div_right (by omega)
       _=(x+k)/q+1:=Nat.add_div_right _ (by omega)
     omega
   have:=hm (y-x);rw[show x+(y-x)=y by omega]at this;exact this
 have d2:x+(32768-x)/q<=y+(32768-y)/q:=by
   have hm:∀k,x+k<=32768->x+(32768-x)/q<=x+k+(32768-(x+k))/q:=by
    intro k
    induction k with
    |zero=>intro _;exact Nat.le_refl _
    |succ k ih =>
     intro hk;have h:=ih (by omega);have hd:(32768-(x+k))/q<=(32768-(x+(k+1)))/q+1:=by
      calc (32768-(x+k))/q<=(32768-(x+(k+1))+q)/q:=Nat.div_le_div_right (by omega)
       _=_:=Nat.add_div_right _ (by omega)
     omega
   have:=hm (y-x) (by omega);rw[show x+(y-x)=y by omega]at this;exact this
 have d3:x-x/q<=y:=Nat.le_trans (Nat.sub_le _ _) h1;have d4:y-y/q<=y+(32768-y)/q:=Nat.le_trans (Nat.sub_le _ _) (Nat.le_add_right _ _);have d5:y<=y+(32768-y)/q:=Nat.le_add_right _ _;by_cases e1:i+1+1=t.c.length
 . rw[if_pos e1]
   have FH:y=32768:=by rw[hy,<-hl];congr 1;omega
   have:=Nat.div_le_self (32768-x) q;split
   .exact d3
   .generalize (32768-x)/q=a at *;omega
 . rw[if_neg e1]
   by_cases e2:i<s
   .rw[if_pos e2]
    by_cases e3:i+1<s
    .rw[if_pos e3];exact d1
    .rw[if_neg e3];exact Nat.le_trans d3 d5
   .rw[if_neg e2,if_neg (by omega)];exact d2
theorem Ot(ok:YP t)(s:Nat):YP (YE t s):=by
 have h1:=ok.1;refine⟨by rw[Yh];exact ok.1,?_,?_,?_⟩
 . have:=ok.2.1;simp only[YE];omega
 . intro i hi
   rw[Yh]at hi;rw[VD (by omega),VD hi];exact xL ok s hi
 . rw[Yh,VD (by omega),OT,if_pos (by omega)];exact ok.2.2.2
structure I35(h0:H)(t:Tb)(s p q b kqQ:Nat)(m:Int)(n:Nat)(e:E)(g:H):Prop where
 hn:n<=t.c.length-1
 x:∀c,c<h0.n->c≠b->g.get c=h0.get c
 gn:h0.n<=g.n
 w:g.get b=some (.cells (Y0 (mix (OT t s) (nth t.c) t.c.length (t.c.length-1-n))) 137 false)
 p1:e.s [0,1,2,4,5,6,7,8,9,31,32,33] 1=.int .i64 s
 p4:e.s [0,1,2,4,5,6,7,8,9,31,32,33] 4=.ptr p 0
 p6:e.s [0,1,2,4,5,6,7,8,9,31,32,33] 6=.int .i64 kqQ
 p7:e.s [0,1,2,4,5,6,7,8,9,31,32,33] 7=.ptr q 0
 Br:e.s [0,1,2,4,5,6,7,8,9,31,32,33] 31=.sl b 0 (t.c.length-1) (.op 1)
 pY:e.s [0,1,2,4,5,6,7,8,9,31,32,33] 32=.int .i64 ((t.c.length-1:Nat):Int)
 mP:e.s [0,1,2,4,5,6,7,8,9,31,32,33] 33=.int .i64 ((t.c.length-1-n:Nat):Int)
variable{h0 g:H}{e:E}
theorem mO{m:Int}(ok:YP t)(hq:h0.get q=some (.cells [.sl b 0 t.c.length (.op 1),.int .i64 m] 101 false))(hqb:q≠b)(hi:I35 h0 t s p q b (WB t) m n e g):
   ∃e' g',ZI (Kf KW ZI) e g=some ⟨.ex 0,e',g'⟩/\I35 h0 t s p q b (WB t) m 0 e' g':=by
 have loop:=Zd (body:=Kf KW ZI) (I35 h0 t s p q b (WB t) m) (λs'=>s'.x=.ex 0/\I35 h0 t s p q b (WB t) m 0 s'.e s'.h)
   (λn e g hi=>by
    obtain⟨hn,x,gn,w,p1,p4,p6,p7,Br,pY,mP⟩:=hi;cases n with
    |zero =>
     simp[Kf,mP,pY];exact⟨rfl,hn,x,gn,w,by simp[p1],by simp[p4],by simp[p6],by simp[p7],by simp[Br],by simp[pY],by simp[mP]⟩
    |succ n =>
     obtain⟨k,hk⟩:∃k,k=t.c.length-1-(n+1):=⟨_,rfl⟩
     have SF:t.c.length-1-n=k+1:=by omega
     have VW:k<t.c.length:=by omega
     rw[<-hk]at mP w;have hle:=ok.le VW;have hR:=GO t;obtain⟨Q,hQ⟩:∃Q,Q=2^WB t:=⟨_,rfl⟩
     obtain⟨R,dA⟩:∃R,R=WB t:=⟨_,rfl⟩
     have PC:=Ik (OT t s) (nth t.c) t.c.length k;have sg:=Il (OT t s) (nth t.c) (j:=k) VW;rw[if_neg (Nat.lt_irrefl k)]at sg;have hml:=Wv (OT t s) (nth t.c) t.c.length k;have hF:OT t s k=if k<s then nth t.c k-nth t.c k/Q else nth t.c k+(32768-nth t.c k)/Q:=by
      rw[OT,if_neg (by omega),<-hQ]
     obtain⟨c,hc⟩:∃c,c=nth t.c k:=⟨_,rfl⟩
     rw[<-hc]at sg hF hle;obtain⟨l,hl⟩:∃l,l=mix (OT t s) (nth t.c) t.c.length k:=⟨_,rfl⟩
     rw[<-hl]at w PC sg hml;have Ij:=LY l k (by omega);rw[sg]at Ij;have hqg:g.get q=some (.cells [.sl b 0 t.c.length (.op 1),.int .i64 m] 101 false):=by rw[x q (H.ZW hq) hqb,hq]
     have z1:IntKind.i64.wrap ((k:Int)+1)=k+1:=by have:=ok.1;exact ZS (by omega) (by omega)
     have TK:min R IntKind.u16.bits=R:=Nat.min_eq_left (by rw[dA,show IntKind.u16.bits=16 from rfl];omega);have zf:∀y:Int,y.fdiv (2^R)=y/(Q:Int):=λy=>by
      rw[Int.fdiv_eq_ediv_of_nonneg _ (Int.pow_nonneg (by decide)),hQ,dA];simp
     rw[<-dA]at p6;have hQ1:1<=Q:=by rw[hQ];exact Nat.two_pow_pos _
     have d1:=Nat.div_le_self c Q;have d2:=Nat.div_le_self (32768-c) Q;have z3:IntKind.u16.wrap (32768-(c:Int))=((32768-c:Nat):Int):=by rw[GU (by omega) (by omega)];omega
     have FF:=λv=>Zw w (o:=k) (by rw[Xh];omega) v;have hxx:∀g2,g2=g.put b (.cells (Y0 (mix (OT t s) (nth t.c) t.c.length (k+1))) 137 false)->(∀d,d<h0.n->d≠b->g2.get d=h0.get d)/\h0.n<=g2.n/\g2.get b=some (.cells (Y0 (mix (OT t s) (nth t.c) t.c.length (k+1))) 137 false):=by
      intro g2 XQ;exact⟨λd hd xK=>by rw[XQ,ZX xK,x d hd xK],by rw[XQ,H.ZJ];exact gn,by rw[XQ,ZV (H.ZW w)]⟩
     obtain⟨g2,XQ⟩:∃g2,g2=g.put b (.cells (Y0 (mix (OT t s) (nth t.c) t.c.length (k+1))) 137 false):=⟨_,rfl⟩
     obtain⟨y1,y2,y3⟩:=hxx g2 XQ;have SS:=S7 l k (OT t s k);rw[PC]at SS;have b1:c-c/Q<=32768:=Nat.le_trans (Nat.sub_le _ _) hle;have b2:c+(32768-c)/Q<=32768:=by generalize (32768-c)/Q=a at *;omega
     by_cases hs:k<s
     .rw[if_pos hs]at hF
      have e1:((c-c/Q:Nat):Int)=(c:Int)-(c:Int)/(Q:Int):=by rw[Int.ofNat_sub d1,Int.natCast_ediv]
      have z4:IntKind.u16.wrap ((c:Int)-(c:Int)/(Q:Int))=((OT t s k:Nat):Int):=by
       rw[hF,<-e1];exact GU (Int.natCast_nonneg _) (by omega)
      simp[Kf,mP,pY,show k<t.c.length-1 by omega,show (k:Int)<((t.c.length-1:Nat):Int)by omega,Br,ZZ w,Ij,p1,hs,p7,ZZ hqg,VW,p6,show ¬(R:Int)<0 by omega,TK,zf,z4,FF,SS,z1,<-XQ];exact⟨n,Nat.lt_succ_self n,by omega,y1,y2,by rw[SF];exact y3,by simp[p1],by simp[p4],by simp[p6,dA],by simp[p7],by simp[Br],by simp[pY],by simp[SF]⟩
     .rw[if_neg hs]at hF
      have e1:((c+(32768-c)/Q:Nat):Int)=(c:Int)+((32768-c:Nat):Int)/(Q:Int):=by rw[Int.natCast_add,Int.natCast_ediv]
      have z4:IntKind.u16.wrap ((c:Int)+((32768-c:Nat):Int)/(Q:Int))=((OT t s k:Nat):Int):=by
       rw[hF,<-e1];exact GU (Int.natCast_nonneg _) (by omega)
      simp[Kf,mP,pY,show k<t.c.length-1 by omega,show (k:Int)<((t.c.length-1:Nat):Int)by omega,Br,ZZ w,Ij,p1,hs,p7,ZZ hqg,VW,p6,show ¬(R:Int)<0 by omega,TK,z3,zf,z4,FF,SS,z1,<-XQ];exact⟨n,Nat.lt_succ_self n,by omega,y1,y2,by rw[SF];exact y3,by simp[p1],by simp[p4],by simp[p6,dA],by simp[p7],by simp[Br],by simp[pY],by simp[SF]⟩)
 obtain⟨⟨x,e',g'⟩,r1,r2,r3⟩:=loop n e g hi;simp only at r2 r3;subst r2;exact⟨e',g',r1,r3⟩
def GP(p:Nat)(h:H)(v:V)(t:Tb):Prop:=∃vc,v=.agg [vc,.int .i64 t.n]/\VE (λb=>p<=b) h vc t.c
theorem EJ(u:VE D h v t.c)(ok:YP t)(hs:s<t.c.length):
   RT (λw h'=>∃vt,w=.Zt [vt,.int .i64 0]/\GP h.n h' vt (YE t s)/\Ext h h') (KW 88 [.agg [v,.int .i64 t.n],.int .i64 s] h):=by
 have l1:=ok.1;obtain⟨h1,b1,x1,g1,n1,u1⟩:=TL u;obtain⟨h2,Zq⟩:∃g,g=h1.new (.cells [.ZO,.int .i64 0] 101 false):=⟨_,rfl⟩
 have x2:Ext h1 h2:=by rw[Zq];exact (Ext.refl h1).new _
 have n2:h2.n=h1.n+1:=by rw[Zq,H.ZP]
 have r2:h2.get h1.n=some (.cells [.ZO,.int .i64 0] 101 false):=by rw[Zq,ZY]
 have u2:=u1.ext x2;obtain⟨w,h3,e3,rfl,x3⟩:=(LV u2 (by omega) (s:Int)).elim;rw[show decide (YP t/\0<=(s:Int)/\(s:Int)<t.c.length)=true by rw[decide_eq_true_eq];exact⟨ok,by omega,by omega⟩]at e3;have u3:=u2.ext x3;obtain⟨w,h4,e4,rfl,x4⟩:=(Bs u3 ok).elim;have u4:=u3.ext x4;obtain⟨vc,h5,e5,k5,x5,q5⟩:=(LU u4 (by omega)).elim;obtain⟨b,rfl⟩:=q5 (by omega);have QX:h5.get b=some (.cells (Y0 t.c) 137 false)/\h4.n<=b:=by
   rcases k5 with ⟨e,_⟩|⟨b',k',e,a1,a2,a3⟩
   .cases e
   .cases e;exact⟨a1,a3.1⟩
 obtain⟨QX,JI⟩:=QX;have sN:h2.get h.n=_:=(x2.get _ (H.ZW g1)).trans g1;have sM:h3.get h.n=_:=(x3.get _ (H.ZW sN)).trans sN;have eF:h4.get h.n=_:=(x4.get _ (H.ZW sM)).trans sM;have ge5:h5.get h.n=_:=(x5.get _ (H.ZW eF)).trans eF;have sK:h3.get h1.n=_:=(x3.get _ (H.ZW r2)).trans r2;have nx:h4.get h1.n=_:=(x4.get _ (H.ZW sK)).trans sK;have ra5:h5.get h1.n=_:=(x5.get _ (H.ZW nx)).trans nx;obtain⟨m,hm⟩:∃m,m=min (t.n+1) 32:=⟨_,rfl⟩
 have zn:IntKind.i64.wrap (t.n+1)=t.n+1:=by have:=ok.2.1;exact ZS (by omega) (by omega)
 have TK:(if (32:Int)<t.n+1 then (32:Int)else t.n+1)=m:=by rw[hm];split<;>omega
 obtain⟨h6,OP⟩:∃g,g=(h5.new (.cells [.ZO,.int .i64 0] 101 false)).put h5.n (.cells [.sl b 0 t.c.length (.op 1),.int .i64 m] 101 false):=⟨_,rfl⟩
 have x6:Ext h5 h6:=by rw[OP];exact ((Ext.refl h5).new _).put (Nat.le_refl _) _
 have n6:h6.n=h5.n+1:=by rw[OP,H.ZJ,H.ZP]
 have g6:h6.get h5.n=some (.cells [.sl b 0 t.c.length (.op 1),.int .i64 m] 101 false):=by rw[OP,ZV (by rw[H.ZP];omega)]
 have ge6:h6.get h.n=_:=(x6.get _ (H.ZW ge5)).trans ge5;have ra6:h6.get h1.n=_:=(x6.get _ (H.ZW ra5)).trans ra5;have hb6:h6.get b=_:=(x6.get _ (H.ZW QX)).trans QX;have HE:=H.ZW QX;have zl:IntKind.i64.wrap ((t.c.length:Int)-1)=((t.c.length-1:Nat):Int):=by rw[ZS (by omega) (by omega)];omega
 have hsl:Ce 1 (.sl b 0 t.c.length (.op 1)) none (some (.int .i64 ((t.c.length-1:Nat):Int))) none=some (.sl b 0 (t.c.length-1) (.op 1)):=by
   simp[Ce,XK,Up]
 obtain⟨e',g',r1,I⟩:=mO (h0:=h6) (t:=t) (s:=s) (p:=h1.n) (q:=h5.n) (b:=b) (m:=m) ok g6 (by omega) (n:=t.c.length-1)
   (e:=⟨[.agg [v,.int .i64 t.n],.int .i64 s,.ptr h.n 0,.ptr h1.n 0,.int .i64 0,.int .i64 (WB t:Nat),.ptr h5.n 0,.Zt [],.Zt [],.sl b 0 (t.c.length-1) (.op 1),.int .i64 ((t.c.length-1:Nat):Int),.int .i64 0],33,.int .i64 0⟩) (g:=h6)
   ⟨Nat.le_refl _,λc _ _=>rfl,Nat.le_refl _,by rw[Nat.sub_self,xM];exact hb6,by simp,by simp,by simp,by simp,by simp,by simp,by simp⟩
 obtain⟨_,xx,gn,gw,p1,p4,p6,p7,Br,pY,mP⟩:=I;have x7:∀c,c<h4.n->g'.get c=h4.get c:=λc hc=>by
   have:=x5.n;have:=x6.n;rw[xx c (by omega) (by omega),x6.get c (by omega),x5.get c hc]
 have nr:g'.get h1.n=_:=(x7 _ (H.ZW nx)).trans nx;have q7:g'.get h5.n=_:=(xx h5.n (by omega) (by omega)).trans g6;obtain⟨h8,WM⟩:∃g,g=g'.put h1.n (.cells [.sl b 0 t.c.length (.op 1),.int .i64 m] 101 false):=⟨_,rfl⟩
 have r8:h8.get h1.n=some (.cells [.sl b 0 t.c.length (.op 1),.int .i64 m] 101 false):=by rw[WM,ZV (H.ZW nr)]
 have b8:h8.get b=_:=(show h8.get b=g'.get b by rw[WM,ZX (by have:=H.ZW nx;omega)]).trans gw;rw[W2 r88,s88];simp[b1,nw,<-Zq,ZU (o:=0) (n:=2) sN (by simp),e3,ZU (o:=0) (n:=2) sM (by simp),e4,ZZ eF,e5,ZZ ge5,zn,TK,bl,YD,splice,ZF (o:=0) ZY,<-OP,u.1.ck,ZZ g6,ZZ ge6,u.1.len,zl,hsl,r1,p7,ZU (o:=0) (n:=2) q7 (by simp),p4,ZF (o:=0) nr,<-WM,ZU (o:=0) (n:=2) r8 (by simp)];have hx4:Ext h h4:=((x1.trans x2).trans x3).trans x4;refine⟨_,rfl,⟨_,by rw[hm];rfl,?_,?_⟩,?_⟩
 . rw[Nat.sub_zero,sj]at b8
   rw[Yh];refine Wo.of b8 ?_ ?_
   .rw[Xh,Yh];omega
   .have:=x1.n;have:=x2.n;have:=x3.n;have:=x4.n;show h.n<=b;omega
 . intro y hy
   obtain⟨i,hi,rfl⟩:=List.getElem_of_mem hy;rw[<-Qy hi];rw[Yh]at hi;rw[VD hi];have:=EY ok s hi;omega
 . refine⟨by rw[WM,H.ZJ];have:=hx4.n;have:=x5.n;omega,λc hc=>?_⟩
   have:=x1.n;have:=hx4.n;rw[WM,ZX (by omega),x7 c (by omega),hx4.get c hc]
open Go.Zf (ZS)
open Go.Zf (ZS)
def Wf(f:Nat->Nat)(m:Nat):List Nat:=(List.range m).map f
theorem Y6(f:Nat->Nat)(m:Nat):(Wf f m).length=m:=by simp[Wf]
theorem Wo.under{t:Nat}(a:Wo D h v t z n cs):∀c o m k,v=.sl c o m k->c<h.n:=by
 rcases a with ⟨rfl,_⟩|⟨b,o,k,c,rfl,hb,_⟩
 . intro c o m k e;cases e
 . intro c o m k e;cases e;exact H.ZW hb
def pw(n:Nat):Nat:=2^n
def QO(K T:List Nat)(e e0:E):Prop:=∀i,i∈T->e.s K i=e0.s K i
open Go.Zf (ZS)
def KC(n i:Nat):Nat:=32768*(i+1)/n
def Py(n i:Nat):Nat:=if i+1=n then 32768 else 32768-32768/pw (i+1)
def Va(n:Nat):Tb:=⟨Wf (KC n) n,0⟩
def XP(n:Nat):Tb:=⟨Wf (Py n) n,0⟩
theorem Is(hi:i<n):KC n i<=32768:=by
 unfold KC;have:32768*(i+1)/n<=32768*n/n:=Nat.div_le_div_right (Nat.mul_le_mul_left _ (by omega))
 rwa[Nat.mul_div_cancel _ (by omega)]at this
theorem Ir(n i:Nat):Py n i<=32768:=by
 unfold Py;split
 . exact Nat.le_refl _
 . exact Nat.sub_le _ _
theorem Pz{f:Nat->Nat}{x:Nat}(h:x∈Wf f m):∃i,i<m/\f i=x:=by
 simp only[Wf,List.mem_map,List.mem_range]at h;exact h
theorem GF(f g:Nat->Nat)(m:Nat):mix f g m m=Wf f m:=by
 apply List.ext_getElem
 . simp[mix,Wf]
 . intro i h1 h2
   have:i<m:=by simpa [mix]using h1
   simp[mix,Wf,this]
theorem zeros(f:Nat->Nat)(n:Nat):Vu n [V.int .u16 0]=Y0 (mix f (λ_=>0) n 0):=by
 rw[yK];apply List.ext_getElem
 . simp[Y0,mix]
 . intro i h1 h2;simp[Y0,mix]
theorem GN(i:Nat)(hi:i<=15):32768/pw i/2=32768/pw (i+1):=by
 rw[pw,pw,Nat.div_div_eq_div_mul,Nat.pow_succ]
open Go.Zf (ZS)
theorem wn(n:Nat)(f g:Nat->Nat)(j:Nat):(Y0 (mix f g n j)).length=n:=by rw[Xh,Wv]
structure I54(h0:H)(f:Nat->Nat)(n b q p:Nat)(k:Nat)(e:E)(g:H):Prop where
 hk:k<=n
 x:∀c,c≠b->g.get c=h0.get c
 gn:h0.n<=g.n
 w:g.get b=some (.cells (Y0 (mix f (λ_=>0) n (n-k))) 137 false)
 p0:e.s [0,2,3,4,5,15,16] 0=.int .i64 n
 p2:e.s [0,2,3,4,5,15,16] 2=.ptr p 0
 p4:e.s [0,2,3,4,5,15,16] 4=.ptr q 0
 Ad:e.s [0,2,3,4,5,15,16] 15=.int .i64 n
 FE:e.s [0,2,3,4,5,15,16] 16=.int .i64 ((n-k:Nat):Int)
theorem Bq(h2:2<=n)(HB:n<=16)(h:H):RT (λw h'=>∃vt,w=.Zt [vt,.int .i64 0]/\GP h.n h' vt (Va n)/\Ext h h') (KW 37 [.int .i64 n] h):=by
 obtain⟨h1,ZL⟩:∃g,g=h.new (.cells [.ZO,.int .i64 0] 101 false):=⟨_,rfl⟩
 have x1:Ext h h1:=by rw[ZL];exact (Ext.refl h).new _
 have n1:h1.n=h.n+1:=by rw[ZL,H.ZP]
 have r1:h1.get h.n=some (.cells [.ZO,.int .i64 0] 101 false):=by rw[ZL,ZY]
 obtain⟨hm,sf⟩:∃g,g=h1.new (.cells (Y0 (mix (KC n) (λ_=>0) n 0)) 137 false):=⟨_,rfl⟩
 have xm:Ext h1 hm:=by rw[sf];exact (Ext.refl h1).new _
 have nm:hm.n=h1.n+1:=by rw[sf,H.ZP]
 have rm:hm.get h1.n=some (.cells (Y0 (mix (KC n) (λ_=>0) n 0)) 137 false):=by rw[sf,ZY]
 obtain⟨h3,Zc⟩:∃g,g=(hm.new (.cells [.ZO,.int .i64 0] 101 false)).put hm.n (.cells [.sl h1.n 0 n (.ex n),.int .i64 0] 101 false):=⟨_,rfl⟩
 have x3:Ext hm h3:=by rw[Zc];exact ((Ext.refl hm).new _).put (Nat.le_refl _) _
 have n3:h3.n=hm.n+1:=by rw[Zc,H.ZJ,H.ZP]
 have r3:h3.get hm.n=some (.cells [.sl h1.n 0 n (.ex n),.int .i64 0] 101 false):=by rw[Zc,ZV (by rw[H.ZP];omega)]
 have dz:h3.get h1.n=_:=(x3.get _ (H.ZW rm)).trans rm;have sK:h3.get h.n=_:=(x3.get _ (by omega)).trans ((xm.get _ (by omega)).trans r1);have loop:=Zd (body:=Dy KW ZI) (I54 h3 (KC n) n h1.n hm.n h.n) (λs=>s.x=.ex 0/\I54 h3 (KC n) n h1.n hm.n h.n 0 s.e s.h)
   (λk e g hi=>by
    obtain⟨hk,xx,gn,w,p0,p2,p4,Ad,FE⟩:=hi;cases k with
    |zero =>
     simp[Dy,Ad,FE];exact⟨rfl,hk,xx,gn,w,by simp[p0],by simp[p2],by simp[p4],by simp[Ad],by simp[FE]⟩
    |succ k =>
     obtain⟨i,hi⟩:∃i,i=n-(k+1):=⟨_,rfl⟩
     have Tw:n-k=i+1:=by omega
     rw[<-hi]at FE w;have hF:=Is (n:=n) (i:=i) (by omega);have z1:IntKind.i64.wrap ((i:Int)+1)=i+1:=ZS (by omega) (by omega);have z2:IntKind.i64.wrap (32768*((i:Int)+1))=32768*(i+1):=ZS (by omega) (by omega);have PC:=Ik (KC n) (λ_=>0) n i;have SS:=S7 (mix (KC n) (λ_=>0) n i) i (KC n i);rw[PC]at SS;have FF:=λv=>Zw w (o:=i) (by rw[wn];omega) v;obtain⟨F,Dk⟩:∃F,F=KC n i:=⟨_,rfl⟩
     have t1:(32768*((i:Int)+1)).tdiv (n:Int)=(F:Int):=by
      rw[Int.tdiv_eq_ediv_of_nonneg (by omega),Dk,KC];simp
     rw[<-Dk]at hF SS;have z3:IntKind.i64.wrap (F:Int)=F:=ZS (by omega) (by omega);have z4:IntKind.u16.wrap (F:Int)=F:=GU (by omega) (by omega);have hq:g.get hm.n=_:=(xx hm.n (by omega)).trans r3;obtain⟨g2,XQ⟩:∃g2,g2=g.put h1.n (.cells (Y0 (mix (KC n) (λ_=>0) n (i+1))) 137 false):=⟨_,rfl⟩
     simp[Dy,Ad,FE,show (i:Int)<n by omega,show i<n by omega,p4,ZZ hq,z1,z2,p0,show ¬(n:Int)=0 by omega,show ¬n=0 by omega,t1,z3,z4,FF,SS,<-XQ];exact⟨k,Nat.lt_succ_self k,by omega,λc hc=>by rw[XQ,ZX hc,xx c hc],by rw[XQ,H.ZJ];exact gn,by rw[XQ,ZV (H.ZW w),Tw],by simp[p0],by simp[p2],by simp[p4],by simp[Ad],by simp[Tw]⟩)
 obtain⟨⟨sx,se,sh⟩,q1,q2,I⟩:=loop n ⟨[.int .i64 n,.ptr h.n 0,.int .i64 0,.ptr hm.n 0,.Zt [],.int .i64 n,.int .i64 0],16,.int .i64 0⟩ h3 ⟨Nat.le_refl _,λc _=>rfl,Nat.le_refl _,by rw[Nat.sub_self];exact dz,by simp,by simp,by simp,by simp,by simp⟩;simp only at q2 I;subst q2;obtain⟨_,xx,gn,w,p0,p2,p4,Ad,FE⟩:=I;rw[Nat.sub_zero,GF]at w;have ra:sh.get h.n=_:=(xx h.n (by omega)).trans sK;have rq:sh.get hm.n=_:=(xx hm.n (by omega)).trans r3;obtain⟨h8,WM⟩:∃g,g=sh.put h.n (.cells [.sl h1.n 0 n (.ex n),.int .i64 0] 101 false):=⟨_,rfl⟩
 have r8:h8.get h.n=some (.cells [.sl h1.n 0 n (.ex n),.int .i64 0] 101 false):=by rw[WM,ZV (H.ZW ra)]
 have b8:h8.get h1.n=some (.cells (Y0 (Va n).c) 137 false):=by rw[WM,ZX (by omega)];exact w
 have hsz:=Qv (n:Int) h1;rw[show (decide (2<=(n:Int))&&decide ((n:Int)<=16))=true by rw[Bool.and_eq_true,decide_eq_true_eq,decide_eq_true_eq];omega]at hsz;have pX:ms h1 137 2 [(.int .u16 0)] (.int .i64 n) (.int .i64 n)=some (.sl h1.n 0 n (.ex n),hm):=by
   simp only[ms];rw[if_pos ⟨by omega,by omega,by omega,by omega,trivial⟩,Int.toNat_natCast,zeros (KC n),<-sf]
 rw[W1 r37,s37];simp[nw,<-ZL,hsz,pX,bl,YD,splice,ZF (o:=0) ZY,<-Zc,ZZ r3,q1,p4,ZU (o:=0) (n:=2) rq (by simp),p2,ZF (o:=0) ra,<-WM,ZU (o:=0) (n:=2) r8 (by simp)];refine⟨_,rfl,⟨.sl h1.n 0 n (.ex n),rfl,?_,λy hy=>?_⟩,?_⟩
 . show Wo _ h8 _ _ 1 (Wf (KC n) n).length _
   rw[Y6];exact Wo.of b8 (by rw[Xh,Va,Y6];omega) (show h.n<=h1.n by omega)
 . obtain⟨i,hi,rfl⟩:=Pz hy
   have:=Is hi;omega
 . refine⟨by rw[WM,H.ZJ];omega,λc hc=>?_⟩
   rw[WM,ZX (by omega),xx c (by omega),x3.get c (by omega),xm.get c (by omega),x1.get c hc]
def GD(i:Nat):Nat:=32768-32768/pw (i+1)
theorem mN(i:Nat):GD i<=32768:=Nat.sub_le _ _
theorem EI(h2:2<=n)(HB:n<=16)(h:H):RT (λw h'=>∃vt,w=.Zt [vt,.int .i64 0]/\GP h.n h' vt (XP n)/\Ext h h') (KW 38 [.int .i64 n] h):=by
 obtain⟨h1,ZL⟩:∃g,g=h.new (.cells [.ZO,.int .i64 0] 101 false):=⟨_,rfl⟩
 have x1:Ext h h1:=by rw[ZL];exact (Ext.refl h).new _
 have n1:h1.n=h.n+1:=by rw[ZL,H.ZP]
 have r1:h1.get h.n=some (.cells [.ZO,.int .i64 0] 101 false):=by rw[ZL,ZY]
 obtain⟨hm,sf⟩:∃g,g=h1.new (.cells (Y0 (mix (GD) (λ_=>0) n 0)) 137 false):=⟨_,rfl⟩
 have xm:Ext h1 hm:=by rw[sf];exact (Ext.refl h1).new _
 have nm:hm.n=h1.n+1:=by rw[sf,H.ZP]
 have rm:hm.get h1.n=some (.cells (Y0 (mix (GD) (λ_=>0) n 0)) 137 false):=by rw[sf,ZY]
 obtain⟨h3,Zc⟩:∃g,g=(hm.new (.cells [.ZO,.int .i64 0] 101 false)).put hm.n (.cells [.sl h1.n 0 n (.ex n),.int .i64 0] 101 false):=⟨_,rfl⟩
 have x3:Ext hm h3:=by rw[Zc];exact ((Ext.refl hm).new _).put (Nat.le_refl _) _
 have n3:h3.n=hm.n+1:=by rw[Zc,H.ZJ,H.ZP]
 have r3:h3.get hm.n=some (.cells [.sl h1.n 0 n (.ex n),.int .i64 0] 101 false):=by rw[Zc,ZV (by rw[H.ZP];omega)]
 have dz:h3.get h1.n=_:=(x3.get _ (H.ZW rm)).trans rm;have sK:h3.get h.n=_:=(x3.get _ (by omega)).trans ((xm.get _ (by omega)).trans r1);have loop:=Zd (body:=Dx KW ZI) (I54 h3 (GD) n h1.n hm.n h.n) (λs=>s.x=.ex 0/\I54 h3 (GD) n h1.n hm.n h.n 0 s.e s.h)
   (λk e g hi=>by
    obtain⟨hk,xx,gn,w,p0,p2,p4,Ad,FE⟩:=hi;cases k with
    |zero =>
     simp[Dx,Ad,FE];exact⟨rfl,hk,xx,gn,w,by simp[p0],by simp[p2],by simp[p4],by simp[Ad],by simp[FE]⟩
    |succ k =>
     obtain⟨i,hi⟩:∃i,i=n-(k+1):=⟨_,rfl⟩
     have Tw:n-k=i+1:=by omega
     rw[<-hi]at FE w;have hF:=mN i;have z1:IntKind.i64.wrap ((i:Int)+1)=i+1:=ZS (by omega) (by omega);have PC:=Ik (GD) (λ_=>0) n i;have SS:=S7 (mix (GD) (λ_=>0) n i) i (GD i);rw[PC]at SS;have FF:=λv=>Zw w (o:=i) (by rw[wn];omega) v;obtain⟨F,Dk⟩:∃F,F=GD i:=⟨_,rfl⟩
     obtain⟨Y,hY⟩:∃Y,Y=32768/pw (i+1):=⟨_,rfl⟩
     have hYl:Y<=32768:=by rw[hY];exact Nat.div_le_self _ _
     have TK:min (i+1) IntKind.u16.bits=i+1:=Nat.min_eq_left (by rw[show IntKind.u16.bits=16 from rfl];omega);have t1:(32768:Int).fdiv (2^(i+1))=(Y:Int):=by
      rw[Int.fdiv_eq_ediv_of_nonneg _ (Int.pow_nonneg (by decide)),hY,pw];simp
     have tn:((i:Int)+1).toNat=i+1:=by omega
     have hFY:F=32768-Y:=by rw[Dk,GD,hY]
     rw[<-Dk]at hF SS;have z4:IntKind.u16.wrap (32768-(Y:Int))=F:=by rw[GU (by omega) (by omega)];omega
     have hq:g.get hm.n=_:=(xx hm.n (by omega)).trans r3;obtain⟨g2,XQ⟩:∃g2,g2=g.put h1.n (.cells (Y0 (mix (GD) (λ_=>0) n (i+1))) 137 false):=⟨_,rfl⟩
     simp[Dx,Ad,FE,show (i:Int)<n by omega,show i<n by omega,p4,ZZ hq,z1,show ¬(i:Int)+1<0 by omega,tn,TK,t1,z4,FF,SS,<-XQ];exact⟨k,Nat.lt_succ_self k,by omega,λc hc=>by rw[XQ,ZX hc,xx c hc],by rw[XQ,H.ZJ];exact gn,by rw[XQ,ZV (H.ZW w),Tw],by simp[p0],by simp[p2],by simp[p4],by simp[Ad],by simp[Tw]⟩)
 obtain⟨⟨sx,se,sh⟩,q1,q2,I⟩:=loop n ⟨[.int .i64 n,.ptr h.n 0,.int .i64 0,.ptr hm.n 0,.Zt [],.int .i64 n,.int .i64 0],16,.int .i64 0⟩ h3 ⟨Nat.le_refl _,λc _=>rfl,Nat.le_refl _,by rw[Nat.sub_self];exact dz,by simp,by simp,by simp,by simp,by simp⟩;simp only at q2 I;subst q2;obtain⟨_,xx,gn,w,p0,p2,p4,Ad,FE⟩:=I;rw[Nat.sub_zero,GF]at w;have rq:sh.get hm.n=_:=(xx hm.n (by omega)).trans r3;have zn1:IntKind.i64.wrap ((n:Int)-1)=((n-1:Nat):Int):=by rw[ZS (by omega) (by omega)];omega
 have FF:=λv=>Zw w (o:=n-1) (by rw[Xh,Y6];omega) v;have SS:(Y0 (Wf GD n)).set (n-1) (.int .u16 32768)=Y0 ((Wf GD n).set (n-1) 32768):=S7 (Wf GD n) (n-1) 32768;have WY:(Wf GD n).set (n-1) 32768=(XP n).c:=by
   apply List.ext_getElem
   .simp[XP,Wf]
   .intro i h1 h2
    have hi:i<n:=by simpa [Wf]using h1
    rw[List.getElem_set];simp only[XP,Wf,List.getElem_map,List.getElem_range,Py,GD];by_cases e:n-1=i
    .rw[if_pos e,if_pos (by omega)]
    .rw[if_neg e,if_neg (by omega)]
 rw[WY]at SS;obtain⟨Ii,Bp⟩:∃g,g=sh.put h1.n (.cells (Y0 (XP n).c) 137 false):=⟨_,rfl⟩
 have w2:Ii.get h1.n=some (.cells (Y0 (XP n).c) 137 false):=by rw[Bp,ZV (H.ZW w)]
 have rq2:Ii.get hm.n=_:=(show Ii.get hm.n=sh.get hm.n by rw[Bp,ZX (by omega)]).trans rq;have ra:Ii.get h.n=_:=(show Ii.get h.n=sh.get h.n by rw[Bp,ZX (by omega)]).trans ((xx h.n (by omega)).trans sK);have uo:n-1<n:=by omega
 obtain⟨h8,WM⟩:∃g,g=Ii.put h.n (.cells [.sl h1.n 0 n (.ex n),.int .i64 0] 101 false):=⟨_,rfl⟩
 have r8:h8.get h.n=some (.cells [.sl h1.n 0 n (.ex n),.int .i64 0] 101 false):=by rw[WM,ZV (H.ZW ra)]
 have b8:h8.get h1.n=some (.cells (Y0 (XP n).c) 137 false):=by rw[WM,ZX (by omega)];exact w2
 have hsz:=Qv (n:Int) h1;rw[show (decide (2<=(n:Int))&&decide ((n:Int)<=16))=true by rw[Bool.and_eq_true,decide_eq_true_eq,decide_eq_true_eq];omega]at hsz;have pX:ms h1 137 2 [(.int .u16 0)] (.int .i64 n) (.int .i64 n)=some (.sl h1.n 0 n (.ex n),hm):=by
   simp only[ms];rw[if_pos ⟨by omega,by omega,by omega,by omega,trivial⟩,Int.toNat_natCast,zeros (GD),<-sf]
 rw[W1 r38,s38];simp[nw,<-ZL,hsz,pX,bl,YD,splice,ZF (o:=0) ZY,<-Zc,ZZ r3,q1,p4,ZZ rq,p0,zn1,uo,FF,SS,<-Bp,ZU (o:=0) (n:=2) rq2 (by simp),p2,ZF (o:=0) ra,<-WM,ZU (o:=0) (n:=2) r8 (by simp)];refine⟨_,rfl,⟨.sl h1.n 0 n (.ex n),rfl,?_,λy hy=>?_⟩,?_⟩
 . show Wo _ h8 _ _ 1 (Wf (Py n) n).length _
   rw[Y6];exact Wo.of b8 (by rw[Xh,XP,Y6];omega) (show h.n<=h1.n by omega)
 . obtain⟨i,hi,rfl⟩:=Pz hy
   have:=Ir n i;omega
 . refine⟨by rw[WM,H.ZJ,Bp,H.ZJ];omega,λc hc=>?_⟩
   rw[WM,ZX (by omega),Bp,ZX (by omega),xx c (by omega),x3.get c (by omega),xm.get c (by omega),x1.get c hc]
open Go.Zf (ZS)
def SH:List (Nat×Nat×Bool) :=
 [(8,10,false),(4,8,false),(3,2,false),(3,2,false),(4,13,false),(8,7,false),(1,13,false),(1,14,false),(1,8,false),(2,16,true),(1,2,false),(3,3,false),(3,9,false),(1,2,false),(3,3,false),(1,2,false),(3,4,false),(1,4,false),(2,11,true),(2,8,false),(1,3,false),(1,2,false),(4,2,false),(2,5,false),(2,7,false),(2,9,false),(2,11,false),(2,3,true),(10,4,true),(14,4,true),(6,2,false),(3,2,false)]
def cx(k:Nat):Nat:=(SH.getD k (0,0,false)).1
def vl(k:Nat):Nat:=(SH.getD k (0,0,false)).2.1
def NK(k:Nat):Bool:=(SH.getD k (0,0,false)).2.2
variable{k:Nat}
theorem L5(h:k<32):1<=cx k/\cx k<=14:=by
 have:∀k,k<32->1<=cx k/\cx k<=14:=by decide
 exact this k h
theorem Px(h:k<32):2<=vl k/\vl k<=16:=by
 have:∀k,k<32->2<=vl k/\vl k<=16:=by decide
 exact this k h
def tri(s:Nat×Nat×Bool):List V:=[.int .i64 s.1,.int .i64 s.2.1,.bool s.2.2]
def Hz:List V:=SH.flatMap tri
theorem yu{α:Type}(f:α->List V)(hf:∀a,(f a).length=3):∀(l:List α) (k:Nat) (a:α),l[k]?=some a->((l.flatMap f).drop (k*3)).take 3=f a/\k*3+3<=(l.flatMap f).length
 |[],k,a,h=>by simp at h
 |x::l,0,a,h=>by
   simp at h;subst h;rw[List.flatMap_cons,Nat.zero_mul,List.drop_zero,List.take_append_of_le_length (by rw[hf];omega),List.take_of_length_le (by rw[hf];omega)];exact⟨rfl,by rw[List.length_append,hf];omega⟩
 |x::l,k+1,a,h=>by
   have ih:=yu f hf l k a (by simpa using h);rw[List.flatMap_cons,List.drop_append,hf,List.drop_of_length_le (by rw[hf];omega),List.nil_append,show (k+1)*3-3=k*3 by omega];exact⟨ih.1,by rw[List.length_append,hf];omega⟩
theorem yr(h:k<32):SH[k]?=some (cx k,vl k,NK k):=by
 have:∀k,k<32->SH[k]?=some (cx k,vl k,NK k):=by decide
 exact this k h
theorem xJ(h:k<32):(Hz.drop (k*3)).take 3=[.int .i64 (cx k),.int .i64 (vl k),.bool (NK k)]:=(yu tri (λ_=>rfl) SH k _ (yr h)).1
theorem S6:Hz.length=96:=by kernel_rfl
def Om:List V:=(List.replicate 32 [V.int .i64 0,V.int .i64 0,V.bool false]).flatten
theorem LR:Om.length=96:=by kernel_rfl
theorem mM(K:Zs)(L:Yy)(h:H):s36 K L (VC yO []) h=bf (Zx 96 (h.new (.cells Om 95 false)) (.ptr h.n 0) (.agg Hz)) λ_ h1=>some ⟨.rt,⟨[.ptr h.n 0],0,.ptr h.n 0⟩,h1⟩:=by
 have e1:s36 K L (VC yO []) h=sq (bf (Zx 96 (h.new (.cells Om 95 false)) (.ptr h.n 0) (.agg Hz)) λ_ h1=>some ⟨.nm,⟨[.ptr h.n 0],0,.ptr h.n 0⟩,h1⟩) λe h=>some ⟨.rt,e,h⟩:=by kernel_rfl
 rw[e1];cases Zx 96 (h.new (.cells Om 95 false)) (.ptr h.n 0) (.agg Hz)with
 |none=>rfl
 |some x=>obtain⟨a,b⟩:=x;rfl
theorem Sj(h:H):RT (λw h'=>w=.agg Hz/\Ext h h') (KW 36 [] h):=by
 obtain⟨g,hg⟩:∃g,g=(h.new (.cells Om 95 false)).put h.n (.cells Hz 95 false):=⟨_,rfl⟩
 have g0:g.get h.n=some (.cells Hz 95 false):=by rw[hg,ZV (by rw[H.ZP];omega)]
 have hw:(h.new (.cells Om 95 false)).X4 h.n 0 Hz=some g:=by
   rw[ZF (o:=0) ZY (by rw[S6,LR];omega),hg,splice];simp[S6,LR,List.drop_of_length_le]
 rw[W0 r36,mM];simp[S6,hw,ZU (o:=0) (n:=96) g0 (by rw[S6];omega)];exact⟨by rw[List.take_of_length_le (by rw[S6];omega)],by rw[hg];exact ((Ext.refl h).new _).put (Nat.le_refl _) _⟩
theorem EH(k:Int)(h:H):RT (λw h'=>w=(if 0<=k/\k<32 then .Zt [.int .i64 (cx k.toNat),.int .i64 (vl k.toNat),.int .i64 0]else .Zt [.int .i64 0,.int .i64 0,.int .i64 41])/\Ext h h') (KW 86 [.int .i64 k] h):=by
 rw[W1 r86,s86];by_cases h1:k<0
 . simp[h1,Vt]
   exact⟨by rw[if_neg (by omega)],Ext.refl h⟩
 . by_cases h2:32<=k
   .simp[h1,h2]
    exact⟨by rw[if_neg (by omega)],Ext.refl h⟩
   .obtain⟨w,g,e1,rfl,x1⟩:=(Sj h).elim
    obtain⟨n,rfl⟩:∃n:Nat,k=n:=⟨k.toNat,by omega⟩
    have hn:n<32:=by omega
    have Al:y9 32 3 (.agg Hz) (.int .i64 (n:Int))=some (.agg [.int .i64 (cx n),.int .i64 (vl n),.bool (NK n)]):=by
     simp only[y9,Int.toNat_natCast];rw[if_pos ⟨by omega,by omega⟩,if_pos (by rw[S6];omega),xJ hn]
    obtain⟨g2,XQ⟩:∃g2,g2=(g.new (.cells [.int .i64 0,.int .i64 0,.bool false] 94 false)).put g.n (.cells [.int .i64 (cx n),.int .i64 (vl n),.bool (NK n)] 94 false):=⟨_,rfl⟩
    have r2:g2.get g.n=some (.cells [.int .i64 (cx n),.int .i64 (vl n),.bool (NK n)] 94 false):=by rw[XQ,ZV (by rw[H.ZP];omega)]
    simp[h1,h2,show ¬32<=n by omega,e1,Al,nw,ZF (o:=0) ZY,splice,<-XQ,ZZ r2];exact⟨by rw[if_pos (by omega)],by rw[XQ];exact (x1.new _).put x1.n _⟩
open Go.Zf (ZS)
def Yw(S:List (List Tb)):Prop:=S.length=32/\∀(k:Nat) (r:List Tb),S[k]?=some r->r.length=cx k/\∀(i:Nat) (t:Tb),r[i]?=some t->t.c.length=vl k/\YP t
noncomputable instance (S:List (List Tb)):Decidable (Yw S):=Classical.propDecidable _
def Uk(k:Nat):Tb:=if NK k then XP (vl k)else Va (vl k)
def Ol(k:Nat):List Tb:=List.replicate (cx k) (Uk k)
def QC:List (List Tb):=(List.range 32).map Ol
theorem TG(f:Nat->Nat)(h:i<m):nth (Wf f m) i=f i:=by
 rw[Qy (by rw[Y6];exact h)];simp[Wf]
theorem xI(h2:2<=n)(HB:n<=16):YP (Va n):=by
 refine⟨by simp only[Va,Y6];omega,by simp[Va],?_,?_⟩
 . intro i hi
   simp only[Va,Y6]at hi ⊢;rw[TG _ (by omega),TG _ hi];exact Nat.div_le_div_right (Nat.mul_le_mul_left _ (by omega))
 . simp only[Va,Y6]
   rw[TG _ (by omega),KC,show n-1+1=n by omega,Nat.mul_div_cancel _ (by omega)]
theorem Bn(h2:2<=n)(HB:n<=16):YP (XP n):=by
 refine⟨by simp only[XP,Y6];omega,by simp[XP],?_,?_⟩
 . intro i hi
   simp only[XP,Y6]at hi ⊢;rw[TG _ (by omega),TG _ hi];have h1:=Ir n i;unfold Py at h1 ⊢;rw[if_neg (by omega)]at h1 ⊢;split
   .exact h1
   .have:32768/pw (i+1+1)<=32768/pw (i+1):=by
     rw[<-GN (i+1) (by omega)];exact Nat.div_le_self _ _
    exact Nat.sub_le_sub_left this _
 . simp only[XP,Y6]
   rw[TG _ (by omega),Py,if_pos (by omega)]
theorem Dd(hk:k<32):YP (Uk k)/\(Uk k).c.length=vl k:=by
 have:=Px hk;unfold Uk;split
 . exact⟨Bn this.1 this.2,by simp[XP,Y6]⟩
 . exact⟨xI this.1 this.2,by simp[Va,Y6]⟩
theorem GC:QC.length=32:=by simp[QC]
theorem xH(hk:k<32):QC[k]?=some (Ol k):=by simp[QC,hk]
theorem MU:Yw QC:=by
 refine⟨GC,λk r hr=>?_⟩;have hk:k<32:=by
   by_cases e:k<32
   .exact e
   .rw[List.getElem?_eq_none (by rw[GC];omega)]at hr;cases hr
 rw[xH hk]at hr;cases hr;refine⟨by simp[Ol],λi t ht=>?_⟩;have:t=Uk k:=by
   unfold Ol at ht;rw[List.getElem?_replicate]at ht;split at ht
   .cases ht;rfl
   .cases ht
 subst this;exact⟨(Dd hk).2,(Dd hk).1⟩
def Sn(D:Nat->Prop)(h:H)(v:V)(b:Nat)(r:List Tb):Prop :=
 (v=.ZO/\r=[])\/∃k c,v=.sl b 0 r.length k/\h.get b=some (.cells c tT false)/\c.length=r.length*2/\D b/\Ts D h c r/\LX 2 r.length k
def Si(D:Nat->Prop)(h:H)(cs:List V)(S:List (List Tb))(B:Nat->Nat):Prop :=
 (∀(k:Nat) (r:List Tb),S[k]?=some r->∃vr,cs[k]?=some vr/\Sn D h vr (B k) r)/\∀i j,i<j->j<S.length->B i<B j
def WD(D:Nat->Prop)(h:H)(v:V)(S:List (List Tb)):Prop :=
 ∃cs B,((v=.ZO/\S=[]/\cs=[])\/∃b k,v=.sl b 0 S.length k/\h.get b=some (.cells cs tR false)/\cs.length=S.length/\D b/\LX 1 S.length k)/\Si D h cs S B
section ni
variable{D E:Nat->Prop}{h h':H}{v:V}
variable{r:List Tb}
theorem Sn.dt(a:Sn D h v b r):UC D h v r:=by
 rcases a with ⟨rfl,rfl⟩|⟨k,c,h1,h2,h3,h4,h5,h6⟩
 . exact⟨[],Wo.nil _ _ _ _,Ts.nil _ _⟩
 . exact⟨c,by rw[h1];exact Wo.of h2 h3 h4 h6,h5⟩
theorem Sn.keep(a:Sn D h v b r)(hk:∀b c t,D b->t=tU\/t=tT->h.get b=some (.cells c t false)->h'.get b=h.get b):Sn D h' v b r:=by
 rcases a with a|⟨k,c,h1,h2,h3,h4,h5,h6⟩
 . exact .inl a
 . exact .inr ⟨k,c,h1,by rw[hk b c tT h4 (.inr rfl) h2,h2],h3,h4,h5.keep (λb c hd hb=>hk b c tU hd (.inl rfl) hb),h6⟩
theorem Sn.mono(a:Sn D h v b r)(hd:∀b,b<h.n->D b->E b):Sn E h v b r:=by
 rcases a with a|⟨k,c,h1,h2,h3,h4,h5,h6⟩
 . exact .inl a
 . exact .inr ⟨k,c,h1,h2,h3,hd _ (H.ZW h2) h4,h5.mono hd,h6⟩
variable{S:List (List Tb)}{B:Nat->Nat}
theorem Si.keep(a:Si D h cs S B)(hk:∀b c t,D b->t=tU\/t=tT->h.get b=some (.cells c t false)->h'.get b=h.get b):Si D h' cs S B :=
 ⟨λk r hr=>by obtain⟨vr,h1,h2⟩:=a.1 k r hr;exact⟨vr,h1,h2.keep hk⟩,a.2⟩
theorem Si.mono(a:Si D h cs S B)(hd:∀b,b<h.n->D b->E b):Si E h cs S B :=
 ⟨λk r hr=>by obtain⟨vr,h1,h2⟩:=a.1 k r hr;exact⟨vr,h1,h2.mono hd⟩,a.2⟩
theorem WD.keep(a:WD D h v S)(hk:∀b,D b->b<h.n->h'.get b=h.get b):WD D h' v S:=by
 obtain⟨cs,B,h1,h2⟩:=a;refine⟨cs,B,?_,h2.keep λb c t hd _ hb=>hk b hd (H.ZW hb)⟩;rcases h1 with a|⟨b,k,a1,a2,a3,a4,a5⟩
 . exact .inl a
 . exact .inr ⟨b,k,a1,by rw[hk b a4 (H.ZW a2),a2],a3,a4,a5⟩
theorem WD.ext(a:WD D h v S)(x:Ext h h'):WD D h' v S:=a.keep λb _ hb=>x.get b hb
theorem WD.mono(a:WD D h v S)(hd:∀b,b<h.n->D b->E b):WD E h v S:=by
 obtain⟨cs,B,h1,h2⟩:=a;refine⟨cs,B,?_,h2.mono hd⟩;rcases h1 with a|⟨b,k,a1,a2,a3,a4,a5⟩
 . exact .inl a
 . exact .inr ⟨b,k,a1,a2,a3,hd _ (H.ZW a2) a4,a5⟩
theorem WD.OB(a:WD D h v S):Xe D h v S:=by
 obtain⟨cs,B,h1,h2⟩:=a;refine⟨cs,?_,λk r hr=>by obtain⟨vr,k1,k2⟩:=h2.1 k r hr;exact⟨vr,k1,k2.dt⟩⟩;rcases h1 with ⟨rfl,rfl,rfl⟩|⟨b,k,rfl,a2,a3,a4,a5⟩
 . exact Wo.nil _ _ _ _
 . exact Wo.of a2 (by omega) a4 a5
variable{vr:V}
theorem dr(G:Zv p g v tR 1 cs S.length)(e:Si D g cs S B)(hB:∀i,i<S.length->B i<q)(R:∃bb,Sn D g vr bb r/\q<=bb/\bb<=g.n)(hp:p<=g.n)(hq:q<=g.n)(hl:S.length<1000):
   ∃v' g' B',Vk 98 1 24 (g.new (.cells [vr] 98 false)) v (.sl g.n 0 1 (.ex 1))=some (v',g')/\Zv p g' v' tR 1 (cs++[vr]) (S++[r]).length/\Si D g' (cs++[vr]) (S++[r]) B'/\(∀i,i<(S++[r]).length->B' i<g'.n)/\g.n<=g'.n/\(∀c,c<g.n->(∀o n k,v≠.sl c o n k)->g'.get c=g.get c):=by
 have g1:=G.ext ((Ext.refl g).new (.cells [vr] 98 false));obtain⟨v',g',k1,k2,k3,k4',k5⟩:=Vq (y:=.sl g.n 0 1 (.ex 1)) (m:=1) (new:=[vr]) (bytes:=24) g1 (by rw[H.ZP];omega) rfl (by
   show H.Ze _ _ _ _=_
   rw[ZU ZY (by simp)];rfl) (by simp) (by omega)
 have k4:∀c,c<g.n->(∀o n k,v≠.sl c o n k)->g'.get c=g.get c:=λc hc hv=>by rw[k4' c (by rw[H.ZP];omega) hv,ZR hc]
 rw[H.ZP]at k3;have hcs:cs.length=S.length:=by
   rcases G with ⟨_,h2,rfl⟩|⟨b,_,_,h3,_⟩
   .simp[h2]
   .omega
 have hty:∀b c t,D b->t=tU\/t=tT->g.get b=some (.cells c t false)->g'.get b=g.get b:=by
   intro b c t hd ht hb;refine k4 b (H.ZW hb) ?_;intro o n k ev;rcases G with ⟨h1,_,_⟩|⟨b',h1,h2,_⟩
   .rw[h1]at ev;cases ev
   .rw[h1]at ev;cases ev;rw[h2]at hb
    simp only[Option.some.injEq,WI.cells.injEq]at hb;rcases ht with rfl|rfl<;>(obtain⟨_,hb,_⟩:=hb;cases hb)
 obtain⟨bb,KA,hbq,hbn⟩:∃bb,Sn D g vr bb r/\q<=bb/\bb<g'.n:=by
   obtain⟨bb,a1,a2,a3⟩:=R;exact⟨bb,a1,a2,by omega⟩
 refine⟨v',g',λi=>if i=S.length then bb else B i,k1,by rw[List.length_append];exact k2,⟨λk r' hr=>?_,λi j Ud hj=>?_⟩,λi hi=>?_,by omega,k4⟩
 . by_cases ek:k<S.length
   .rw[List.getElem?_append_left ek]at hr
    obtain⟨vr',j1,j2⟩:=e.1 k r' hr;refine⟨vr',by rw[List.getElem?_append_left (by omega),j1],?_⟩;simp only[if_neg (show k≠S.length by omega)];exact j2.keep hty
   .have ek2:k=S.length:=by
     by_cases e2:k=S.length
     .exact e2
     .rw[List.getElem?_eq_none (by simp;omega)]at hr;cases hr
    subst ek2;simp at hr;subst hr;refine⟨vr,by rw[List.getElem?_append_right (by omega),hcs];simp,?_⟩;simp only[if_true];exact KA.keep hty
 . simp only[List.length_append,List.length_cons,List.length_nil]at hj
   by_cases ej:j=S.length
   .simp only[if_neg (show i≠S.length by omega),if_pos ej]
    have:=hB i (by omega);omega
   .simp only[if_neg (show i≠S.length by omega),if_neg ej]
    exact e.2 i j Ud (by omega)
 . simp only[List.length_append,List.length_cons,List.length_nil]at hi
   by_cases ei:i=S.length
   .simp only[if_pos ei];exact hbn
   .simp only[if_neg ei]
    have:=hB i (by omega);omega
theorem S5(hl:o+2<=cs.length):(splice cs o [x,y])[j]?=if j=o then some x else if j=o+1 then some y else cs[j]?:=by
 unfold splice;by_cases h1:j<o
 . rw[List.getElem?_append_left (by rw[List.length_take];omega),List.getElem?_take,if_pos h1,if_neg (by omega),if_neg (by omega)]
 . rw[List.getElem?_append_right (by rw[List.length_take];omega),List.length_take,Nat.min_eq_left (by omega)]
   by_cases h2:j=o
   .rw[if_pos h2,h2,Nat.sub_self];rfl
   .by_cases h3:j=o+1
    .rw[if_neg h2,if_pos h3,h3,Nat.add_sub_cancel_left];rfl
    .rw[if_neg h2,if_neg h3,List.getElem?_append_right (by simp;omega),List.getElem?_drop]
     congr 1
     simp;omega
theorem LQ{vs:List V}(hl:o+vs.length<=cs.length):(splice cs o vs).length=cs.length:=by
 unfold splice;simp;omega
variable{vc:V}
theorem Ts.set(a:Ts D h cs r)(hl:cs.length=r.length*2)(hi:i<r.length)(u:VE D h vc t.c):Ts D h (splice cs (i*2) [vc,.int .i64 t.n]) (r.set i t):=by
 intro j s hj;rw[List.getElem?_set]at hj;rw[S5 (by omega),S5 (by omega)];by_cases e:i=j
 . subst e
   rw[if_pos rfl,if_pos hi]at hj;cases hj;exact⟨vc,by rw[if_pos (by omega)],by rw[if_neg (by omega),if_pos (by omega)],u⟩
 . rw[if_neg e]at hj
   obtain⟨v,h1,h2,h3⟩:=a j s hj;exact⟨v,by rw[if_neg (by omega),if_neg (by omega),h1],by rw[if_neg (by omega),if_neg (by omega),h2],h3⟩
end ni
open Go.Zf (ZS)
def Iq(k:Nat):List (List Tb):=(List.range k).map Ol
theorem GM(k:Nat):(Iq k).length=k:=by simp[Iq]
theorem Ow(k:Nat):Iq (k+1)=Iq k++[Ol k]:=by simp[Iq,List.range_succ]
def QY(p Q:Nat)(g:H)(S:List (List Tb)):Prop :=
 ∃ov cs B,g.get Q=some (.cells [ov] 30 false)/\Zv p g ov tR 1 cs S.length/\Si (λb=>p<=b) g cs S B/\∀i,i<S.length->B i<g.n
variable{Q:Nat}{g':H}{S:List (List Tb)}
theorem QY.keep(a:QY p Q g S)(hQ:Q<p)(hn:g.n<=g'.n)(hk:∀c,c<g.n->g'.get c=g.get c):QY p Q g' S:=by
 obtain⟨ov,cs,B,h1,h2,h3,h4⟩:=a;exact⟨ov,cs,B,by rw[hk _ (H.ZW h1),h1],h2.keep λc o m k e=>hk c (h2.under _ _ _ _ e),h3.keep λb c t _ _ hb=>hk b (H.ZW hb),λi hi=>by have:=h4 i hi;omega⟩
variable{r:List Tb}
theorem QY.push(a:QY p Q g S)(hQ:Q<p)(hg:∀c,c<g.n->g'.get c=g.get c)(hn:g.n<=g'.n)(hp:p<=g.n)(R:∃bb,Sn (λb=>p<=b) g' v bb r/\g.n<=bb/\bb<=g'.n)(hl:S.length<1000):
   ∃ov v' g1 g2,g'.get Q=some (.cells [ov] 30 false)/\Vk 98 1 24 (g'.new (.cells [v] 98 false)) ov (.sl g'.n 0 1 (.ex 1))=some (v',g1)/\g1.WO Q 0 v'=some g2/\(∀h b o,Zx 1 h (.ptr b o) v'=(h.WO b o v').bind λh'=>some (.Wz,h'))/\QY p Q g2 (S++[r])/\(∀c,c<p->c≠Q->g2.get c=g.get c)/\g'.n<=g2.n/\(∀{β:Type} (k:Option β),ck (some ov) ov k=k):=by
 obtain⟨ov,cs,B,h1,h2,h3,h4⟩:=a;replace h2:Zv p g' ov tR 1 cs S.length:=h2.keep λc o m k e=>hg c (h2.under _ _ _ _ e);replace h3:Si (λb=>p<=b) g' cs S B:=h3.keep λb c t _ _ hb=>hg b (H.ZW hb);replace h1:g'.get Q=some (.cells [ov] 30 false):=by rw[hg _ (H.ZW h1),h1]
 obtain⟨v',g1,B',k1,k2,k3,k4,k5,k6⟩:=dr (q:=g.n) h2 h3 h4 R (by omega) hn hl;have hQ1:g1.get Q=some (.cells [ov] 30 false):=by rw[k6 Q (by omega) (h2.fresh.ne hQ),h1]
 obtain⟨g2,XQ⟩:∃g2,g2=g1.put Q (.cells [v'] 30 false):=⟨_,rfl⟩
 have n2:g2.n=g1.n:=by rw[XQ,H.ZJ]
 refine⟨ov,v',g1,g2,h1,k1,by rw[Zw hQ1 (by simp),XQ];rfl,k2.Zx,⟨v',cs++[v],B',by rw[XQ,ZV (H.ZW hQ1)],?_,?_,λi hi=>by have:=k4 i hi;omega⟩,λc hc JW=>by rw[XQ,ZX JW,k6 c (by omega) (h2.fresh.ne hc),hg c (by omega)],by omega,λk=>by simp[ck,h2.same]⟩
 . rw[XQ];exact k2.put (k2.fresh.ne hQ)
 . refine k3.keep λb c t hb ht ze=>?_
   rw[XQ,ZX];rintro rfl;have hb:p<=b:=hb;omega
theorem QY.nil(h:g.get Q=some (.cells [.ZO] 30 false)):QY p Q g [] :=
 ⟨.ZO,[],λ_=>0,h,Zv.nil _ _ _ _,⟨λk r hr=>by simp at hr,λi j _ hj=>by simp at hj⟩,λi hi=>by simp at hi⟩
theorem QY.EU(a:QY p Q g S):∃v,g.get Q=some (.cells [v] 30 false)/\WD (λb=>p<=b) g v S:=by
 obtain⟨ov,cs,B,h1,h2,h3,h4⟩:=a;refine⟨ov,h1,cs,B,?_,h3⟩;rcases h2 with ⟨e1,e2,e3⟩|⟨b,e1,e2,e3,e4⟩
 . exact .inl ⟨e1,List.length_eq_zero_iff.mp e2,e3⟩
 . exact .inr ⟨b,_,e1,e2,by omega,e4,rfl⟩
open Go.Zf (ZS)
theorem GB(n:Nat)(l:List V):(Vu n l).length=n*l.length:=by
 induction n with
 |zero=>simp[Vu]
 |succ n ih=>simp[Vu,ih,Nat.add_mul];omega
theorem Ts.zeros(D:Nat->Prop)(h:H):∀n:Nat,Ts D h (Vu n [V.ZO,V.int .i64 0]) (List.replicate n ⟨[],0⟩)
 |0=>λi t hi=>by simp at hi
 |n+1=>λi t hi=>by
   have ih:=Ts.zeros D h n;cases i with
   |zero =>
    simp[List.replicate_succ]at hi;subst hi;exact⟨.ZO,rfl,rfl,Wo.nil _ _ _ _,λx hx=>by simp at hx⟩
   |succ i =>
    rw[List.replicate_succ]at hi;obtain⟨vc,h1,h2,h3⟩:=ih i t (by simpa using hi);refine⟨vc,?_,?_,h3⟩
    .show (V.ZO::V.int .i64 0::Vu n _)[2*(i+1)]?=_
     rw[show 2*(i+1)=2*i+1+1 by omega];simpa using h1
    .show (V.ZO::V.int .i64 0::Vu n _)[2*(i+1)+1]?=_
     rw[show 2*(i+1)+1=2*i+1+1+1 by omega];simpa using h2
def Qt(k c:Nat):List Tb:=(List.range (cx k)).map λi=>if i<c then Uk k else ⟨[],0⟩
theorem GA(k c:Nat):(Qt k c).length=cx k:=by simp[Qt]
theorem Bm(k:Nat):Qt k 0=List.replicate (cx k) ⟨[],0⟩:=by
 apply List.ext_getElem
 . simp[Qt]
 . intro i h1 h2;simp[Qt]
theorem xG(k:Nat):Qt k (cx k)=Ol k:=by
 apply List.ext_getElem
 . simp[Qt,Ol]
 . intro i h1 h2
   have:i<cx k:=by simpa [Qt]using h1
   simp[Qt,Ol,this]
theorem xD(k c:Nat):(Qt k c).set c (Uk k)=Qt k (c+1):=by
 apply List.ext_getElem
 . simp[Qt]
 . intro i h1 h2
   rw[List.getElem_set];simp only[Qt,List.getElem_map,List.getElem_range];by_cases e:c=i
   .subst e;simp
   .simp only[e,if_false]
    by_cases h:i<c
    .simp[h,Nat.lt_succ_of_lt h]
    .rw[if_neg h,if_neg (by omega)]
structure I27(h0:H)(q k b sp:Nat)(n:Nat)(e:E)(g:H)(e0:E):Prop where
 hn:n<=cx k
 x:∀c,c<h0.n->c≠b->g.get c=h0.get c
 gn:h0.n<=g.n
 r:∃cs,g.get b=some (.cells cs tT false)/\cs.length=cx k*2/\Ts (λc=>q<=c) g cs (Qt k (cx k-n))
 e3:e.s [0,1,3,4,5,6,7,8,17,18] 3=.ptr sp 0
 e4:e.s [0,1,3,4,5,6,7,8,17,18] 4=.fn (.func (if NK k then 38 else 37)) [] []
 e5:e.s [0,1,3,4,5,6,7,8,17,18] 5=.sl b 0 (cx k) (.ex (cx k))
 EG:e.s [0,1,3,4,5,6,7,8,17,18] 17=.int .i64 (cx k)
 xC:e.s [0,1,3,4,5,6,7,8,17,18] 18=.int .i64 ((cx k-n:Nat):Int)
 ke:QO [0,1,3,4,5,6,7,8,17,18] [0,1,7,8] e e0
theorem sa(hk:k<32)(h:H):RT (λw h'=>∃vt,w=.Zt [vt,.int .i64 0]/\GP h.n h' vt (Uk k)/\Ext h h') (KW (if NK k then 38 else 37) [.int .i64 (vl k)] h):=by
 have hv:=Px hk;unfold Uk;cases NK k with
 |false=>exact Bq hv.1 hv.2 h
 |true=>exact EI hv.1 hv.2 h
theorem xB(k:Nat):(Uk k).n=0:=by unfold Uk;cases NK k<;>rfl
variable{sp:Nat}
theorem mL(hk:k<32)(xA:h0.get sp=some (.cells [.int .i64 (cx k),.int .i64 (vl k),y] 94 false))(hsb:sp≠b)(hb:b<h0.n)(hq:q<=h0.n){e0:E}(hi:I27 h0 q k b sp (cx k) e g e0):
   ∃e' g',ZI (yR KW ZI) e g=some ⟨.ex 2,e',g'⟩/\I27 h0 q k b sp 0 e' g' e0:=by
 have hv:=Px hk;have eA:=L5 hk;have loop:=Zd (body:=yR KW ZI) (λn e g=>I27 h0 q k b sp n e g e0) (λs=>s.x=.ex 2/\I27 h0 q k b sp 0 s.e s.h e0)
   (λn e g hi=>by
    obtain⟨hn,x,gn,⟨cs,B,L,G⟩,e3,e4,e5,EG,xC,ke⟩:=hi;have i0:=ke 0 (by simp);have i1:=ke 1 (by simp);have i7:=ke 7 (by simp);have i8:=ke 8 (by simp);cases n with
    |zero =>
     simp[yR,EG,xC];exact⟨rfl,hn,x,gn,⟨cs,B,L,G⟩,by simp[e3],by simp[e4],by simp[e5],by simp[EG],by simp[xC],λi hm=>by
      simp only[List.mem_cons,List.not_mem_nil,or_false]at hm;rcases hm with rfl|rfl|rfl|rfl<;>simp[i0,i1,i7,i8]⟩
    |succ n =>
     obtain⟨c,hc⟩:∃c,c=cx k-(n+1):=⟨_,rfl⟩
     have MS:cx k-n=c+1:=by omega
     rw[<-hc]at xC G;have z1:IntKind.i64.wrap ((c:Int)+1)=c+1:=ZS (by omega) (by omega);have gsp:g.get sp=_:=(x sp (H.ZW xA) hsb).trans xA;obtain⟨w,g1,a1,vt,rfl,⟨vc,rfl,U⟩,x1⟩:=(sa hk g).elim;rw[xB]at a1;have B1:g1.get b=_:=(x1.get _ (H.ZW B)).trans B;have G1:=(G.ext x1).set (i:=c) (vc:=vc) (t:=Uk k) (by rw[L,GA]) (by rw[GA];omega) (U.mono λd _ hd=>Nat.le_trans (Nat.le_trans hq gn) hd);rw[xD,xB]at G1;obtain⟨g2,XQ⟩:∃g2,g2=g1.put b (.cells (splice cs (c*2) [vc,.int .i64 0]) 101 false):=⟨_,rfl⟩
     have hw:g1.X4 b (c*2) [vc,.int .i64 0]=some g2:=by rw[ZF B1 (by simp;omega),XQ]
     have G2:Ts (λc=>q<=c) g2 (splice cs (c*2) [vc,.int .i64 0]) (Qt k (c+1)):=G1.keep λd cd _ hd=>by
      rw[XQ,ZX];rintro rfl;rw[B1]at hd;cases hd
     have n1:=x1.n;simp[yR,EG,xC,show c<cx k by omega,show (c:Int)<cx k by omega,e3,ZZ gsp,e4,Ww,a1,e5,hw,z1];exact⟨n,Nat.lt_succ_self n,by omega,λd hd xK=>by rw[XQ,ZX xK,x1.get d (by omega),x d hd xK],by rw[XQ,H.ZJ];omega,⟨_,by rw[XQ,ZV (H.ZW B1)],by rw[LQ (by simp;omega),L],by rw[MS];exact G2⟩,by simp[e3],by simp[e4],by simp[e5],by simp[EG],by simp[MS],λi hm=>by
      simp only[List.mem_cons,List.not_mem_nil,or_false]at hm;rcases hm with rfl|rfl|rfl|rfl<;>simp[i0,i1,i7,i8]⟩)
 obtain⟨⟨x,e',g'⟩,r1,r2,r3⟩:=loop (cx k) e g hi;simp only at r2 r3;subst r2;exact⟨e',g',r1,r3⟩
structure O27(h0:H)(P Q:Nat)(n:Nat)(e:E)(g:H):Prop where
 hn:n<=32
 x:∀c,c<h0.n->c≠Q->g.get c=h0.get c
 gn:h0.n<=g.n
 b:QY h0.n Q g (Iq (32-n))
 e0:e.s [0,1,3,4,5,6,7,8,17,18] 0=.ptr P 0
 e1:e.s [0,1,3,4,5,6,7,8,17,18] 1=.ptr Q 0
 e7:e.s [0,1,3,4,5,6,7,8,17,18] 7=.agg Hz
 e8:e.s [0,1,3,4,5,6,7,8,17,18] 8=.int .i64 ((32-n:Nat):Int)
theorem LP(hn:n<32):y9 32 3 (.agg Hz) (.int .i64 (n:Int))=some (.agg [.int .i64 (cx n),.int .i64 (vl n),.bool (NK n)]):=by
 simp only[y9,Int.toNat_natCast];rw[if_pos ⟨by omega,by omega⟩,if_pos (by rw[S6];omega),xJ hn]
theorem Tf(h:H):RT (λw h'=>∃v,w=.agg [v]/\WD (λb=>h.n<=b) h' v QC/\Ext h h') (KW 9 [] h):=by
 obtain⟨h1,ZL⟩:∃g,g=h.new (.cells [.ZO] 30 false):=⟨_,rfl⟩
 obtain⟨h2,Zq⟩:∃g,g=h1.new (.cells [.ZO] 30 false):=⟨_,rfl⟩
 have x1:Ext h h1:=by rw[ZL];exact (Ext.refl h).new _
 have x2:Ext h1 h2:=by rw[Zq];exact (Ext.refl h1).new _
 have n1:h1.n=h.n+1:=by rw[ZL,H.ZP]
 have n2:h2.n=h1.n+1:=by rw[Zq,H.ZP]
 obtain⟨w,h3,e53,rfl,x3⟩:=(Sj h2).elim;have n3:=x3.n;have gP:h3.get h.n=some (.cells [.ZO] 30 false):=by rw[x3.get _ (by omega),x2.get _ (by omega),ZL,ZY]
 have gQ:h3.get h1.n=some (.cells [.ZO] 30 false):=by rw[x3.get _ (by omega),Zq,ZY]
 have loop:=Zd (body:=yQ KW ZI) (O27 h3 h.n h1.n) (λs=>s.x=.ex 0/\O27 h3 h.n h1.n 0 s.e s.h)
   (λn e g hi=>by
    obtain⟨hn,x,gn,b,e0,e1,e7,e8⟩:=hi;cases n with
    |zero =>
     simp[yQ,e8];exact⟨rfl,hn,x,gn,b,by simp[e0],by simp[e1],by simp[e7],by simp[e8]⟩
    |succ n =>
     obtain⟨k,hk⟩:∃k,k=32-(n+1):=⟨_,rfl⟩
     have SF:32-n=k+1:=by omega
     have VW:k<32:=by omega
     rw[<-hk]at e8 b;have eA:=L5 VW;have z1:IntKind.i64.wrap ((k:Int)+1)=k+1:=ZS (by omega) (by omega);obtain⟨g1,SG⟩:∃g1,g1=(g.new (.cells [.int .i64 0,.int .i64 0,.bool false] 94 false)).put g.n (.cells [.int .i64 (cx k),.int .i64 (vl k),.bool (NK k)] 94 false):=⟨_,rfl⟩
     have y1:Ext g g1:=by rw[SG];exact ((Ext.refl g).new _).put (Nat.le_refl _) _
     have m1:g1.n=g.n+1:=by rw[SG,H.ZJ,H.ZP]
     have r1:g1.get g.n=some (.cells [.int .i64 (cx k),.int .i64 (vl k),.bool (NK k)] 94 false):=by rw[SG,ZV (by rw[H.ZP];omega)]
     obtain⟨g2,XQ⟩:∃g2,g2=g1.new (.cells (Vu (cx k) [.ZO,.int .i64 0]) 101 false):=⟨_,rfl⟩
     have y2:Ext g1 g2:=by rw[XQ];exact (Ext.refl g1).new _
     have m2:g2.n=g1.n+1:=by rw[XQ,H.ZP]
     have r2:g2.get g1.n=some (.cells (Vu (cx k) [.ZO,.int .i64 0]) 101 false):=by rw[XQ,ZY]
     have jR:g2.get g.n=_:=(y2.get _ (H.ZW r1)).trans r1;have pX:ms g1 101 32 [.ZO,.int .i64 0] (.int .i64 (cx k)) (.int .i64 (cx k))=some (.sl g1.n 0 (cx k) (.ex (cx k)),g2):=by
      simp only[ms];rw[if_pos ⟨by omega,by omega,by omega,by omega,trivial⟩,Int.toNat_natCast,<-XQ]
     obtain⟨f,g3,j1,I⟩:=mL (h0:=g2) (q:=g.n) (k:=k) (b:=g1.n) (sp:=g.n) (y:=.bool (NK k)) VW jR (by omega) (by omega) (by omega)
      (e0:=⟨[.ptr h.n 0,.ptr h1.n 0,.ptr g.n 0,.fn (.func (if NK k then 38 else 37)) [] [],.sl g1.n 0 (cx k) (.ex (cx k)),e.s [0,1,3,4,5,6,7,8,17,18] 6,.agg Hz,.int .i64 k,.int .i64 (cx k),.int .i64 0],18,.int .i64 0⟩)
      (e:=⟨[.ptr h.n 0,.ptr h1.n 0,.ptr g.n 0,.fn (.func (if NK k then 38 else 37)) [] [],.sl g1.n 0 (cx k) (.ex (cx k)),e.s [0,1,3,4,5,6,7,8,17,18] 6,.agg Hz,.int .i64 k,.int .i64 (cx k),.int .i64 0],18,.int .i64 0⟩) (g:=g2)
      ⟨Nat.le_refl _,λ_ _ _=>rfl,Nat.le_refl _,⟨_,r2,by rw[GB];rfl,by rw[Nat.sub_self,Bm];exact Ts.zeros _ _ _⟩,by simp,by simp,by simp,by simp,by simp,λi _=>rfl⟩
     obtain⟨_,x',nh,⟨cs,B,L,G⟩,f3,f4,f5,f17,f18,ke⟩:=I;have i0:=ke 0 (by simp);have i1:=ke 1 (by simp);have i7:=ke 7 (by simp);have i8:=ke 8 (by simp);simp at i0 i1 i7 i8;rw[Nat.sub_zero,xG]at G;have hRW:∃bb,Sn (λb=>h3.n<=b) g3 (.sl g1.n 0 (cx k) (.ex (cx k))) bb (Ol k)/\g.n<=bb/\bb<=g3.n :=
      ⟨g1.n,.inr ⟨.ex (cx k),cs,by simp[Ol],B,by rw[L];simp[Ol],(show h3.n<=g1.n by omega),G.mono (λb _ hb=>Nat.le_trans gn hb),by simp[LX,Ol]⟩,by omega,by omega⟩
     obtain⟨ov,v',g4,g5,c1,c2,c3,c4,c5,c6,c7,c8⟩:=b.push (g':=g3) (by omega) (λc hc=>by rw[x' c (by omega) (by omega),y2.get c (by omega),y1.get c hc]) (by omega) gn hRW (by rw[GM];omega);cases hs:NK k with
     |false =>
      rw[hs]at j1 SG r1;simp only[Bool.false_eq_true,if_false]at j1;simp[yQ,e8,VW,show (k:Int)<32 by omega,e7,LP VW,hs,nw,ZF (o:=0) ZY,splice,<-SG,ZZ r1,pX,e0,e1,j1,i1,ZZ c1,f5,bs,YD,c2,c4,c3,i8,z1];exact⟨n,Nat.lt_succ_self n,by omega,λc hc JW=>by rw[c6 c hc JW,x c hc JW],by omega,by rw[SF,Ow];exact c5,by simp[i0],by simp[i1],by simp[i7],by simp[SF]⟩
     |true =>
      rw[hs]at j1 SG r1;simp only[if_true]at j1;simp[yQ,e8,VW,show (k:Int)<32 by omega,e7,LP VW,hs,nw,ZF (o:=0) ZY,splice,<-SG,ZZ r1,pX,e0,e1,j1,i1,ZZ c1,f5,bs,YD,c2,c4,c3,i8,z1];exact⟨n,Nat.lt_succ_self n,by omega,λc hc JW=>by rw[c6 c hc JW,x c hc JW],by omega,by rw[SF,Ow];exact c5,by simp[i0],by simp[i1],by simp[i7],by simp[SF]⟩)
 obtain⟨⟨sx,se,sh⟩,q1,q2,I⟩:=loop 32 ⟨[.ptr h.n 0,.ptr h1.n 0,.Zt [],.Zt [],.Zt [],.Zt [],.agg Hz,.int .i64 0,.Zt [],.Zt []],8,.int .i64 0⟩ h3 ⟨Nat.le_refl _,λ_ _ _=>rfl,Nat.le_refl _,QY.nil gQ,by simp,by simp,by simp,by simp⟩;simp only at q2 I;subst q2;obtain⟨_,x,gn,b,e0,e1,e7,e8⟩:=I;obtain⟨v,sQ,W⟩:=b.EU;have sP:sh.get h.n=some (.cells [.ZO] 30 false):=by rw[x _ (by omega) (by omega),gP]
 obtain⟨h8,WM⟩:∃g,g=sh.put h.n (.cells [v] 30 false):=⟨_,rfl⟩
 have r8:h8.get h.n=some (.cells [v] 30 false):=by rw[WM,ZV (H.ZW sP)]
 rw[W0 r9,s9];simp[nw,<-ZL,<-Zq,e53,q1,e1,ZU (o:=0) (n:=1) sQ (by simp),e0,ZF (o:=0) sP,splice,<-WM,ZU (o:=0) (n:=1) r8 (by simp)];refine⟨v,rfl,?_,?_⟩
 . have W8:WD (λb=>h3.n<=b) h8 v (Iq (32-0)):=W.keep λb hb _=>by rw[WM,ZX];have hb:h3.n<=b:=hb;omega
   exact W8.mono λb _ hb=>by have hb:h3.n<=b:=hb;show h.n<=b;omega
 . refine⟨by rw[WM,H.ZJ];omega,λc hc=>?_⟩
   rw[WM,ZX (by omega),x c (by omega) (by omega),x3.get c (by omega),x2.get c (by omega),x1.get c hc]
open Go.Zf (ZS)
def Small(S:List (List Tb)):Prop:=S.length<1000/\∀(k:Nat) (r:List Tb),S[k]?=some r->r.length<1000/\∀(i:Nat) (t:Tb),r[i]?=some t->t.c.length<1000
theorem Yw.small(a:Yw S):Small S:=by
 refine⟨by rw[a.1];omega,λk r hr=>?_⟩;have hk:k<32:=by
   by_cases e:k<S.length
   .rw[a.1]at e;exact e
   .rw[List.getElem?_eq_none (by omega)]at hr;cases hr
 have:=a.2 k r hr;refine⟨by rw[this.1];have:=L5 hk;omega,λi t ht=>?_⟩;rw[(this.2 i t ht).1];have:=Px hk;omega
def UD(k:Nat)(r:List Tb):Prop:=∀(i:Nat) (t:Tb),r[i]?=some t->t.c.length=vl k/\YP t
theorem Pw(u:Xe D h v S):∃h1,bx h 30 (.agg [v])=some (.ptr h.n 0,h1)/\Ext h h1/\h1.get h.n=some (.cells [v] 30 false)/\h1.n=h.n+1/\Xe D h1 v S :=
 ⟨h.new (.cells [v] 30 false),rfl,(Ext.refl h).new _,ZY,H.ZP _ _,u.ext ((Ext.refl h).new _)⟩
theorem Xe.len(u:Xe D h v S):Kc v=some (.int .i64 S.length):=by
 obtain⟨cs,h1,h2⟩:=u;exact h1.len
theorem Xe.Tl(u:Xe D h v S){β:Type}(k:Option β):ck (some v) v k=k:=by
 obtain⟨cs,h1,h2⟩:=u;exact h1.ck k
theorem UC.len(u:UC D h v r):Kc v=some (.int .i64 r.length):=by
 obtain⟨cs,h1,h2⟩:=u;exact h1.len
theorem UC.Tl(u:UC D h v r){β:Type}(k:Option β):ck (some v) v k=k:=by
 obtain⟨cs,h1,h2⟩:=u;exact h1.ck k
theorem UC.ext(u:UC D h v r)(x:Ext h h'):UC D h' v r:=u.keep λb _ hb=>x.get b hb
variable{vr:V}
theorem mK(hk:k<32)(R:UC D h0 vr r)(xA:h0.get sp=some (.cells [.int .i64 (cx k),.int .i64 (vl k),y] 94 false))(hl:r.length<1000)(hs:∀(i:Nat) (t:Tb),r[i]?=some t->t.c.length<1000){en:E}
   (e4:en.s [0,1,2,3,4,6,11,12,29,30,31] 4=.ptr sp 0) (pW:en.s [0,1,2,3,4,6,11,12,29,30,31] 29=vr) (pV:en.s [0,1,2,3,4,6,11,12,29,30,31] 30=.int .i64 r.length) (e31:en.s [0,1,2,3,4,6,11,12,29,30,31] 31=.int .i64 0) :
   ∃s,ZI (Mi KW ZI) en h0=some s/\Ext h0 s.h/\QO [0,1,2,3,4,6,11,12,29,30,31] [0,1,3,11,12] s.e en/\((s.x=.ex 2/\UD k r)\/(s.x=.rt/\s.e.s [0,1,2,3,4,6,11,12,29,30,31] 2=.int .i64 2/\¬UD k r)):=by
 have hv:=Px hk;have loop:=Zd (body:=Mi KW ZI) (λn e g=>Ext h0 g/\n<=r.length/\QO [0,1,2,3,4,6,11,12,29,30,31] [0,1,3,11,12] e en/\e.s [0,1,2,3,4,6,11,12,29,30,31] 4=.ptr sp 0/\e.s [0,1,2,3,4,6,11,12,29,30,31] 29=vr/\e.s [0,1,2,3,4,6,11,12,29,30,31] 30=.int .i64 r.length/\e.s [0,1,2,3,4,6,11,12,29,30,31] 31=.int .i64 ((r.length-n:Nat):Int)/\∀(i:Nat) (t:Tb),i<r.length-n->r[i]?=some t->t.c.length=vl k/\YP t)
   (λs=>Ext h0 s.h/\QO [0,1,2,3,4,6,11,12,29,30,31] [0,1,3,11,12] s.e en/\((s.x=.ex 2/\UD k r)\/(s.x=.rt/\s.e.s [0,1,2,3,4,6,11,12,29,30,31] 2=.int .i64 2/\¬UD k r)))
   (λn e g ⟨xg,hn,ke,p4,p29,dq,Br,ha⟩=>by
    have i0:=ke 0 (by simp);have i1:=ke 1 (by simp);have i3:=ke 3 (by simp);have i11:=ke 11 (by simp);have i12:=ke 12 (by simp);cases n with
    |zero =>
     simp[Mi,dq,Br];refine⟨xg,λi hm=>?_,.inl ⟨rfl,λi t ht=>ha i t ?_ ht⟩⟩
     .simp only[List.mem_cons,List.not_mem_nil,or_false]at hm
      rcases hm with rfl|rfl|rfl|rfl|rfl<;>simp[i0,i1,i3,i11,i12]
     .by_cases e:i<r.length
      .exact e
      .rw[List.getElem?_eq_none (by omega)]at ht;cases ht
    |succ n =>
     obtain⟨c,hc⟩:∃c,c=r.length-(n+1):=⟨_,rfl⟩
     have MS:r.length-n=c+1:=by omega
     rw[<-hc]at Br ha;have V3:c<r.length:=by omega
     obtain⟨t,ht⟩:∃t,r[c]?=some t:=⟨r[c],List.getElem?_eq_getElem V3⟩
     have z1:IntKind.i64.wrap ((c:Int)+1)=c+1:=ZS (by omega) (by omega);obtain⟨b,o,vc,q1,q2,q3,q4,U,_⟩:=(R.ext xg).tab ht;obtain⟨g2,XQ⟩:∃g2,g2=(g.new (.cells [.ZO,.int .i64 0] 101 false)).put g.n (.cells [vc,.int .i64 t.n] 101 false):=⟨_,rfl⟩
     have x2:Ext g g2:=by rw[XQ];exact ((Ext.refl g).new _).put (Nat.le_refl _) _
     have b2:g2.get g.n=some (.cells [vc,.int .i64 t.n] 101 false):=by rw[XQ,ZV (by rw[H.ZP];omega)]
     have gsp:g.get sp=_:=(xg.get sp (H.ZW xA)).trans xA;have mJ:g2.get sp=_:=(x2.get sp (H.ZW gsp)).trans gsp;have U2:=U.ext x2;have ul:=U2.1.len;have eh:∀(P:Prop),¬(t.c.length=vl k/\YP t)->¬UD k r:=λ_ h1 h2=>h1 (h2 c t ht);by_cases c1:t.c.length=vl k
     .obtain⟨w,g3,e58,rfl,x3⟩:=(Qu U2 (hs c t ht)).elim
      by_cases c2:YP t
      .rw[if_pos c2]at e58
       simp[Mi,dq,Br,V3,show (c:Int)<r.length by omega,p29,q1,q4,nw,ZF (o:=0) ZY,splice,<-XQ,ZZ b2,ul,p4,ZZ mJ,show (t.c.length:Int)=vl k by omega,c1,ZU (o:=0) (n:=2) b2 (by simp),e58,z1];refine⟨n,Nat.lt_succ_self n,(xg.trans x2).trans x3,by omega,λi hm=>?_,by simp[p4],by simp[p29],by simp[dq],by simp[MS],λi s hi SS=>?_⟩
       .simp only[List.mem_cons,List.not_mem_nil,or_false]at hm
        rcases hm with rfl|rfl|rfl|rfl|rfl<;>simp[i0,i1,i3,i11,i12]
       .by_cases e:i=c
        .subst e;rw[ht]at SS;cases SS;exact⟨c1,c2⟩
        .exact ha i s (by omega) SS
      .rw[if_neg c2]at e58
       simp[Mi,dq,Br,V3,show (c:Int)<r.length by omega,p29,q1,q4,nw,ZF (o:=0) ZY,splice,<-XQ,ZZ b2,ul,p4,ZZ mJ,show (t.c.length:Int)=vl k by omega,c1,ZU (o:=0) (n:=2) b2 (by simp),e58];refine⟨(xg.trans x2).trans x3,λi hm=>?_,.inr ⟨rfl,by simp,eh True λh=>c2 h.2⟩⟩;simp only[List.mem_cons,List.not_mem_nil,or_false]at hm;rcases hm with rfl|rfl|rfl|rfl|rfl<;>simp[i0,i1,i3,i11,i12]
     .simp[Mi,dq,Br,V3,show (c:Int)<r.length by omega,p29,q1,q4,nw,ZF (o:=0) ZY,splice,<-XQ,ZZ b2,ul,p4,ZZ mJ,show ¬(t.c.length:Int)=vl k by omega,c1,Vt,nN]
      refine⟨xg.trans x2,λi hm=>?_,.inr ⟨rfl,by simp,eh True λh=>c1 h.1⟩⟩;simp only[List.mem_cons,List.not_mem_nil,or_false]at hm;rcases hm with rfl|rfl|rfl|rfl|rfl<;>simp[i0,i1,i3,i11,i12])
 exact loop r.length en h0 ⟨Ext.refl h0,Nat.le_refl _,λ_ _=>rfl,e4,pW,pV,by rw[e31,Nat.sub_self];rfl,λi t hi=>by omega⟩
theorem Zg{α:Type}{l:List α}{x:α}(h:l[i]?=some x):i<l.length:=by
 by_cases e:i<l.length
 . exact e
 . rw[List.getElem?_eq_none (by omega)]at h;cases h
theorem XL{α:Type}{l:List α}(h:i<l.length):∃x,l[i]?=some x:=⟨l[i],List.getElem?_eq_getElem h⟩
def ES(S:List (List Tb))(n:Nat):Prop:=∀(k:Nat) (r:List Tb),k<n->S[k]?=some r->r.length=cx k/\UD k r
theorem JU(h:S.length=32):Yw S↔ES S 32 :=
 ⟨λa k r _ hr=>a.2 k r hr,λa=>⟨h,λk r hr=>a k r (by have:=Zg hr;omega) hr⟩⟩
theorem LO(u:Xe D h v S)(sm:Small S):RT (λw h'=>w=.int .i64 (if Yw S then 0 else 2)/\Ext h h') (KW 33 [.agg [v]] h):=by
 obtain⟨h1,b1,x1,g1,n1,u1⟩:=Pw u;have ul:=u1.len;rw[W1 r33,s33];by_cases c0:S.length=32
 . obtain⟨w,h2,e53,rfl,x2⟩:=(Sj h1).elim
   have u2:=u1.ext x2;have g2:h2.get h.n=_:=(x2.get _ (H.ZW g1)).trans g1;have loop:=Zd (body:=J9 KW ZI) (λn e g=>Ext h2 g/\n<=32/\e.s [0,1,2,3,4,6,11,12,29,30,31] 1=.ptr h.n 0/\e.s [0,1,2,3,4,6,11,12,29,30,31] 11=.agg Hz/\e.s [0,1,2,3,4,6,11,12,29,30,31] 12=.int .i64 ((32-n:Nat):Int)/\ES S (32-n))
    (λs=>Ext h2 s.h/\((s.x=.ex 0/\Yw S)\/(s.x=.rt/\s.e.s [0,1,2,3,4,6,11,12,29,30,31] 2=.int .i64 2/\¬Yw S)))
    (λn e g ⟨xg,hn,p1,Ag,dm,ha⟩=>by
     cases n with
     |zero =>
      simp[J9,dm];exact⟨xg,.inl ⟨rfl,(JU c0).mpr ha⟩⟩
     |succ n =>
      obtain⟨k,hk⟩:∃k,k=32-(n+1):=⟨_,rfl⟩
      have SF:32-n=k+1:=by omega
      have VW:k<32:=by omega
      rw[<-hk]at dm ha;obtain⟨r,hr⟩:=XL (l:=S) (i:=k) (by omega);have z1:IntKind.i64.wrap ((k:Int)+1)=k+1:=ZS (by omega) (by omega);obtain⟨g3,HA⟩:∃g1,g1=(g.new (.cells [.int .i64 0,.int .i64 0,.bool false] 94 false)).put g.n (.cells [.int .i64 (cx k),.int .i64 (vl k),.bool (NK k)] 94 false):=⟨_,rfl⟩
      have y1:Ext g g3:=by rw[HA];exact ((Ext.refl g).new _).put (Nat.le_refl _) _
      have r1:g3.get g.n=some (.cells [.int .i64 (cx k),.int .i64 (vl k),.bool (NK k)] 94 false):=by rw[HA,ZV (by rw[H.ZP];omega)]
      have gb:g3.get h.n=_:=(y1.get _ (by have:=H.ZW g2;have:=xg.n;omega)).trans ((xg.get _ (H.ZW g2)).trans g2);have u3:=(u2.ext xg).ext y1;obtain⟨b,o,vr,q1,q2,R,_⟩:=u3.row hr;have rl:=R.len;have ER:=sm.2 k r hr;by_cases c1:r.length=cx k
      .obtain⟨s,j1,xs,ke,j3⟩:=mK (y:=.bool (NK k)) VW R r1 ER.1 ER.2
        (en:=⟨[e.s [0,1,2,3,4,6,11,12,29,30,31] 0,.ptr h.n 0,e.s [0,1,2,3,4,6,11,12,29,30,31] 2,.int .i64 k,.ptr g.n 0,e.s [0,1,2,3,4,6,11,12,29,30,31] 6,.agg Hz,.int .i64 k,vr,.int .i64 r.length,.int .i64 0],31,.int .i64 0⟩) (by simp) (by simp) (by simp) (by simp)
       have i1:=ke 1 (by simp);have i11:=ke 11 (by simp);have i12:=ke 12 (by simp);simp at i1 i11 i12;obtain⟨sx,se,sh⟩:=s;simp only at xs j3 i1 i11 i12;rw[c1]at j1 rl;rcases j3 with ⟨rfl,ok⟩|⟨rfl,p2,ok⟩
       .simp[J9,dm,VW,show (k:Int)<32 by omega,Ag,LP VW,nw,ZF (o:=0) ZY,splice,<-HA,p1,ZZ gb,q1,q2,rl,ZZ r1,u3.Tl,R.Tl,j1,i12,z1]
        refine⟨n,Nat.lt_succ_self n,(xg.trans y1).trans xs,by omega,by simp[i1],by simp[i11],by simp[SF],λk' r' PQ Aj=>?_⟩;by_cases e:k'=k
        .subst e;rw[hr]at Aj;cases Aj;exact⟨c1,ok⟩
        .exact ha k' r' (by omega) Aj
       .simp[J9,dm,VW,show (k:Int)<32 by omega,Ag,LP VW,nw,ZF (o:=0) ZY,splice,<-HA,p1,ZZ gb,q1,q2,rl,ZZ r1,u3.Tl,R.Tl,j1]
        exact⟨(xg.trans y1).trans xs,.inr ⟨rfl,by simp[p2],λh=>ok (h.2 k r hr).2⟩⟩
      .simp[J9,dm,VW,show (k:Int)<32 by omega,Ag,LP VW,nw,ZF (o:=0) ZY,splice,<-HA,p1,ZZ gb,q1,q2,rl,ZZ r1,c1,u3.Tl,R.Tl,show ¬(r.length:Int)=cx k by omega]
       exact⟨xg.trans y1,.inr ⟨rfl,by simp,λh=>c1 (h.2 k r hr).1⟩⟩)
   obtain⟨⟨sx,se,sh⟩,q1,q2,q3⟩:=loop 32 ⟨[.agg [v],.ptr h.n 0,.int .i64 0,.Zt [],.Zt [],.Zt [],.agg Hz,.int .i64 0,.Zt [],.Zt [],.Zt []],12,.int .i64 0⟩ h2 ⟨Ext.refl h2,Nat.le_refl _,by simp,by simp,by simp,λk r hk=>by omega⟩;simp only at q2 q3;rcases q3 with ⟨rfl,ok⟩|⟨rfl,p2,ok⟩
   .simp[b1,ZZ g1,ul,c0,e53,q1]
    exact⟨by rw[if_pos ok],(x1.trans x2).trans q2⟩
   .simp[b1,ZZ g1,ul,c0,e53,q1,p2]
    exact⟨by rw[if_neg ok],(x1.trans x2).trans q2⟩
 . simp[b1,ZZ g1,ul,c0,show ¬(S.length:Int)=32 by omega]
   exact⟨by rw[if_neg λa=>c0 a.1],x1⟩
open Go.Zf (ZS)
open Go.Zf (ZS)
open Go.Zf (ZS)
theorem EF(u:Wo D h v tT 2 r.length cs)(hl:r.length<1000):RT (λw h'=>xO h.n h' w tT 2 cs r.length/\Ext h h') (KW 81 [v] h):=by
 rw[W1 r81,s81];rcases u with ⟨rfl,h2,h3⟩|⟨b,o,k,c,hv,h2,h3,h4,h5⟩
 . simp
   exact⟨.inl ⟨rfl,h2,h3⟩,Ext.refl h⟩
 . obtain⟨v',h',k1,k2,k3,k4⟩:=JJ (D:=D) (n:=r.length) (cs:=cs) (bytes:=32) (.inr ⟨b,o,k,c,hv,h2,h3,h4,h5⟩) (by omega)
   have hn:ZQ 3 .eql v .ZO=some (.bool false):=by rw[hv];rfl
   simp[hn,bs,YD,k1];exact⟨k2,k3⟩
structure I38(h0:H)(q bb:Nat)(r:List Tb)(P2 Q k:Nat)(vr mI:V)(len:Nat)(n:Nat)(e:E)(g:H):Prop where
 hn:n<=r.length
 x:∀c,c<h0.n->c≠bb->g.get c=h0.get c
 gn:h0.n<=g.n
 ro:∃cs,g.get bb=some (.cells cs tT false)/\cs.length=r.length*2/\Ts (λc=>q<=c) g cs (r.take (r.length-n))/\∀(i:Nat) (t:Tb),r[i]?=some t->cs[2*i+1]?=some (.int .i64 t.n)
 e2:e.s [0,1,2,3,4,5,6,13,14,15,27,28] 2=.ptr P2 0
 e3:e.s [0,1,2,3,4,5,6,13,14,15,27,28] 3=.ptr Q 0
 e4:e.s [0,1,2,3,4,5,6,13,14,15,27,28] 4=.int .i64 k
 e5:e.s [0,1,2,3,4,5,6,13,14,15,27,28] 5=vr
 TS:e.s [0,1,2,3,4,5,6,13,14,15,27,28] 13=mI
 T9:e.s [0,1,2,3,4,5,6,13,14,15,27,28] 14=.int .i64 len
 OC:e.s [0,1,2,3,4,5,6,13,14,15,27,28] 15=.int .i64 k
 dk:e.s [0,1,2,3,4,5,6,13,14,15,27,28] 27=.int .i64 r.length
 dj:e.s [0,1,2,3,4,5,6,13,14,15,27,28] 28=.int .i64 ((r.length-n:Nat):Int)
theorem Pp(hl:o<cs.length):(cs.set o x)[j]?=if j=o then some x else cs[j]?:=by
 rw[List.getElem?_set];by_cases e:o=j
 . subst e;simp[hl]
 . rw[if_neg e,if_neg (λh=>e h.symm)]
variable{bT:Nat}
theorem mH{bb P2 len:Nat}{mI:V}{rc:List V}{kk:J5}(RR:UC D h0 vr r)(hD:∀b,D b->b≠bb)(KA:bb<h0.n)(hq:q<=h0.n)(hQ:h0.get Q=some (.cells [.sl bT 0 len (.ex len)] 30 false))(hT:h0.get bT=some (.cells rc 98 false))(hk:rc[k]?=some (.sl bb 0 r.length kk))(VW:k<len)(hQb:Q≠bb)(hTb:bT≠bb)(hl:r.length<1000)(hs:∀(i:Nat) (t:Tb),r[i]?=some t->t.c.length<1000)(hi:I38 h0 q bb r P2 Q k vr mI len r.length e g):
   ∃e' g',ZI (Mh KW ZI) e g=some ⟨.ex 2,e',g'⟩/\I38 h0 q bb r P2 Q k vr mI len 0 e' g':=by
 have loop:=Zd (body:=Mh KW ZI) (I38 h0 q bb r P2 Q k vr mI len) (λs=>s.x=.ex 2/\I38 h0 q bb r P2 Q k vr mI len 0 s.e s.h)
   (λn e g hi=>by
    obtain⟨hn,x,gn,⟨cs,B,L,G,N⟩,e2,e3,e4,e5,TS,T9,OC,dk,dj⟩:=hi;have R:UC D g vr r:=RR.keep λb hb Yv=>x b Yv (hD b hb);cases n with
    |zero =>
     simp[Mh,dk,dj];exact⟨rfl,hn,x,gn,⟨cs,B,L,G,N⟩,by simp[e2],by simp[e3],by simp[e4],by simp[e5],by simp[TS],by simp[T9],by simp[OC],by simp[dk],by simp[dj]⟩
    |succ n =>
     obtain⟨c,hc⟩:∃c,c=r.length-(n+1):=⟨_,rfl⟩
     have MS:r.length-n=c+1:=by omega
     rw[<-hc]at dj G;have V3:c<r.length:=by omega
     obtain⟨t,ht⟩:=XL V3;have z1:IntKind.i64.wrap ((c:Int)+1)=c+1:=ZS (by omega) (by omega);obtain⟨b,o,vc,b1,b2,b3,b4,U,_,hb⟩:=R.tab ht;obtain⟨v',g1,a1,S1,x1,_⟩:=(LU U (hs c t ht)).elim;have n1:=x1.n;have gQ:g.get Q=_:=(x Q (H.ZW hQ) hQb).trans hQ;have gT:g.get bT=_:=(x bT (H.ZW hT) hTb).trans hT;have di:g1.get Q=_:=(x1.get _ (H.ZW gQ)).trans gQ;have gT1:g1.get bT=_:=(x1.get _ (H.ZW gT)).trans gT;have B1:g1.get bb=_:=(x1.get _ (H.ZW B)).trans B;have U1:VE (λb=>q<=b) g1 v' t.c:=⟨S1.sJ λb hb _=>by show q<=b;omega,U.2⟩
     have Ip:=U1.1.Zx;obtain⟨g2,XQ⟩:∃g2,g2=g1.put bb (.cells (cs.set (c*2) v') 101 false):=⟨_,rfl⟩
     have hw:g1.WO bb (c*2) v'=some g2:=by rw[Zw B1 (by omega),XQ]
     have L6:∀b c,g1.get b=some (.cells c tU false)->g2.get b=g1.get b:=λb c ze=>by
      rw[XQ,ZX];rintro rfl;rw[B1]at ze;cases ze
     have G2:Ts (λb=>q<=b) g2 (cs.set (c*2) v') (r.take (c+1)):=by
      intro i s SS;have TW:=Zg SS;rw[List.length_take]at TW;rw[List.getElem?_take,if_pos (by omega)]at SS;rw[Pp (by omega),Pp (by omega),if_neg (show ¬2*i+1=c*2 by omega),N i s SS];by_cases e:i=c
      .subst e
       rw[ht]at SS;cases SS;exact⟨v',by rw[if_pos (show 2*i=i*2 by omega)],rfl,U1.keep λb c _ hb=>L6 b c hb⟩
      .obtain⟨SK,k1,k2,k3⟩:=G i s (by rw[List.getElem?_take,if_pos (by omega),SS])
       exact⟨SK,by rw[if_neg (show ¬2*i=c*2 by omega),k1],rfl,(k3.ext x1).keep λb c _ hb=>L6 b c hb⟩
     simp[Mh,dk,dj,V3,show (c:Int)<r.length by omega,e5,b1,b2,a1,e3,ZZ di,e4,VW,show (k:Int)<len by omega,ZZ gT1,hk,Ip,hw,ZZ gQ,ZZ gT,U.1.ck,z1];exact⟨n,Nat.lt_succ_self n,by omega,λd hd xK=>by rw[XQ,ZX xK,x1.get d (by omega),x d hd xK],by rw[XQ,H.ZJ];omega,⟨_,by rw[XQ,ZV (H.ZW B1)],by rw[List.length_set,L],by rw[MS];exact G2,λi s SS=>by rw[Pp (by omega),if_neg (show ¬2*i+1=c*2 by omega),N i s SS]⟩,by simp[e2],by simp[e3],by simp[e4],by simp[e5],by simp[TS],by simp[T9],by simp[OC],by simp[dk],by simp[MS]⟩)
 obtain⟨⟨x,e',g'⟩,r1,r2,r3⟩:=loop r.length e g hi;simp only at r2 r3;subst r2;exact⟨e',g',r1,r3⟩
def Full(S:List (List Tb)):Prop:=∀(i:Nat) (r:List Tb),S[i]?=some r->r≠[]
theorem Yw.full(a:Yw S):Full S:=λi r hr e=>by
 have h1:=(a.2 i r hr).1;have hk:=Zg hr;rw[a.1]at hk;have:=L5 hk;rw[e]at h1;simp at h1;omega
def Gz(D:Nat->Prop)(g:H)(cs:List V)(S:List (List Tb))(k:Nat)(B:Nat->Nat):Prop :=
 (∀(i:Nat) (r:List Tb),i<k->S[i]?=some r->∃vr,cs[i]?=some vr/\Sn D g vr (B i) r)/\(Full S->∀i j,i<j->j<k->B i<B j)/\(Full S->∀i,i<k->B i<g.n)
def xy(D:Nat->Prop)(h:H)(v:V)(S:List (List Tb)):Prop :=
 ∃cs B b k,v=.sl b 0 S.length k/\h.get b=some (.cells cs tR false)/\cs.length=S.length/\(D b/\LX 1 S.length k)/\Gz D h cs S S.length B
theorem xy.OB(a:xy D h v S):Xe D h v S:=by
 obtain⟨cs,B,b,k,rfl,h1,h2,h3,h4⟩:=a;exact⟨cs,Wo.of h1 (by omega) h3.1 h3.2,λi r hr=>by obtain⟨vr,k1,k2⟩:=h4.1 i r (Zg hr) hr;exact⟨vr,k1,k2.dt⟩⟩
theorem xy.EU(a:xy D h v S)(f:Full S):WD D h v S:=by
 obtain⟨cs,B,b,k,rfl,h1,h2,h3,h4⟩:=a;exact⟨cs,B,.inr ⟨b,k,rfl,h1,h2,h3⟩,λi r hr=>h4.1 i r (Zg hr) hr,λi j Ud hj=>h4.2.1 f i j Ud hj⟩
structure O38(h0:H)(S:List (List Tb))(P2 Q bT:Nat)(v:V)(n:Nat)(e:E)(g:H):Prop where
 hn:n<=S.length
 x:∀c,c<h0.n->c≠bT->g.get c=h0.get c
 gn:h0.n<=g.n
 b:∃cs B,g.get bT=some (.cells cs tR false)/\cs.length=S.length/\Gz (λb=>h0.n<=b) g cs S (S.length-n) B
 e2:e.s [0,1,2,3,4,5,6,13,14,15,27,28] 2=.ptr P2 0
 e3:e.s [0,1,2,3,4,5,6,13,14,15,27,28] 3=.ptr Q 0
 TS:e.s [0,1,2,3,4,5,6,13,14,15,27,28] 13=v
 T9:e.s [0,1,2,3,4,5,6,13,14,15,27,28] 14=.int .i64 S.length
 OC:e.s [0,1,2,3,4,5,6,13,14,15,27,28] 15=.int .i64 ((S.length-n:Nat):Int)
variable{B:Nat->Nat}
theorem Gz.next{bb:Nat}{w:V}(a:Gz (λb=>p<=b) g cs S k B)(hk:k<cs.length)(hr:S[k]?=some r)(hT:g.get bT=some (.cells cs tR false))(hg:∀c,c<g.n->c≠bT->g'.get c=g.get c)(hn:g.n<=g'.n)(hw:Sn (λb=>p<=b) g' w bb r)(KA:r≠[]->g.n<=bb/\bb<g'.n):
   ∃B',Gz (λb=>p<=b) g' (cs.set k w) S (k+1) B':=by
 refine⟨λi=>if i=k then bb else B i,λi s hi hs=>?_,λf i j Ud hj=>?_,λf i hi=>?_⟩
 . rw[Pp hk]
   by_cases e:i=k
   .subst e
    rw[hr]at hs;cases hs;exact⟨w,by rw[if_pos rfl],by simp only[if_true];exact hw⟩
   .obtain⟨vr,k1,k2⟩:=a.1 i s (by omega) hs
    refine⟨vr,by rw[if_neg e,k1],?_⟩;simp only[if_neg e];refine k2.keep λb c t _ ht hb=>hg b (H.ZW hb) ?_;rintro rfl;rw[hT]at hb;simp only[Option.some.injEq,WI.cells.injEq]at hb;rcases ht with rfl|rfl<;>(obtain⟨_,hb,_⟩:=hb;cases hb)
 . have hb:=KA (f k r hr)
   by_cases ej:j=k
   .simp only[if_neg (show i≠k by omega),if_pos ej]
    have:=a.2.2 f i (by omega);omega
   .simp only[if_neg (show i≠k by omega),if_neg ej]
    exact a.2.1 f i j Ud (by omega)
 . have hb:=KA (f k r hr)
   by_cases ei:i=k
   .simp only[if_pos ei];exact hb.2
   .simp only[if_neg ei]
    have:=a.2.2 f i (by omega);omega
open Go.Zf (ZS)
theorem Ts.none(D:Nat->Prop)(h:H)(cs:List V):Ts D h cs (r.take 0):=λi t hi=>by simp at hi
theorem Ou(u:Xe D h v S)(sm:Small S):RT (λw h'=>∃v',w=.agg [v']/\xy (λb=>h.n<=b) h' v' S/\Ext h h') (KW 35 [.agg [v]] h):=by
 have hS:=sm.1;obtain⟨h1,b1,x1,g1,n1,u1⟩:=Pw u;obtain⟨h2,Zq⟩:∃g,g=h1.new (.cells [.ZO] 30 false):=⟨_,rfl⟩
 have x2:Ext h1 h2:=by rw[Zq];exact (Ext.refl h1).new _
 have n2:h2.n=h1.n+1:=by rw[Zq,H.ZP]
 obtain⟨h3,Zc⟩:∃g,g=h2.new (.cells (Vu S.length [.ZO]) 98 false):=⟨_,rfl⟩
 have x3:Ext h2 h3:=by rw[Zc];exact (Ext.refl h2).new _
 have n3:h3.n=h2.n+1:=by rw[Zc,H.ZP]
 obtain⟨h4,Xs⟩:∃g,g=(h3.new (.cells [.ZO] 30 false)).put h3.n (.cells [.sl h2.n 0 S.length (.ex S.length)] 30 false):=⟨_,rfl⟩
 have x4:Ext h3 h4:=by rw[Xs];exact ((Ext.refl h3).new _).put (Nat.le_refl _) _
 have n4:h4.n=h3.n+1:=by rw[Xs,H.ZJ,H.ZP]
 have gP:h2.get h.n=some (.cells [v] 30 false):=by rw[x2.get _ (by omega),g1]
 have gP4:h4.get h.n=some (.cells [v] 30 false):=by rw[x4.get _ (by omega),x3.get _ (by omega),gP]
 have gP2:h4.get h1.n=some (.cells [.ZO] 30 false):=by rw[x4.get _ (by omega),x3.get _ (by omega),Zq,ZY]
 have gT:h4.get h2.n=some (.cells (Vu S.length [.ZO]) 98 false):=by rw[x4.get _ (by omega),Zc,ZY]
 have gQ:h4.get h3.n=some (.cells [.sl h2.n 0 S.length (.ex S.length)] 30 false):=by rw[Xs,ZV (by rw[H.ZP];omega)]
 have u4:Xe (λb=>b<h.n) h4 v S:=(((u.mono (E:=λb=>b<h.n) λb hb _=>hb).ext x1).ext x2 |>.ext x3).ext x4;have ul:=u4.len;have pX:ms h2 98 24 [.ZO] (.int .i64 S.length) (.int .i64 S.length)=some (.sl h2.n 0 S.length (.ex S.length),h3):=by
   simp only[ms];rw[if_pos ⟨by omega,by omega,by omega,by omega,trivial⟩,Int.toNat_natCast,<-Zc]
 have loop:=Zd (body:=GZ KW ZI) (O38 h4 S h1.n h3.n h2.n v) (λs=>s.x=.ex 0/\O38 h4 S h1.n h3.n h2.n v 0 s.e s.h)
   (λn e g hi=>by
    obtain⟨hn,x,gn,⟨cs,B,bT,L,PR⟩,e2,e3,TS,T9,OC⟩:=hi;cases n with
    |zero =>
     simp[GZ,T9,OC];exact⟨rfl,hn,x,gn,⟨cs,B,bT,L,PR⟩,by simp[e2],by simp[e3],by simp[TS],by simp[T9],by simp[OC]⟩
    |succ n =>
     obtain⟨k,hk⟩:∃k,k=S.length-(n+1):=⟨_,rfl⟩
     have SF:S.length-n=k+1:=by omega
     have VW:k<S.length:=by omega
     rw[<-hk]at OC PR;obtain⟨r,hr⟩:=XL VW;have ER:=sm.2 k r hr;have z1:IntKind.i64.wrap ((k:Int)+1)=k+1:=ZS (by omega) (by omega);have ug:Xe (λb=>b<h.n) g v S:=u4.keep λb hb Yv=>x b Yv (by have hb:b<h.n:=hb;omega);obtain⟨bR,oR,vr,q1,q2,RR,_,hbR⟩:=ug.row hr;obtain⟨rcs,RS,RE⟩:=RR;obtain⟨w,g1,a1,W,y1⟩:=(EF RS ER.1).elim;have m1:=y1.n;have gQg:g.get h3.n=_:=(x _ (by omega) (by omega)).trans gQ;have di:g1.get h3.n=_:=(y1.get _ (H.ZW gQg)).trans gQg;have bT1:g1.get h2.n=_:=(y1.get _ (H.ZW bT)).trans bT;obtain⟨g2,XQ⟩:∃g2,g2=g1.put h2.n (.cells (cs.set k w) 98 false):=⟨_,rfl⟩
     have m2:g2.n=g1.n:=by rw[XQ,H.ZJ]
     have bT2:g2.get h2.n=some (.cells (cs.set k w) 98 false):=by rw[XQ,ZV (H.ZW bT1)]
     have gQ2:g2.get h3.n=_:=(show g2.get h3.n=g1.get h3.n by rw[XQ,ZX (by omega)]).trans di;have hsw:=(W.sJ (D:=λ_=>True) λ_ _ _=>trivial)
     have WY:=hsw.Zx;have hw:g1.WO h2.n k w=some g2:=by rw[Zw bT1 (by omega),XQ]
     have DJ:∀c,c<g.n->c≠h2.n->g2.get c=g.get c:=λc hc hcb=>by rw[XQ,ZX hcb,y1.get c hc]
     have rl:=RS.len;rcases W with ⟨rfl,yc,eJ⟩|⟨bb,kk,rfl,Wb,Wl,Wq,Wk⟩
     .have pU:r=[]:=List.length_eq_zero_iff.mp yc
      obtain⟨B',PR'⟩:=PR.next (g':=g2) (bb:=0) (by omega) hr bT DJ (by omega) (.inl ⟨rfl,pU⟩) (λh=>(h pU).elim)
      have JK:ZI (Mh KW ZI) ⟨[e.s [0,1,2,3,4,5,6,13,14,15,27,28] 0,e.s [0,1,2,3,4,5,6,13,14,15,27,28] 1,.ptr h1.n 0,.ptr h3.n 0,.int .i64 k,vr,e.s [0,1,2,3,4,5,6,13,14,15,27,28] 6,v,.int .i64 S.length,.int .i64 k,.int .i64 0,.int .i64 0],28,.int .i64 0⟩ g2=some ⟨.ex 2,⟨[e.s [0,1,2,3,4,5,6,13,14,15,27,28] 0,e.s [0,1,2,3,4,5,6,13,14,15,27,28] 1,.ptr h1.n 0,.ptr h3.n 0,.int .i64 k,vr,e.s [0,1,2,3,4,5,6,13,14,15,27,28] 6,v,.int .i64 S.length,.int .i64 k,.int .i64 0,.int .i64 0],29,.bool false⟩,g2⟩:=by
       rw[Zi];simp[Mh]
      rw[yc]at rl;simp at rl;simp[GZ,T9,OC,VW,show (k:Int)<S.length by omega,TS,q1,q2,a1,e3,ZZ di,WY,hw,ZZ gQg,rl,e2,JK,z1];exact⟨n,Nat.lt_succ_self n,by omega,λc hc JW=>by rw[DJ c (by omega) JW,x c hc JW],by omega,⟨_,B',bT2,by rw[List.length_set,L],by rw[SF];exact PR'⟩,by simp,by simp,by simp,by simp,by simp[SF]⟩
     .have Wbl:=H.ZW Wb
      have hbT:=H.ZW bT;have Wb2:g2.get bb=_:=(show g2.get bb=g1.get bb by rw[XQ,ZX (by omega)]).trans Wb;have RR2:UC (λb=>b<h.n) g2 vr r:=UC.keep ⟨rcs,RS,RE⟩ λb hb Yv=>by
       have hb:b<h.n:=hb;exact DJ b Yv (by omega)
      obtain⟨f,g3,j1,I⟩:=mH (h0:=g2) (q:=g.n) (bb:=bb) (P2:=h1.n) (Q:=h3.n) (k:=k) (len:=S.length) (bT:=h2.n) (mI:=v) (kk:=kk) RR2 (λb hb=>by have hb:b<h.n:=hb;omega) (by omega) (by omega) gQ2 bT2 (by rw[Pp (by omega),if_pos rfl]) VW (by omega) (by omega) ER.1 ER.2
       (e:=⟨[e.s [0,1,2,3,4,5,6,13,14,15,27,28] 0,e.s [0,1,2,3,4,5,6,13,14,15,27,28] 1,.ptr h1.n 0,.ptr h3.n 0,.int .i64 k,vr,e.s [0,1,2,3,4,5,6,13,14,15,27,28] 6,v,.int .i64 S.length,.int .i64 k,.int .i64 r.length,.int .i64 0],28,.int .i64 0⟩) (g:=g2)
       ⟨Nat.le_refl _,λ_ _ _=>rfl,Nat.le_refl _,⟨rcs,Wb2,Wl,by rw[Nat.sub_self];exact Ts.none _ _ _,λi t ht=>by obtain⟨vc,_,k2,_⟩:=RE i t ht;exact k2⟩,by simp,by simp,by simp,by simp,by simp,by simp,by simp,by simp,by simp⟩
      obtain⟨_,x',nh,⟨cs',Cb,CL,CE,_⟩,f2,f3,f4,f5,f13,f14,f15,f27,f28⟩:=I;rw[Nat.sub_zero,List.take_length]at CE;have qe:∀c,c<g.n->c≠h2.n->g3.get c=g.get c:=λc hc hcb=>by rw[x' c (by omega) (by omega),DJ c hc hcb]
      have bT3:g3.get h2.n=_:=(x' h2.n (by omega) (by omega)).trans bT2;obtain⟨B',PR'⟩:=PR.next (g':=g3) (w:=.sl bb 0 r.length kk) (bb:=bb) (by omega) hr bT qe (by omega) (.inr ⟨kk,cs',rfl,Cb,CL,(show h4.n<=bb by omega),CE.mono (λb _ hb=>Nat.le_trans gn hb),Wk⟩) (λ_=>⟨Wq,H.ZW Cb⟩)
      simp[GZ,T9,OC,VW,show (k:Int)<S.length by omega,TS,q1,q2,a1,e3,ZZ di,hw,ZZ gQg,rl,e2,j1,f15,z1];exact⟨n,Nat.lt_succ_self n,by omega,λc hc JW=>by rw[qe c (by omega) JW,x c hc JW],by omega,⟨_,B',bT3,by rw[List.length_set,L],by rw[SF];exact PR'⟩,by simp[f2],by simp[f3],by simp[f13],by simp[f14],by simp[SF]⟩)
 obtain⟨⟨sx,se,sh⟩,q1,q2,I⟩:=loop S.length ⟨[.agg [v],.ptr h.n 0,.ptr h1.n 0,.ptr h3.n 0,.Zt [],.Zt [],.Zt [],v,.int .i64 S.length,.int .i64 0,.Zt [],.Zt []],15,.int .i64 0⟩ h4
   ⟨Nat.le_refl _,λ_ _ _=>rfl,Nat.le_refl _,⟨_,λ_=>0,gT,by rw[GB];simp,by rw[Nat.sub_self];exact⟨λi r hi=>by omega,λ_ i j _ hj=>by omega,λ_ i hi=>by omega⟩⟩,by simp,by simp,by simp,by simp,by simp⟩
 simp only at q2 I;subst q2;obtain⟨_,x,gn,⟨cs,B,bT,L,PR⟩,e2,e3,TS,T9,OC⟩:=I;have sQ:sh.get h3.n=some (.cells [.sl h2.n 0 S.length (.ex S.length)] 30 false):=by rw[x _ (by omega) (by omega),gQ]
 have sP:sh.get h1.n=some (.cells [.ZO] 30 false):=by rw[x _ (by omega) (by omega),gP2]
 obtain⟨h8,WM⟩:∃g,g=sh.put h1.n (.cells [.sl h2.n 0 S.length (.ex S.length)] 30 false):=⟨_,rfl⟩
 have r8:h8.get h1.n=some (.cells [.sl h2.n 0 S.length (.ex S.length)] 30 false):=by rw[WM,ZV (H.ZW sP)]
 rw[W1 r35,s35];simp[b1,nw,<-Zq,ZZ gP,ul,pX,bl,YD,splice,ZF (o:=0) ZY,<-Xs,ZZ gP4,q1,e3,ZU (o:=0) (n:=1) sQ (by simp),e2,ZF (o:=0) sP,<-WM,ZU (o:=0) (n:=1) r8 (by simp)];rw[Nat.sub_zero]at PR;have hD:∀b,h4.n<=b->h.n<=b:=λb hb=>by omega
 refine⟨_,rfl,⟨cs,B,h2.n,.ex S.length,rfl,by rw[WM,ZX (by omega)];exact bT,L,⟨(show h.n<=h2.n by omega),Nat.le_refl _⟩,λi r hi hr=>?_,PR.2.1,λf i hi=>by have:=PR.2.2 f i hi;rw[WM,H.ZJ];omega⟩,?_⟩
 . obtain⟨vr,k1,k2⟩:=PR.1 i r hi hr
   refine⟨vr,k1,(k2.keep λb c t hb _ _=>?_).mono λb _ hb=>hD b hb⟩;rw[WM,ZX];have hb:h4.n<=b:=hb;omega
 . refine⟨by rw[WM,H.ZJ];omega,λc hc=>?_⟩
   rw[WM,ZX (by omega),x c (by omega) (by omega),x4.get c (by omega),x3.get c (by omega),x2.get c (by omega),x1.get c hc]
open Go.Zf (ZS)
open Go.Zf (ZS)
inductive YX where
 |w (out:List Nat) (low ZH:Nat)
 |r (rest:List Nat) (code ZH:Nat)
def Yp(m:Nat):YX->Prop
 |.w out low ZH=>Iw low ZH/\out.length<=3*m/\m<100000000
 |.r rest code ZH=>L9 code ZH/\(∀x∈rest,x<256)/\m<100000000
def Pv(D:Nat->Prop)(h:H)(p:Nat)(t:TypeId)(out:List Nat)(low:Nat)(ZH:V):Prop:=∃v,X5 h p t v out low ZH/\D p/\∀c o n k,v=.sl c o n k->D c
def LN(D:Nat->Prop)(h:H)(p:Nat)(rest:List Nat)(code ZH:Nat):Prop:=∃v,TH h (λc=>c=p\/¬D c) p v rest code ZH/\D p
section own
variable{D E:Nat->Prop}{h h':H}
theorem Pv.keep{t:TypeId}{ZH:V}(a:Pv D h p t out low ZH)(hk:∀b,D b->b<h.n->h'.get b=h.get b):Pv D h' p t out low ZH:=by
 obtain⟨v,e,hp,hv⟩:=a;refine⟨v,⟨by rw[hk p hp (H.ZW e.cell),e.cell],?_,e.byte,e.NN⟩,hp,hv⟩;rcases e.grow with g|⟨b,g1,g2,g3⟩
 . exact .inl g
 . exact .inr ⟨b,g1,g2,by rw[hk b (hv _ _ _ _ g1) (H.ZW g3),g3]⟩
theorem Pv.mono{t:TypeId}{ZH:V}(a:Pv D h p t out low ZH)(hd:∀b,b<h.n->D b->E b):Pv E h p t out low ZH:=by
 obtain⟨v,e,hp,hv⟩:=a;refine⟨v,e,hd p (H.ZW e.cell) hp,λc o n k ev=>hd c ?_ (hv c o n k ev)⟩;rcases e.grow with ⟨g,_⟩|⟨b,g1,g2,g3⟩
 . rw[g]at ev;cases ev
 . rw[g1]at ev;cases ev;exact H.ZW g3
theorem LN.keep{code:Nat}(a:LN D h p rest code ZH)(hk:∀b,D b->b<h.n->h'.get b=h.get b):LN D h' p rest code ZH:=by
 obtain⟨v,e,hp⟩:=a;exact⟨v,⟨by rw[hk p hp (H.ZW e.cell),e.cell],e.own,e.sl.keep λb hb hx=>hk b (Classical.not_not.mp λhn=>hx (.inr hn)) hb,e.byte⟩,hp⟩
theorem LN.mono{code:Nat}(a:LN D h p rest code ZH)(hd:∀b,b<h.n->D b->E b):LN E h p rest code ZH:=by
 obtain⟨v,e,hp⟩:=a;refine⟨v,⟨e.cell,.inl rfl,e.sl.mono λb hb hx=>?_,e.byte⟩,hd p (H.ZW e.cell) hp⟩;rintro (h1|h1)
 . exact hx (.inl h1)
 . exact h1 (hd b hb (Classical.not_not.mp λhn=>hx (.inr hn)))
theorem Nf.mod(o:Nf h h' p v v')(hp:D p)(hv:∀c o n k,v=.sl c o n k->D c):Mod D h h' :=
 ⟨o.fr.1,λc hc hd=>o.fr.2 c hc (by rintro (e|⟨a,b,k,e⟩);exact hd (e▸hp);exact hd (hv _ _ _ _ e))⟩
theorem Yi.mod(o:Yi h h' p)(hp:D p):Mod D h h':=⟨by rw[o.1];exact Nat.le_refl _,λc hc hd=>o.2 c (λe=>hd (e▸hp))⟩
theorem Nf.dX{t:TypeId}{ZH:V}(o:Nf h h' p v v')(e:X5 h' p t v' out low ZH)(hp:D p)(hv:∀c o n k,v=.sl c o n k->D c):Pv (grow D h h') h' p t out low ZH:=by
 refine⟨v',e,.inl hp,λc a n k ev=>?_⟩;rcases o.nw with e1|e1
 . exact .inl (hv _ _ _ _ (e1▸ev))
 . refine .inr ⟨e1 _ _ _ _ ev,?_⟩
   rcases e.grow with ⟨g,_⟩|⟨b,g1,g2,g3⟩
   .rw[g]at ev;cases ev
   .rw[g1]at ev;cases ev;exact H.ZW g3
theorem Gy(a:Pv D h p 144 out low (.int .u32 ZH))(ok:Yp m (.w out low ZH))(h2:lo<hi)(h3:hi<=32768):
   ∃h',KW 137 [.ptr p 0,.int .u32 lo,.int .u32 hi] h=some (.ret (.int .i64 0),h')/\Pv (grow D h h') h' p 144 (put out low ZH lo hi).1 (put out low ZH lo hi).2.1 (.int .u32 (put out low ZH lo hi).2.2)/\Mod D h h':=by
 obtain⟨v,e,hp,hv⟩:=a;have o1:=ok.1;have o2:=ok.2.1;have o3:=ok.2.2;obtain⟨h',v',k1,k2,k3⟩:=xY e o1 (by omega) h2 h3;exact⟨h',k1,k3.dX k2 hp hv,k3.mod hp hv⟩
theorem xw(ok:Yp m (.w out low ZH))(hm:m+1<100000000)(h2:lo<hi)(h3:hi<=32768):Yp (m+1) (.w (put out low ZH lo hi).1 (put out low ZH lo hi).2.1 (put out low ZH lo hi).2.2):=by
 have o1:=ok.1;have o2:=ok.2.1;have:=sC (out:=out) o1 h2 h3;exact⟨this.1,by omega,hm⟩
theorem JH{code:Nat}(a:LN D h p rest code ZH)(ok:Yp m (.r rest code ZH))(h1:lo<=value code ZH)(h2:value code ZH<hi)(h3:hi<=32768):
   ∃h',KW 138 [.ptr p 0,.int .u32 lo,.int .u32 hi] h=some (.ret (.int .i64 0),h')/\LN D h' p (take rest code ZH lo hi).1 (take rest code ZH lo hi).2.1 (take rest code ZH lo hi).2.2/\Mod D h h':=by
 obtain⟨v,e,hp⟩:=a;obtain⟨h',v',k1,k2,k3⟩:=Bx e ok.1 h1 h2 h3;exact⟨h',k1,⟨v',k2,hp⟩,k3.mod hp⟩
theorem Bl{code:Nat}(ok:Yp m (.r rest code ZH))(hm:m+1<100000000)(h1:lo<=value code ZH)(h2:value code ZH<hi)(h3:hi<=32768):Yp (m+1) (.r (take rest code ZH lo hi).1 (take rest code ZH lo hi).2.1 (take rest code ZH lo hi).2.2):=by
 have:=xS ok.1 h1 h2 h3 ok.2.1;exact⟨this.1,this.2,hm⟩
end own
def YX.code(lo hi:Nat):YX->YX
 |.w out low ZH=>.w (put out low ZH lo hi).1 (put out low ZH lo hi).2.1 (put out low ZH lo hi).2.2
 |.r rest code ZH=>.r (take rest code ZH lo hi).1 (take rest code ZH lo hi).2.1 (take rest code ZH lo hi).2.2
def YX.writes:YX->Bool
 |.w _ _ _=>true
 |.r _ _ _=>false
def YX.may(lo hi:Nat):YX->Prop
 |.w _ _ _=>lo<hi/\hi<=32768
 |.r _ code ZH=>lo<=value code ZH/\value code ZH<hi/\hi<=32768
variable{sd:YX}
theorem YX.Pu(ok:Yp m sd)(hm:m+1<100000000)(h:sd.may lo hi):Yp (m+1) (sd.code lo hi):=by
 cases sd with
 |w out low ZH=>exact xw ok hm h.1 h.2
 |r rest code ZH=>exact Bl ok hm h.1 h.2.1 h.2.2
def Xp(D:Nat->Prop)(h:H)(vo vi:V):YX->Prop
 |.w out low ZH=>∃e,vo=.ptr e 0/\vi=.Zh/\Pv D h e 144 out low (.int .u32 ZH)
 |.r rest code ZH=>∃e,vo=.Zh/\vi=.ptr e 0/\LN D h e rest code ZH
variable{vo vi:V}
theorem Xp.keep(a:Xp D h vo vi sd)(hk:∀b,D b->b<h.n->h'.get b=h.get b):Xp D h' vo vi sd:=by
 cases sd with
 |w out low ZH=>obtain⟨e,h1,h2,h3⟩:=a;exact⟨e,h1,h2,h3.keep hk⟩
 |r rest code ZH=>obtain⟨e,h1,h2,h3⟩:=a;exact⟨e,h1,h2,h3.keep hk⟩
theorem Xp.mono{E:Nat->Prop}(a:Xp D h vo vi sd)(hd:∀b,b<h.n->D b->E b):Xp E h vo vi sd:=by
 cases sd with
 |w out low ZH=>obtain⟨e,h1,h2,h3⟩:=a;exact⟨e,h1,h2,h3.mono hd⟩
 |r rest code ZH=>obtain⟨e,h1,h2,h3⟩:=a;exact⟨e,h1,h2,h3.mono hd⟩
open Go.Zf (ZS)
def YX.val(t:Tb)(v:Int):YX->Nat
 |.w _ _ _=>v.toNat
 |.r _ code ZH=>VX t (value code ZH)
theorem Sl(code ZH:Nat):value code ZH<32768:=by unfold value;omega
theorem YX.MY{v:Int}(ok:YP t)(hv:sd.writes=true->0<=v/\v<t.c.length):sd.val t v<t.c.length/\sd.may (pt t (sd.val t v)) (pt t (sd.val t v+1)):=by
 cases sd with
 |w out low ZH =>
   have:=hv rfl;have h1:v.toNat<t.c.length:=by omega
   exact⟨h1,yi ok h1,NM ok (show v.toNat+1<=_ by omega)⟩
 |r rest code ZH =>
   have:=GK ok (Sl code ZH);exact⟨this.1,this.2.1,this.2.2,NM ok (Nat.succ_le_of_lt this.1)⟩
variable{vs ba:V}
theorem Xt{bn:V}(hp:h.get p=some (.cells [vo,vi,vs,ba,bn] 92 false))(s:Xp D h vo vi sd):KW 42 [.ptr p 0] h=some (.ret (.bool sd.writes),h):=by
 rw[W1 r42,s42];cases sd with
 |w out low ZH=>obtain⟨e,rfl,rfl,_⟩:=s;simp[ZZ hp,YX.writes]
 |r rest code ZH=>obtain⟨e,rfl,rfl,_⟩:=s;simp[ZZ hp,YX.writes]
theorem TJ{bn:V}(hp:h.get p=some (.cells [vo,vi,vs,ba,bn] 92 false))(s:Xp D h vo vi sd):KW 45 [.ptr p 0] h=some (.ret (.bool false),h):=by
 rw[W1 r45,s45];cases sd with
 |w out low ZH=>obtain⟨e,rfl,rfl,_⟩:=s;simp[ZZ hp,Vt]
 |r rest code ZH=>obtain⟨e,rfl,rfl,_⟩:=s;simp[ZZ hp,Vt]
theorem Xp.ext(a:Xp D h vo vi sd)(x:Ext h h'):Xp D h' vo vi sd:=a.keep λb _ hb=>x.get b hb
variable{vc:V}
theorem EE{D2:Nat->Prop}{bn:V}{v:Int}(hp:h.get p=some (.cells [vo,vi,vs,ba,bn] 92 false))(s:Xp D h vo vi sd)(so:Yp m sd)(hD:∀b,D b->b<h.n)(KR:¬D p)(u:VE D2 h vc t.c)(ok:YP t)(hv:sd.writes=true->0<=v/\v<t.c.length):
   RT (λw h'=>w=.Zt [.int .i64 (sd.val t v:Nat),.int .i64 0]/\Xp (grow D h h') h' vo vi (sd.code (pt t (sd.val t v)) (pt t (sd.val t v+1)))/\Mod D h h') (KW 87 [.ptr p 0,.agg [vc,.int .i64 t.n],.int .i64 v] h):=by
 obtain⟨h1,b1,x1,g1,n1,u1⟩:=TL u;have US:h1.get p=_:=(x1.get _ (H.ZW hp)).trans hp;have s1:=s.ext x1;have T9:=Xt US s1;obtain⟨hsl,Ta⟩:=YX.MY ok hv;have Rw:=H.ZW hp;rw[W3 r87,s87];cases sd with
 |w out low ZH =>
   obtain⟨e,rfl,rfl,E1⟩:=s1;have HC:=hv rfl;obtain⟨k,hk⟩:∃k:Nat,v=k:=⟨v.toNat,by omega⟩
   subst hk;simp only[YX.val,Int.toNat_natCast]at hsl Ta ⊢;obtain⟨w,h2,e85,rfl,x2⟩:=(NI u1 ok hsl).elim;have QP:h2.get p=_:=(x2.get _ (H.ZW US)).trans US;have E2:=E1.keep (h':=h2) λb _ hb=>x2.get b hb;have s2:Xp D h2 (.ptr e 0) .Zh (.w out low ZH):=⟨e,rfl,rfl,E2⟩
   have kqP:=Xt QP s2;obtain⟨h3,e82,E3,M3⟩:=Gy E2 so Ta.1 Ta.2;have hx:Ext h h2:=x1.trans x2;simp[b1,T9,YX.writes,ZU (o:=0) (n:=2) g1 (by simp),e85,kqP,ZZ QP,e82];refine⟨rfl,⟨e,rfl,rfl,E3.mono λb hb hd=>?_⟩,(Mod.of hx).tr M3⟩;rcases hd with hd|⟨Fs,oD⟩
   .exact .inl hd
   .exact .inr ⟨by have:=hx.n;omega,oD⟩
 |r rest code ZH =>
   obtain⟨e,rfl,rfl,E1⟩:=s1;simp only[YX.val]at hsl Ta ⊢;obtain⟨va,da,_⟩:=E1;have e81:=LZ da so.1;have hE1:LN D h1 e rest code ZH:=by obtain⟨e',_,he,E⟩:=s.ext x1;cases he;exact E
   obtain⟨w,h2,e84,rfl,x2⟩:=(Bt u1 ok (Sl code ZH)).elim;have g2:h2.get h.n=_:=(x2.get _ (H.ZW g1)).trans g1;obtain⟨w,h3,e85,rfl,x3⟩:=(NI (u1.ext x2) ok hsl).elim;have NP:h3.get p=_:=((x2.trans x3).get _ (H.ZW US)).trans US;have E3:=hE1.keep (h':=h3) λb _ hb=>(x2.trans x3).get b hb;have s3:Xp D h3 .Zh (.ptr e 0) (.r rest code ZH):=⟨e,rfl,rfl,E3⟩
   have kqO:=Xt NP s3;obtain⟨h4,dg,E4,M4⟩:=JH E3 so Ta.1 Ta.2.1 Ta.2.2;have hx:Ext h h3:=(x1.trans x2).trans x3;simp[b1,T9,YX.writes,ZZ US,e81,ZU (o:=0) (n:=2) g1 (by simp),e84,ZU (o:=0) (n:=2) g2 (by simp),e85,kqO,ZZ NP,dg];exact⟨rfl,⟨e,rfl,rfl,E4.mono λb hb hd=>.inl hd⟩,(Mod.of hx).tr M4⟩
open Go.Zf (ZS)
theorem VE.move{E:Nat->Prop}(a:VE D h v c)(hk:∀b x,D b->h.get b=some (.cells x tU false)->h'.get b=h.get b/\E b):VE E h' v c:=by
 refine⟨?_,a.2⟩;rcases a.1 with a|⟨b,o,k,x,h1,h2,h3,h4,h5⟩
 . exact .inl a
 . have:=hk b x h5.1 h2
   exact .inr ⟨b,o,k,x,h1,by rw[this.1,h2],h3,h4,this.2,h5.2⟩
theorem Ts.move{E:Nat->Prop}(a:Ts D h cs r)(hk:∀b x,D b->h.get b=some (.cells x tU false)->h'.get b=h.get b/\E b):Ts E h' cs r:=λi t hi=>by
 obtain⟨vc,h1,h2,h3⟩:=a i t hi;exact⟨vc,h1,h2,h3.move hk⟩
theorem WD.tab(a:WD D h v S){c:Nat}(hr:S[k]?=some r)(ht:r[c]?=some t):
   ∃bO oO vr bb cells vc,PY 1 v (.int .i64 k)=some (.ptr bO oO)/\h.Zp bO oO=some vr/\D bO/\bO<h.n/\PY 2 vr (.int .i64 c)=some (.ptr bb (c*2))/\h.get bb=some (.cells cells 101 false)/\c*2+2<=cells.length/\h.Ze bb (c*2) 2=some [vc,.int .i64 t.n]/\VE D h vc t.c/\D bb /\
    ∀(h1:H) (E:Nat->Prop) (SK:V) (t':Tb),(∀b,D b->b<h.n->h1.get b=h.get b)->h.n<=h1.n->(∀b,D b->b<h.n->E b)->VE E h1 SK t'.c->WD E (h1.put bb (.cells (splice cells (c*2) [SK,.int .i64 t'.n]) 101 false)) v (S.set k (r.set c t')):=by
 obtain⟨cs,B,h1,h2,hB⟩:=a;have hk:=Zg hr;have hc:=Zg ht;obtain⟨vr,k1,k2⟩:=h2 k r hr;rcases k2 with ⟨rfl,rfl⟩|⟨kk,cells,rfl,g1,g2,g3,g4,g5⟩
 . simp at ht
 rcases h1 with ⟨rfl,rfl,rfl⟩|⟨bO,k0,rfl,o1,o2,o3,o4⟩
 . simp at hr
 obtain⟨vc,e1,e2,e3⟩:=g4 c t ht;refine⟨bO,k,_,B k,cells,vc,by simp[hk],by rw[ZZ o1,k1],o3,H.ZW o1,by simp[hc],g1,by omega,?_,e3,g3,?_⟩
 . rw[ZU g1 (by omega)]
   congr 1
   apply List.ext_getElem?;intro j;simp only[List.getElem?_take,List.getElem?_drop]
   match j with
   |0=>simp[Nat.mul_comm c 2,e1]
   |1=>simp[Nat.mul_comm c 2,e2]
   |j+2=>simp;omega
 . intro h1 E SK t' mG hn hE u
   obtain⟨h9,Ih⟩:∃g,g=h1.put (B k) (.cells (splice cells (c*2) [SK,.int .i64 t'.n]) 101 false):=⟨_,rfl⟩
   rw[<-Ih];have df:h1.get (B k)=some (.cells cells 101 false):=by rw[mG _ g3 (H.ZW g1),g1]
   have Wp:∀b x ty,D b->h.get b=some (.cells x ty false)->b≠B k->h9.get b=h.get b:=λb x ty hb hx Wp=>by
    rw[Ih,ZX Wp,mG b hb (H.ZW hx)]
   have hU:∀b x,D b->h.get b=some (.cells x tU false)->h9.get b=h.get b:=λb x hb hx=>Wp b x tU hb hx (by rintro rfl;rw[g1]at hx;cases hx);refine⟨cs,B,.inr ⟨bO,k0,by rw[List.length_set],by rw[Wp bO _ _ o3 o1 (by rintro rfl;rw[g1]at o1;cases o1),o1],by rw[List.length_set];exact o2,hE _ o3 (H.ZW o1),by rw[List.length_set];exact o4⟩,λi s hs=>?_,λi j Ud hj=>hB i j Ud (by rw[List.length_set]at hj;exact hj)⟩;rw[List.getElem?_set]at hs;by_cases ei:k=i
   .subst ei
    rw[if_pos rfl,if_pos hk]at hs;cases hs;refine⟨_,k1,.inr ⟨kk,_,by rw[List.length_set],by rw[Ih,ZV (H.ZW df)],by rw[LQ (by simp;omega),List.length_set,g2],hE _ g3 (H.ZW g1),?_,by rw[List.length_set];exact g5⟩⟩;have hEl:Ts E h9 cells r:=g4.move λb x hb hx=>⟨hU b x hb hx,hE b hb (H.ZW hx)⟩
    have u9:VE E h9 SK t'.c:=u.keep λb x hb hx=>by rw[Ih,ZX];rintro rfl;rw[df]at hx;cases hx
    exact hEl.set g2 hc u9
   .rw[if_neg ei]at hs
    obtain⟨vi,j1,j2⟩:=h2 i s hs;refine⟨vi,j1,?_⟩;rcases j2 with j2|⟨k',c',a1,a2,a3,a4,a5,a6⟩
    .exact .inl j2
    .have hi:=Zg hs
     have hBi:B i≠B k:=by
      rcases Nat.lt_or_gt_of_ne ei with e|e
      .have:=hB k i e hi;omega
      .have:=hB i k e hk;omega
     exact .inr ⟨k',c',a1,by rw[Wp _ _ _ a4 a2 hBi,a2],a3,hE _ a4 (H.ZW a2),a5.move (λb x hb hx=>⟨hU b x hb hx,hE b hb (H.ZW hx)⟩),a6⟩
structure St where
 sd:YX
 S:List (List Tb)
 ad:Bool
 n:Int
def Ua(S:List (List Tb))(k c:Nat):Tb:=(S.getD k []).getD c ⟨[],0⟩
theorem Yw.get(a:Yw S){c:Nat}(hk:k<32)(hc:c<cx k):∃r,S[k]?=some r/\r[c]?=some (Ua S k c)/\YP (Ua S k c)/\(Ua S k c).c.length=vl k:=by
 obtain⟨r,hr⟩:=XL (l:=S) (i:=k) (by rw[a.1];exact hk);have h1:=a.2 k r hr;obtain⟨t,ht⟩:=XL (l:=r) (i:=c) (by rw[h1.1];exact hc);have e:Ua S k c=t:=by simp[Ua,hr,ht]
 rw[e];exact⟨r,hr,ht,(h1.2 c t ht).2,(h1.2 c t ht).1⟩
theorem Yw.set(a:Yw S){c:Nat}(hk:k<32)(ht:YP t)(hl:t.c.length=vl k):Yw (S.set k ((S.getD k []).set c t)):=by
 refine⟨by rw[List.length_set];exact a.1,λi r hr=>?_⟩;rw[List.getElem?_set]at hr;by_cases e:k=i
 . subst e
   rw[if_pos rfl,if_pos (by rw[a.1];exact hk)]at hr;cases hr;obtain⟨r,hr⟩:=XL (l:=S) (i:=k) (by rw[a.1];exact hk);have h1:=a.2 k r hr;have e1:S.getD k []=r:=by simp[hr]
   rw[e1];refine⟨by rw[List.length_set];exact h1.1,λj s hs=>?_⟩;rw[List.getElem?_set]at hs;by_cases e2:c=j
   .rw[if_pos e2]at hs
    split at hs
    .cases hs;exact⟨hl,ht⟩
    .cases hs
   .rw[if_neg e2]at hs;exact h1.2 j s hs
 . rw[if_neg e]at hr;exact a.2 i r hr
def St.sym(st:St)(k c:Nat)(v:Int):St :=
 ⟨st.sd.code (pt (Ua st.S k c) (st.sd.val (Ua st.S k c) v)) (pt (Ua st.S k c) (st.sd.val (Ua st.S k c) v+1)),
  if st.ad then st.S.set k ((st.S.getD k []).set c (YE (Ua st.S k c) (st.sd.val (Ua st.S k c) v)))else st.S,st.ad,st.n+1⟩
def St.ZC(st:St)(k c:Nat)(v:Int):Nat:=st.sd.val (Ua st.S k c) v
def Zy(D:Nat->Prop)(h:H)(p m:Nat)(st:St):Prop :=
 ∃vo vi vs Ds Dw,h.get p=some (.cells [vo,vi,vs,.bool st.ad,.int .i64 st.n] 92 false)/\D p/\Xp Ds h vo vi st.sd/\Yp m st.sd/\WD Dw h vs st.S/\Yw st.S/\(0<=st.n/\st.n<=100*m) /\
   (∀b,Ds b->D b/\b≠p/\b<h.n)/\(∀b,Dw b->D b/\b≠p/\b<h.n/\¬Ds b)
variable{st:St}
theorem Zy.keep(a:Zy D h p m st)(hn:h.n<=h'.n)(hk:∀b,D b->b<h.n->h'.get b=h.get b):Zy D h' p m st:=by
 obtain⟨vo,vi,vs,Ds,Dw,h1,h2,h3,h4,h5,h6,h7,h8,h9⟩:=a;exact⟨vo,vi,vs,Ds,Dw,by rw[hk p h2 (H.ZW h1),h1],h2,h3.keep λb hb Yv=>hk b (h8 b hb).1 Yv,h4,h5.keep λb hb Yv=>hk b (h9 b hb).1 Yv,h6,h7,
   λb hb=>by have:=h8 b hb;exact⟨this.1,this.2.1,by omega⟩,λb hb=>by have:=h9 b hb;exact⟨this.1,this.2.1,by omega,this.2.2.2⟩⟩
theorem Zy.mono{E:Nat->Prop}(a:Zy D h p m st)(hd:∀b,b<h.n->D b->E b):Zy E h p m st:=by
 obtain⟨vo,vi,vs,Ds,Dw,h1,h2,h3,h4,h5,h6,h7,h8,h9⟩:=a;exact⟨vo,vi,vs,Ds,Dw,h1,hd p (H.ZW h1) h2,h3,h4,h5,h6,h7,
   λb hb=>by have:=h8 b hb;exact⟨hd b this.2.2 this.1,this.2.1,this.2.2⟩,λb hb=>by have:=h9 b hb;exact⟨hd b this.2.2.1 this.1,this.2.1,this.2.2.1,this.2.2.2⟩⟩
open Go.Zf (ZS)
theorem N1{c:Nat}{v:Int}(a:Zy D h p m st)(hm:m+1<100000000)(hk:k<32)(hc:c<cx k)(hv:st.sd.writes=true->0<=v/\v<vl k):
   RT (λw h'=>w=.Zt [.int .i64 (st.ZC k c v:Nat),.int .i64 0]/\Zy (grow D h h') h' p (m+1) (st.sym k c v)/\Mod D h h') (KW 44 [.ptr p 0,.int .i64 k,.int .i64 c,.int .i64 v] h):=by
 obtain⟨vo,vi,vs,Ds,Dw,h1,h2,h3,h4,h5,h6,h7,h8,h9⟩:=a;have Bz:=TJ h1 h3;obtain⟨w,g,de,rfl,x⟩:=(EH k h).elim;rw[if_pos ⟨by omega,by omega⟩,Int.toNat_natCast]at de;have xn:=x.n;have Rw:=H.ZW h1;have hp:g.get p=_:=(x.get _ Rw).trans h1;have T9:=Xt hp (h3.ext x);obtain⟨r,hr,ht,tok,tl⟩:=h6.get hk hc;have jZ:=L5 hk;obtain⟨t,mY⟩:∃t,t=Ua st.S k c:=⟨_,rfl⟩
 rw[<-mY]at ht tok tl;obtain⟨bO,oO,vr,bb,cells,vc,t1,t2,t3,t4,t5,t6,t7,t8,t9,t10,t11⟩:=(h5.ext x).tab hr ht;have kqN:∀b,Ds b->b<g.n:=λb hb=>by have:=(h8 b hb).2.2;omega
 have KR:¬Ds p:=λhb=>(h8 p hb).2.1 rfl;have Ip:st.sd.writes=true->0<=v/\v<t.c.length:=by rw[tl];exact hv
 obtain⟨w,g2,dc,rfl,s2,M2⟩:=(EE hp (h3.ext x) h4 kqN KR t9 tok Ip).elim;obtain⟨hsl,Ta⟩:=YX.MY tok Ip;have uq:=YX.Pu h4 hm Ta;have M2n:=M2.n;have QP:g2.get p=_:=(M2.get p (by omega) KR).trans hp;have rZ:∀b,Dw b->b<g.n->g2.get b=g.get b:=λb hb Yv=>M2.get b Yv (h9 b hb).2.2.2;have PO:g2.get bb=_:=(rZ bb t10 (H.ZW t6)).trans t6;have t8':g2.Ze bb (c*2) 2=some [vc,.int .i64 t.n]:=by rw[<-t8];unfold H.Ze;rw[PO,t6]
 have qi:bb≠p:=(h9 bb t10).2.1;have zn:IntKind.i64.wrap (st.n+1)=st.n+1:=ZS (by omega) (by omega);obtain⟨s,hs⟩:∃s,s=st.sd.val t v:=⟨_,rfl⟩
 have uz:st.ZC k c v=s:=by rw[hs,mY];rfl
 rw[<-hs]at dc s2 hsl uq;rw[uz];have cw:¬((st.sd.writes=true)/\(v<0\/(vl k:Int)<=v)):=λhw=>by have:=hv hw.1;omega
 have VN:st.sym k c v=⟨st.sd.code (pt t s) (pt t (s+1)),if st.ad then st.S.set k ((st.S.getD k []).set c (YE t s))else st.S,st.ad,st.n+1⟩:=by
   rw[St.sym,<-mY,<-hs]
 have hgr:st.S.getD k []=r:=by simp[hr]
 rw[W4 r44,s44];cases had:st.ad with
 |false =>
   obtain⟨g5,UR⟩:∃x,x=g2.put p (.cells [vo,vi,vs,.bool st.ad,.int .i64 (st.n+1)] 92 false):=⟨_,rfl⟩
   have By:g2.WO p 4 (.int .i64 (st.n+1))=some g5:=by rw[Zw QP (by simp),UR];rfl
   have S9:Zy (grow D h g5) g5 p (m+1) (st.sym k c v)/\Mod D h g5:=by
    have hn5:g5.n=g2.n:=by rw[UR,H.ZJ]
    refine⟨⟨vo,vi,vs,grow Ds g g2,Dw,?_,.inl h2,?_,?_,?_,?_,?_,λb hb=>?_,λb hb=>?_⟩,⟨by omega,λd hd Sk=>?_⟩⟩
    .rw[UR,ZV (H.ZW QP),VN]
    .rw[VN]
     exact s2.keep λb hb Yv=>by
      rw[UR,ZX];rintro rfl;rcases hb with hb|hb
      .exact KR hb
      .omega
    .rw[VN];exact uq
    .rw[VN,had]
     exact (h5.ext x).keep λb hb Yv=>by rw[UR,ZX (h9 b hb).2.1,rZ b hb Yv]
    .rw[VN,had];exact h6
    .rw[VN];show 0<=st.n+1/\st.n+1<=100*((m+1:Nat):Int);omega
    .rcases hb with hb|hb
     .have:=h8 b hb;exact⟨.inl this.1,this.2.1,by omega⟩
     .exact⟨.inr ⟨by omega,by omega⟩,by omega,by omega⟩
    .have:=h9 b hb
     refine⟨.inl this.1,this.2.1,by omega,?_⟩;rintro (h|h)
     .exact this.2.2.2 h
     .omega
    .rw[UR,ZX (λe=>Sk (by rw[e];exact h2)),M2.get d (by omega) (λhb=>Sk (h8 d hb).1),x.get d hd]
   rw[had]at QP hp;cases hw:st.sd.writes with
   |false =>
    rw[hw]at T9;simp[Bz,de,show ¬(c:Int)<0 by omega,show ¬(cx k:Int)<=c by omega,show ¬cx k<=c by omega,T9,Vt,ZZ hp,t1,t2,t5,t8,dc,ZZ QP,zn,By];exact⟨rfl,S9⟩
   |true =>
    rw[hw]at T9;have:=hv hw;simp[Bz,de,show ¬(c:Int)<0 by omega,show ¬(cx k:Int)<=c by omega,show ¬cx k<=c by omega,T9,show ¬v<0 by omega,show ¬(vl k:Int)<=v by omega,Vt,ZZ hp,t1,t2,t5,t8,dc,ZZ QP,zn,By];exact⟨rfl,S9⟩
 |true =>
   have U2:VE Dw g2 vc t.c:=t9.keep λb x hb hx=>rZ b hb (H.ZW hx);obtain⟨w,g3,Db,vt,rfl,⟨SK,rfl,U3⟩,x3⟩:=(EJ U2 tok hsl).elim;have x3n:=x3.n;have LM:g3.get bb=_:=(x3.get _ (H.ZW PO)).trans PO;have NP:g3.get p=_:=(x3.get _ (H.ZW QP)).trans QP;obtain⟨g4,jN⟩:∃x,x=g3.put bb (.cells (splice cells (c*2) [SK,.int .i64 (YE t s).n]) 101 false):=⟨_,rfl⟩
   have hw4:g3.X4 bb (c*2) [SK,.int .i64 (YE t s).n]=some g4:=by rw[ZF LM (by simp;omega),jN]
   have cZ:g4.get p=_:=(show g4.get p=g3.get p by rw[jN,ZX (λe=>qi e.symm)]).trans NP;have W4:WD (λb=>Dw b\/(g2.n<=b/\b<g3.n)) g4 vs (st.S.set k (r.set c (YE t s))):=by
    rw[jN];refine t11 g3 _ SK (YE t s) (λb hb Yv=>by rw[x3.get b (by omega),rZ b hb Yv]) (by omega) (λb hb _=>.inl hb) (U3.mono λb hb hd=>.inr ⟨hd,hb⟩)
   obtain⟨g5,UR⟩:∃x,x=g4.put p (.cells [vo,vi,vs,.bool st.ad,.int .i64 (st.n+1)] 92 false):=⟨_,rfl⟩
   have By:g4.WO p 4 (.int .i64 (st.n+1))=some g5:=by rw[Zw cZ (by simp),UR];rfl
   have hn4:g4.n=g3.n:=by rw[jN,H.ZJ]
   have hn5:g5.n=g3.n:=by rw[UR,H.ZJ,hn4]
   have S9:Zy (grow D h g5) g5 p (m+1) (st.sym k c v)/\Mod D h g5:=by
    refine⟨⟨vo,vi,vs,grow Ds g g2,λb=>Dw b\/(g2.n<=b/\b<g3.n),?_,.inl h2,?_,?_,?_,?_,?_,λb hb=>?_,λb hb=>?_⟩,⟨by omega,λd hd Sk=>?_⟩⟩
    .rw[UR,ZV (H.ZW cZ),VN]
    .rw[VN]
     exact s2.keep λb hb Yv=>by
      have mZ:b≠p:=by
       rintro rfl;rcases hb with hb|hb
       .exact KR hb
       .omega
      have KA:b≠bb:=by
       rintro rfl;rcases hb with hb|hb
       .exact (h9 b t10).2.2.2 hb
       .have:=(h9 b t10).2.2.1;omega
      rw[UR,ZX mZ,jN,ZX KA,x3.get b Yv]
    .rw[VN];exact uq
    .rw[VN,if_pos had,hgr]
     exact W4.keep λb hb Yv=>by
      rw[UR,ZX];rintro rfl;rcases hb with hb|hb
      .exact (h9 b hb).2.1 rfl
      .omega
    .rw[VN,if_pos had];exact h6.set hk (Ot tok s) (by rw[Yh,tl])
    .rw[VN];show 0<=st.n+1/\st.n+1<=100*((m+1:Nat):Int);omega
    .rcases hb with hb|hb
     .have:=h8 b hb;exact⟨.inl this.1,this.2.1,by omega⟩
     .exact⟨.inr ⟨by omega,by omega⟩,by omega,by omega⟩
    .rcases hb with hb|hb
     .have:=h9 b hb
      refine⟨.inl this.1,this.2.1,by omega,?_⟩;rintro (h|h)
      .exact this.2.2.2 h
      .omega
     .refine⟨.inr ⟨by omega,by omega⟩,by omega,by omega,?_⟩
      rintro (h|h)
      .have:=(h8 b h).2.2;omega
      .omega
    .rw[UR,ZX (λe=>Sk (by rw[e];exact h2)),jN,ZX (λe=>Sk (by rw[e];exact (h9 bb t10).1)),x3.get d (by omega),M2.get d (by omega) (λhb=>Sk (h8 d hb).1),x.get d hd]
   rw[had]at QP hp cZ;cases hw:st.sd.writes with
   |false =>
    rw[hw]at T9;simp[Bz,de,show ¬(c:Int)<0 by omega,show ¬(cx k:Int)<=c by omega,show ¬cx k<=c by omega,T9,Vt,ZZ hp,t1,t2,t5,t8,dc,ZZ QP,t8',Db,hw4,ZZ cZ,zn,By];exact⟨rfl,S9⟩
   |true =>
    rw[hw]at T9;have:=hv hw;simp[Bz,de,show ¬(c:Int)<0 by omega,show ¬(cx k:Int)<=c by omega,show ¬cx k<=c by omega,T9,show ¬v<0 by omega,show ¬(vl k:Int)<=v by omega,Vt,ZZ hp,t1,t2,t5,t8,dc,ZZ QP,t8',Db,hw4,ZZ cZ,zn,By];exact⟨rfl,S9⟩
open Go.Zf (ZS)
def YX.bit(v:Nat):YX->Nat
 |.w _ _ _=>v
 |.r _ code ZH=>value code ZH/16384
theorem YX.MP{v:Nat}(hv:v<2)(sd:YX):sd.bit v<2/\sd.may (sd.bit v*16384) (sd.bit v*16384+16384):=by
 cases sd with
 |w out low ZH=>exact⟨hv,by show v*16384<v*16384+16384;omega,by show v*16384+16384<=32768;omega⟩
 |r rest code ZH =>
   have:=Sl code ZH;refine⟨by show value code ZH/16384<2;omega,?_,?_,?_⟩
   .show value code ZH/16384*16384<=value code ZH;omega
   .show value code ZH<value code ZH/16384*16384+16384;omega
   .show value code ZH/16384*16384+16384<=32768;omega
def bits:Nat->Nat->Nat->YX->Nat×YX
 |0,_,out,sd=>(out,sd)
 |j+1,v,out,sd=>bits j v (2*out+sd.bit (v/2^j%2)) (sd.code (sd.bit (v/2^j%2)*16384) (sd.bit (v/2^j%2)*16384+16384))
theorem DO:∀(j v out:Nat) {m:Nat} {sd:YX},Yp m sd->m+j<100000000->Yp (m+j) (bits j v out sd).2/\(bits j v out sd).1<(out+1)*2^j
 |0,v,out,m,sd,ok,hm=>⟨ok,by simp[bits]⟩
 |j+1,v,out,m,sd,ok,hm=>by
   have h1:=YX.MP (v:=v/2^j%2) (by omega) sd;have ih:=DO j v (2*out+sd.bit (v/2^j%2)) (YX.Pu ok (by omega) h1.2) (by omega);refine⟨by rw[show m+(j+1)=m+1+j by omega];exact ih.1,Nat.lt_of_lt_of_le ih.2 ?_⟩;rw[Nat.pow_succ,Nat.mul_comm (2^j) 2,<-Nat.mul_assoc];exact Nat.mul_le_mul_right _ (by omega)
theorem xv{bn:V}{v:Int}(hp:h.get p=some (.cells [vo,vi,vs,ba,bn] 92 false))(s:Xp D h vo vi sd)(so:Yp m sd)(hv:0<=v/\v<2):
   RT (λw h'=>w=.Zt [.int .i64 (sd.bit v.toNat:Nat),.int .i64 0]/\Xp (grow D h h') h' vo vi (sd.code (sd.bit v.toNat*16384) (sd.bit v.toNat*16384+16384))/\Mod D h h') (KW 133 [.ptr p 0,.int .i64 v] h):=by
 have T9:=Xt hp s;obtain⟨n,rfl⟩:∃n:Nat,v=n:=⟨v.toNat,by omega⟩
 rw[Int.toNat_natCast];obtain⟨hb,Ta⟩:=YX.MP (v:=n) (by omega) sd;rw[W2 Wqw,fX];cases sd with
 |w out low ZH =>
   obtain⟨e,rfl,rfl,E1⟩:=s;simp only[YX.bit]at hb Ta ⊢;obtain⟨h3,e82,E3,M3⟩:=Gy E1 so Ta.1 Ta.2;have z1:IntKind.u32.wrap (n:Int)=n:=Sp (by omega) (by omega);have z2:IntKind.u32.wrap ((n:Int)*16384)=n*16384:=Sp (by omega) (by omega);have z3:IntKind.u32.wrap ((n:Int)*16384+16384)=n*16384+16384:=Sp (by omega) (by omega);simp at e82;simp[T9,YX.writes,z1,z2,z3,ZZ hp,e82];exact⟨rfl,⟨e,rfl,rfl,E3⟩,M3⟩
 |r rest code ZH =>
   obtain⟨e,rfl,rfl,E1⟩:=s;simp only[YX.bit]at hb Ta ⊢;have hE:=E1;obtain⟨va,da,_⟩:=E1;have e81:=LZ da so.1;obtain⟨h4,dg,E4,M4⟩:=JH hE so Ta.1 Ta.2.1 Ta.2.2;obtain⟨b,KQ⟩:∃b,b=value code ZH/16384:=⟨_,rfl⟩
   rw[<-KQ]at dg hb E4 ⊢;have hd:((value code ZH:Nat):Int).tdiv 16384=(b:Int):=by rw[Int.tdiv_eq_ediv_of_nonneg (by omega),KQ];simp
   have z0:IntKind.u32.wrap (b:Int)=b:=Sp (by omega) (by omega);have z1:IntKind.i64.wrap (b:Int)=b:=ZS (by omega) (by omega);have z2:IntKind.u32.wrap ((b:Int)*16384)=b*16384:=Sp (by omega) (by omega);have z3:IntKind.u32.wrap ((b:Int)*16384+16384)=b*16384+16384:=Sp (by omega) (by omega);simp at dg;simp[T9,YX.writes,ZZ hp,e81,hd,z0,z1,z2,z3,dg];exact⟨rfl,⟨e,rfl,rfl,E4.mono λb hb hd=>.inl hd⟩,M4⟩
theorem mF{a:Nat}(ha:a<4611686018427387904)(hb:b<2):IntKind.i64.wrap ((BitVec.ofInt 64 (2*(a:Int)) ||| BitVec.ofInt 64 (b:Int)).toNat:Int)=((2*a+b:Nat):Int):=by
 have e1:(BitVec.ofInt 64 (2*(a:Int))).toNat=2*a:=by
   rw[show (2*(a:Int))=((2*a:Nat):Int)by simp,BitVec.ofInt_natCast,BitVec.toNat_ofNat,Nat.mod_eq_of_lt (by omega)]
 have e2:(BitVec.ofInt 64 (b:Int)).toNat=b:=by
   rw[BitVec.ofInt_natCast,BitVec.toNat_ofNat,Nat.mod_eq_of_lt (by omega)]
 rw[BitVec.toNat_or,e1,e2];have:=Nat.shiftLeft_add_eq_or_of_lt (a:=a) (i:=1) (b:=b) (by omega);rw[Nat.shiftLeft_eq,Nat.pow_one,Nat.mul_comm a 2]at this;rw[<-this];exact ZS (by omega) (by omega)
open Go.Zf (ZS)
def St.num(st:St)(n v:Nat):St:=⟨(bits n v 0 st.sd).2,st.S,st.ad,st.n+n⟩
def St.WG(st:St)(n v:Nat):Nat:=(bits n v 0 st.sd).1
theorem YX.Wt(sd:YX)(lo hi:Nat):(sd.code lo hi).writes=sd.writes:=by cases sd<;>rfl
theorem rY{v:Int}(hv:sd.writes=true->0<=v)(j:Nat):sd.bit (v.fdiv (2^j)%2).toNat=sd.bit (v.toNat/2^j%2):=by
 cases sd with
 |w out low ZH =>
   have h0:=hv rfl;obtain⟨n,rfl⟩:∃n:Nat,v=n:=⟨v.toNat,by omega⟩
   show ((n:Int).fdiv (2^j)%2).toNat=(n:Int).toNat/2^j%2
   rw[Int.toNat_natCast,Int.fdiv_eq_ediv_of_nonneg _ (Int.pow_nonneg (by decide))];have:((n:Int)/2^j%2)=((n/2^j%2:Nat):Int):=by simp
   rw[this,Int.toNat_natCast]
 |r rest code ZH=>rfl
structure I29(h0:H)(Ds:Nat->Prop)(p m n:Nat)(v:Int)(vo vi:V)(c:List V)(dO:YX)(j:Nat)(e:E)(g:H):Prop where
 hj:j<=n
 md:Mod Ds h0 g
 q:∃sd out,Xp (grow Ds h0 g) g vo vi sd/\Yp (m+(n-j)) sd/\sd.writes=dO.writes/\out<pw (n-j)/\bits j v.toNat out sd=bits n v.toNat 0 dO/\e.s [0,1,2,6,7,8,9,10,11,36,37] 8=.int .i64 (out:Nat)
 e0:e.s [0,1,2,6,7,8,9,10,11,36,37] 0=.ptr p 0
 e1:e.s [0,1,2,6,7,8,9,10,11,36,37] 1=.int .i64 n
 e2:e.s [0,1,2,6,7,8,9,10,11,36,37] 2=.int .i64 v
 FD:e.s [0,1,2,6,7,8,9,10,11,36,37] 36=.int .i64 n
 sE:e.s [0,1,2,6,7,8,9,10,11,36,37] 37=.int .i64 ((n-j:Nat):Int)
theorem mE{Ds:Nat->Prop}{v:Int}{bn:V}{Af:YX}(hp:h.get p=some (.cells [vo,vi,vs,ba,bn] 92 false))(KR:¬Ds p)(hn:n<=30)(hm:m+n<100000000)(hv:Af.writes=true->0<=v)(hi:I29 h Ds p m n v vo vi [] Af n e g):
   ∃e' g',ZI (Hk KW ZI) e g=some ⟨.ex 1,e',g'⟩/\I29 h Ds p m n v vo vi [] Af 0 e' g':=by
 have loop:=Zd (body:=Hk KW ZI) (I29 h Ds p m n v vo vi [] Af) (λs=>s.x=.ex 1/\I29 h Ds p m n v vo vi [] Af 0 s.e s.h)
   (λj e g hi=>by
    obtain⟨hj,md,⟨sd,out,q1,q2,q3,q4,q5,e8⟩,e0,e1,e2,FD,sE⟩:=hi;have Rw:=H.ZW hp;have hpg:g.get p=_:=(md.get p Rw KR).trans hp;have dN:=md.n;cases j with
    |zero =>
     simp[Hk,FD,sE];exact⟨rfl,hj,md,⟨sd,out,q1,q2,q3,q4,q5,by simp[e8]⟩,by simp[e0],by simp[e1],by simp[e2],by simp[FD],by simp[sE]⟩
    |succ j =>
     obtain⟨i,hi⟩:∃i,i=n-(j+1):=⟨_,rfl⟩
     have Tw:n-j=i+1:=by omega
     rw[<-hi]at sE q2 q4;obtain⟨y,hy⟩:∃y,y=v.fdiv (2^j)%2:=⟨_,rfl⟩
     have FH:0<=y/\y<2:=by rw[hy];omega
     obtain⟨w,g1,e56,rfl,s1,M1⟩:=(xv (D:=grow Ds h g) hpg q1 q2 FH).elim;have hb:=rY (sd:=sd) (v:=v) (by rw[q3];exact hv) j;rw[<-hy]at hb;rw[hb]at e56 s1;have Ae:=YX.MP (v:=v.toNat/2^j%2) (by omega) sd;have sF:pw i<=pw 30:=Nat.pow_le_pow_right (by decide) (by omega);have mW:pw (i+1)=2*pw i:=by simp[pw,Nat.pow_succ,Nat.mul_comm]
     have kqZ:pw 30=1073741824:=by decide
     have z1:IntKind.i64.wrap ((n:Int)-1)=n-1:=ZS (by omega) (by omega);have z2:IntKind.i64.wrap ((n:Int)-1-(i:Int))=(j:Int):=by rw[ZS (by omega) (by omega)];omega
     have z3:IntKind.i64.wrap ((i:Int)+1)=i+1:=ZS (by omega) (by omega);have TK:min j IntKind.i64.bits=j:=Nat.min_eq_left (by rw[show IntKind.i64.bits=64 from rfl];omega);have mk:ZQ 0 .and (.int .i64 (v.fdiv (2^j))) (.int .i64 1)=some (.int .i64 y):=by
      have:=Oz 0 (v.fdiv (2^j)) 1 (by decide);rw[hy];simpa using this
     obtain⟨b,KQ⟩:∃b,b=sd.bit (v.toNat/2^j%2):=⟨_,rfl⟩
     rw[<-KQ]at e56 s1 Ae;have z4:IntKind.i64.wrap ((out:Int)*2)=2*out:=by rw[ZS (by omega) (by omega)];omega
     have mo:ZQ 0 .or (.int .i64 (2*(out:Int))) (.int .i64 (b:Nat))=some (.int .i64 ((2*out+b:Nat):Int)):=by
      rw[S4];exact congrArg (λx=>some (V.int .i64 x)) (mF (by omega) Ae.1)
     have mD:min (1:Nat) IntKind.i64.bits=1:=rfl;simp[-WC,-S4,Hk,FD,sE,show (i:Int)<n by omega,show i<n by omega,e0,e1,z1,z2,e2,show ¬(j:Int)<0 by omega,TK,mk,e56,e8,mD,z4,mo,z3];have M2:Mod Ds h g1:=md.trans M1;refine⟨j,Nat.lt_succ_self j,by omega,M2,⟨_,2*out+b,s1.mono λd hd Sk=>?_,?_,by rw[YX.Wt];exact q3,by rw[Tw,mW];omega,?_,by simp⟩,by simp[e0],by simp[e1],by simp[e2],by simp[FD],by simp[Tw]⟩
     .rcases Sk with (Fs|Fs)|Fs
      .exact .inl Fs
      .exact .inr ⟨Fs.1,hd⟩
      .exact .inr ⟨by omega,hd⟩
     .rw[Tw,<-Nat.add_assoc];exact YX.Pu q2 (by omega) Ae.2
     .rw[<-q5,bits,<-KQ])
 obtain⟨⟨x,e',g'⟩,r1,r2,r3⟩:=loop n e g hi;simp only at r2 r3;subst r2;exact⟨e',g',r1,r3⟩
open Go.Zf (ZS)
theorem JG{v:Int}(a:Zy D h p m st)(hn:n<=30)(hm:m+n<100000000)(hv:st.sd.writes=true->0<=v/\v<pw n):
   RT (λw h'=>w=.Zt [.int .i64 (st.WG n v.toNat:Nat),.int .i64 0]/\Zy (grow D h h') h' p (m+n) (st.num n v.toNat)/\Mod D h h') (KW 84 [.ptr p 0,.int .i64 n,.int .i64 v] h):=by
 obtain⟨vo,vi,vs,Ds,Dw,h1,h2,h3,h4,h5,h6,h7,h8,h9⟩:=a;have Bz:=TJ h1 h3;have T9:=Xt h1 h3;have Rw:=H.ZW h1;have KR:¬Ds p:=λhb=>(h8 p hb).2.1 rfl;obtain⟨e',g',r1,I⟩:=mE (v:=v) (n:=n) (m:=m) h1 KR hn hm (λhw=>(hv hw).1)
   (e:=⟨[.ptr p 0,.int .i64 n,.int .i64 v,.int .i64 0,.int .i64 0,.int .i64 0,.Zt [],.Zt [],.Zt [],.int .i64 n,.int .i64 0],37,.int .i64 0⟩) (g:=h)
   ⟨Nat.le_refl _,Mod.refl _ _,⟨st.sd,0,h3.mono λb _ hb=>.inl hb,by rw[Nat.sub_self];exact h4,rfl,by rw[Nat.sub_self];decide,rfl,by simp⟩,by simp,by simp,by simp,by simp,by simp⟩
 obtain⟨_,md,⟨sd,out,q1,q2,q3,q4,q5,e8⟩,e0,e1,e2,FD,sE⟩:=I;have dM:(out,sd)=bits n v.toNat 0 st.sd:=q5;have yf:out=st.WG n v.toNat:=by rw[St.WG,<-dM]
 have OW:sd=(st.num n v.toNat).sd:=by rw[St.num,<-dM]
 rw[Nat.sub_zero]at q2;have mn:=md.n;have JQ:g'.get p=_:=(md.get p Rw KR).trans h1;obtain⟨g5,UR⟩:∃x,x=g'.put p (.cells [vo,vi,vs,.bool st.ad,.int .i64 (st.n+n)] 92 false):=⟨_,rfl⟩
 have By:g'.WO p 4 (.int .i64 (st.n+n))=some g5:=by rw[Zw JQ (by simp),UR];rfl
 have zn:IntKind.i64.wrap (st.n+n)=st.n+n:=ZS (by omega) (by omega);have S9:Zy (grow D h g5) g5 p (m+n) (st.num n v.toNat)/\Mod D h g5:=by
   have hn5:g5.n=g'.n:=by rw[UR,H.ZJ]
   refine⟨⟨vo,vi,vs,grow Ds h g',Dw,?_,.inl h2,?_,?_,?_,h6,?_,λb hb=>?_,λb hb=>?_⟩,⟨by omega,λd hd Sk=>?_⟩⟩
   .rw[UR,ZV (H.ZW JQ)];rfl
   .rw[<-OW]
    exact q1.keep λb hb Yv=>by
     rw[UR,ZX];rintro rfl;rcases hb with hb|hb
     .exact KR hb
     .omega
   .rw[<-OW];exact q2
   .exact h5.keep λb hb Yv=>by rw[UR,ZX (h9 b hb).2.1,md.get b Yv (h9 b hb).2.2.2]
   .show 0<=st.n+n/\st.n+n<=100*((m+n:Nat):Int);omega
   .rcases hb with hb|hb
    .have:=h8 b hb;exact⟨.inl this.1,this.2.1,by omega⟩
    .exact⟨.inr ⟨by omega,by omega⟩,by omega,by omega⟩
   .have:=h9 b hb
    refine⟨.inl this.1,this.2.1,by omega,?_⟩;rintro (h|h)
    .exact this.2.2.2 h
    .omega
   .rw[UR,ZX (λe=>Sk (by rw[e];exact h2)),md.get d hd (λhb=>Sk (h8 d hb).1)]
 rw[<-yf];rw[W3 r84,s84];cases hw:st.sd.writes with
 |false =>
   rw[hw]at T9;simp[Bz,show ¬(n:Int)<0 by omega,show ¬(30:Int)<n by omega,show ¬30<n by omega,T9,Vt,r1,e0,ZZ JQ,e1,zn,By,e8];exact⟨rfl,S9⟩
 |true =>
   rw[hw]at T9;have HC:=hv hw;have TK:min n IntKind.i64.bits=n:=Nat.min_eq_left (by rw[show IntKind.i64.bits=64 from rfl];omega);have mD:v.fdiv (2^n)=0:=by
    rw[Int.fdiv_eq_ediv_of_nonneg _ (Int.pow_nonneg (by decide))];apply Int.ediv_eq_zero_of_lt HC.1;have:=HC.2;rw[pw]at this;simpa using this
   simp[Bz,show ¬(n:Int)<0 by omega,show ¬(30:Int)<n by omega,show ¬30<n by omega,T9,show ¬v<0 by omega,TK,mD,Vt,r1,e0,ZZ JQ,e1,zn,By,e8];exact⟨rfl,S9⟩
theorem Qs(a:Zy D h p m st):KW 12 [.ptr p 0] h=some (.ret (.int .i64 st.n),h):=by
 obtain⟨vo,vi,vs,Ds,Dw,h1,h2,h3,h4,h5,h6,h7,h8,h9⟩:=a;have Bz:=TJ h1 h3;rw[W1 r12,s12];simp[Bz,ZZ h1]
open Go.Zf (ZS)
def rX(S:List (List Tb))(ad:Bool):St:=⟨.w [] 0 4294967295,S,ad,0⟩
def E9(l:List Nat)(S:List (List Tb))(ad:Bool):St:=⟨.r (VK l).1 (VK l).2 4294967295,S,ad,0⟩
theorem Gx(u:Xe D h v S)(ok:Yw S)(ad:Bool):
   RT (λw h'=>∃p,w=.Zt [.ptr p 0,.int .i64 0]/\Zy (λb=>h.n<=b) h' p 0 (rX S ad)/\Ext h h') (KW 8 [.agg [v],.bool ad] h):=by
 obtain⟨h1,b1,x1,g1,n1,u1⟩:=Pw u;obtain⟨w,h2,cY,rfl,x2⟩:=(LO u1 ok.small).elim;rw[if_pos ok]at cY;obtain⟨h3,xu,E3,m3,f3⟩:=xX h2;have x3:Ext h2 h3:=⟨by omega,f3⟩
 have gZ:=x2.n;obtain⟨w,h4,OU,v',rfl,W,x4⟩:=(Ou ((u1.ext x2).ext x3) ok.small).elim;have g2:h2.get h.n=_:=(x2.get _ (H.ZW g1)).trans g1;have g3:h3.get h.n=_:=(x3.get _ (H.ZW g2)).trans g2;obtain⟨h5,Vv⟩:∃g,g=h4.new (.cells [.ptr h2.n 0,.Zh,v',.bool ad,.int .i64 0] 92 false):=⟨_,rfl⟩
 have x5:Ext h4 h5:=by rw[Vv];exact (Ext.refl h4).new _
 have n5:h5.n=h4.n+1:=by rw[Vv,H.ZP]
 have r5:h5.get h4.n=some (.cells [.ptr h2.n 0,.Zh,v',.bool ad,.int .i64 0] 92 false):=by rw[Vv,ZY]
 have dU:=x4.n;have B7:bx h4 92 (.agg [.ptr h2.n 0,.Zh,v',.bool ad,.int .i64 0])=some (.ptr h4.n 0,h5):=by rw[Vv];rfl
 have dH:V.cells v'=some [v']:=by
   obtain⟨cs,k1,k2⟩:=W.OB;exact k1.cells
 rw[W2 r8,s8];simp[b1,ZU (o:=0) (n:=1) g1 (by simp),cY,xu,ZU (o:=0) (n:=1) g2 (by simp),ZU (o:=0) (n:=1) g3 (by simp),OU,bl,YD,splice,dH,B7,ck,V.same,V.Xm,u.Tl];have Oo:=u.Tl (some ());simp[ck]at Oo;simp[Oo];refine⟨h4.n,rfl,⟨.ptr h2.n 0,.Zh,v',λb=>b=h2.n,λb=>h3.n<=b/\b<h4.n,r5,(show h.n<=h4.n by omega),⟨h2.n,rfl,rfl,.ZO,?_,rfl,λc o n k e=>by cases e⟩,⟨⟨by decide,by decide,by decide⟩,by simp,by decide⟩,?_,ok,⟨Int.le_refl _,Int.le_refl _⟩,λb hb=>?_,λb hb=>?_⟩,?_⟩
 . exact⟨by rw[x5.get _ (by omega),x4.get _ (by omega)];exact E3.cell,.inl ⟨rfl,rfl⟩,E3.byte,E3.NN⟩
 . exact ((W.EU ok.full).mono λb hb hd=>⟨hd,hb⟩).ext x5
 . have hb:b=h2.n:=hb
   exact⟨(show h.n<=b by omega),by omega,by omega⟩
 . exact⟨(show h.n<=b by omega),by omega,by omega,(show ¬b=h2.n by omega)⟩
 . exact (((x1.trans x2).trans x3).trans x4).trans x5
theorem NT{bv:V}(sb:Jd h bv l)(hl:l.length<140737488355329)(hb:∀x∈l,x<256)(u:Xe D h v S)(ok:Yw S)(ad:Bool):
   RT (λw h'=>∃p,w=.Zt [.ptr p 0,.int .i64 0]/\Zy (λb=>h.n<=b) h' p 0 (E9 l S ad)/\Ext h h') (KW 17 [bv,.agg [v],.bool ad] h):=by
 obtain⟨h1,b1,x1,g1,n1,u1⟩:=Pw u;obtain⟨w,h2,cY,rfl,x2⟩:=(LO u1 ok.small).elim;rw[if_pos ok]at cY;have gZ:=x2.n;obtain⟨h3,q,v3,e51,ye,q1,q2,f3⟩:=Bv ((sb.keep x1.get).keep x2.get) hl hb;have dI:h2.n<=h3.n:=by omega
 have x3:Ext h2 h3:=⟨dI,f3⟩
 have E3:=ye (λc=>c=q\/¬(h2.n<=c/\c<h3.n)) (.inl rfl) (λc c1 c2 c3=>by rintro (e|e);exact c3 e;exact e ⟨c1,c2⟩);obtain⟨w,h4,OU,v',rfl,W,x4⟩:=(Ou ((u1.ext x2).ext x3) ok.small).elim;have g2:h2.get h.n=_:=(x2.get _ (H.ZW g1)).trans g1;have g3:h3.get h.n=_:=(x3.get _ (H.ZW g2)).trans g2;obtain⟨h5,Vv⟩:∃g,g=h4.new (.cells [.Zh,.ptr q 0,v',.bool ad,.int .i64 0] 92 false):=⟨_,rfl⟩
 have x5:Ext h4 h5:=by rw[Vv];exact (Ext.refl h4).new _
 have n5:h5.n=h4.n+1:=by rw[Vv,H.ZP]
 have r5:h5.get h4.n=some (.cells [.Zh,.ptr q 0,v',.bool ad,.int .i64 0] 92 false):=by rw[Vv,ZY]
 have dU:=x4.n;have B7:bx h4 92 (.agg [.Zh,.ptr q 0,v',.bool ad,.int .i64 0])=some (.ptr h4.n 0,h5):=by rw[Vv];rfl
 have dH:V.cells v'=some [v']:=by
   obtain⟨cs,k1,k2⟩:=W.OB;exact k1.cells
 have dG:=JO hb;have Oo:=u.Tl (some ());simp[ck]at Oo;rw[W3 r17,fx];simp[b1,ZU (o:=0) (n:=1) g1 (by simp),cY,e51,ZU (o:=0) (n:=1) g2 (by simp),ZU (o:=0) (n:=1) g3 (by simp),OU,bl,YD,splice,dH,B7,ck,V.same,V.Xm,Oo];have hE3:LN (λc=>h2.n<=c/\c<h3.n) h3 q (VK l).1 (VK l).2 4294967295:=⟨v3,E3,⟨q1,q2⟩⟩
 refine⟨h4.n,rfl,⟨.Zh,.ptr q 0,v',λb=>h2.n<=b/\b<h3.n,λb=>h3.n<=b/\b<h4.n,r5,(show h.n<=h4.n by omega),⟨q,rfl,rfl,hE3.keep λb hb Yv=>by rw[x5.get _ (by omega),x4.get _ Yv]⟩,⟨dG.1,dG.2,by decide⟩,?_,ok,⟨Int.le_refl _,Int.le_refl _⟩,λb hb=>?_,λb hb=>?_⟩,?_⟩
 . exact ((W.EU ok.full).mono λb hb hd=>⟨hd,hb⟩).ext x5
 . exact⟨(show h.n<=b by omega),by omega,by omega⟩
 . exact⟨(show h.n<=b by omega),by omega,by omega,λh=>by omega⟩
 . exact (((x1.trans x2).trans x3).trans x4).trans x5
theorem ED(a:Zy D h p m st)(hs:st.sd=.w out low ZH):
   RT (λw h'=>∃v,w=.Zt [v,.int .i64 0]/\Wr h' h.n v (bytes out low)/\Ext h h') (KW 16 [.ptr p 0] h):=by
 obtain⟨vo,vi,vs,Ds,Dw,h1,h2,h3,h4,h5,h6,h7,h8,h9⟩:=a;have Bz:=TJ h1 h3;have T9:=Xt h1 h3;rw[hs]at T9 h3 h4;obtain⟨e,rfl,rfl,v,ea,_⟩:=h3;obtain⟨h',v',k1,k2,k3,k4⟩:=EL ea h4.1 (by have:=h4.2.1;have:=h4.2.2;omega);rw[W1 ku,nX];simp[Bz,T9,YX.writes,ZZ h1,k1];exact⟨v',rfl,k2,k3,k4⟩
open Go.Zf (ZS)
theorem Zy.mod{E:Nat->Prop}(a:Zy D h p m st)(x:Mod E h h')(hd:∀b,D b->b<h.n->¬E b):Zy D h' p m st :=
 a.keep x.n λb hb Yv=>x.get b Yv (hd b hb Yv)
theorem Zy.ext(a:Zy D h p m st)(x:Ext h h'):Zy D h' p m st:=a.keep x.n λb _ hb=>x.get b hb
theorem Zy.under(a:Zy D h p m st):Zy (λb=>D b/\b<h.n) h p m st:=a.mono λb hb hd=>⟨hd,hb⟩
def Alike(a b:List Nat):Prop:=∀i,a.getD i 0=b.getD i 0
theorem Alike.head{a b:List Nat}(h:Alike a b):a.headD 0=b.headD 0:=by
 have:=h 0;cases a<;>cases b<;>first|rfl|(simpa using this)
theorem Alike.tail{a b:List Nat}(h:Alike a b):Alike a.tail b.tail:=λi=>by
 have:=h (i+1);cases a<;>cases b<;>first|rfl|(simpa using this)
theorem Alike.KT:∀(n:Nat) {a b:List Nat} (c:Nat),Alike a b->Alike (KT n a c).1 (KT n b c).1/\(KT n a c).2=(KT n b c).2
 |0,a,b,c,h=>⟨h,rfl⟩
 |n+1,a,b,c,h=>by
   simp only[YtbkmdnmncaakdaaGreat.KT];rw[h.head];exact Alike.KT n _ h.tail
theorem Alike.read{a b:List Nat}(h:Alike a b):Alike (VK a).1 (VK b).1/\(VK a).2=(VK b).2:=by
 have:=Alike.KT 4 0 h;exact⟨this.1,by simp only[VK,this.2]⟩
theorem Alike.Yj:∀(n:Nat) {a b:List Nat} (c w:Nat),Alike a b->Alike (YN n a c w).1 (YN n b c w).1/\(YN n a c w).2=(YN n b c w).2
 |0,a,b,c,w,h=>⟨h,rfl⟩
 |n+1,a,b,c,w,h=>by
   simp only[YN];split
   .rw[h.head]
    exact Alike.Yj n _ _ h.tail
   .exact⟨h,rfl⟩
theorem Alike.take{a b:List Nat}(h:Alike a b)(c r lo hi:Nat):Alike (take a c r lo hi).1 (take b c r lo hi).1/\(take a c r lo hi).2=(take b c r lo hi).2:=Alike.Yj 3 _ _ h
def bev(l:List Nat):Nat:=l.foldl (λa b=>a*256+b) 0
def at_(out:List Nat)(low:Nat):Nat:=bev out*4294967296+low
def steps:Nat->Nat->Nat
 |0,_=>0
 |n+1,w=>if w<16777216 then steps n (w*256)+1 else 0
structure kqM(out:List Nat)(low wide:Nat):Prop where
 byte:∀x∈out,x<256
 lw:low+wide<8589934592
 fit:at_ out low+wide<=4294967296*256^out.length
 pos:0<wide
def Sh(E R L E' R' L':Nat):Prop:=∃d,L'=L+d/\E*256^d<=E'/\E'+R'<=(E+R)*256^d
theorem Sh.refl(E R L:Nat):Sh E R L E R L:=⟨0,by simp,by simp,by simp⟩
theorem Sh.trans{a c d e f g h:Nat}(x:Sh a b c d e f)(y:Sh d e f g h i):Sh a b c g h i:=by
 obtain⟨m,x1,x2,x3⟩:=x;obtain⟨n,y1,y2,y3⟩:=y;refine⟨m+n,by omega,?_,?_⟩
 . rw[Nat.pow_add,<-Nat.mul_assoc]
   exact Nat.le_trans (Nat.mul_le_mul_right _ x2) y2
 . rw[Nat.pow_add,<-Nat.mul_assoc]
   exact Nat.le_trans y3 (Nat.mul_le_mul_right _ x3)
abbrev Sr:=List Nat×Nat×Nat
def cX(s:Sr)(p:Nat×Nat):Sr:=put s.1 s.2.1 s.2.2 p.1 p.2
def kqL(s:Sr)(ps:List (Nat×Nat)):Sr:=ps.foldl cX s
def SOk(s:Sr):Prop:=kqM s.1 s.2.1 s.2.2/\Iw s.2.1 s.2.2
def MO(s t:Sr):Prop:=Sh (at_ s.1 s.2.1) s.2.2 s.1.length (at_ t.1 t.2.1) t.2.2 t.1.length
def pre(B:List Nat):Nat->Nat
 |0=>0
 |k+1=>pre B k*256+B.getD k 0
attribute [irreducible] pre
abbrev wS(s:Sr):YX:=.w s.1 s.2.1 s.2.2
abbrev s0:Sr:=([],0,4294967295)
def cW(B:List Nat)(s:Sr):YX:=.r (B.drop (s.1.length+4)) (pre B (s.1.length+4)-at_ s.1 s.2.1) s.2.2
theorem MO.trans{a b c:Sr}(x:MO a b)(y:MO b c):MO a c:=Sh.trans x y
attribute [local irreducible] cX kqL at_ take value VK part bytes steps
attribute [local irreducible] cW
inductive Op where
 |num (n v:Nat)
 |sym (k c v:Nat)
def Op.ok:Op->Prop
 |.num n v=>n<31/\v<2^n
 |.sym k c v=>k<32/\c<cx k/\v<vl k
def St.step(st:St):Op->St
 |.num n v=>st.num n v
 |.sym k c v=>st.sym k c v
def St.run(st:St)(l:List Op):St:=l.foldl St.step st
def fA(B:List Nat)(s:Sr)(st:St):St:=⟨cW B s,st.S,st.ad,st.n⟩
end Go.Proofs.YtbkmdnmncaakdaaGreat
