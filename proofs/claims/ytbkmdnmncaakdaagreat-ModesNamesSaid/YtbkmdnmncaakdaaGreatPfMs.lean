import Derived.Test.YtbkmdnmncaakdaaGreatPfMq
set_option linter.unusedVariables false
set_option linter.unusedSimpArgs false
set_option maxRecDepth 20000
namespace Go.Proofs.YtbkmdnmncaakdaaGreat
open Go Go.Zf
open Go.Zf (ZS)
theorem yH(p b:Nat)(t tb:TypeId)(c1 c2:V)(len:Nat):∀(k:Nat) (pre suf:List Nat) (h:H) (e:E),pre.length=k->(∀x∈pre,x<256)->(pre++suf).length=len->len<1099511627776 ->
   h.get p=some (.cells [.sl b 0 len (.op 1),c1,c2] t false)->h.get b=some (.cells (ZG (pre++suf)) tb false)->p≠b ->
   e.s [0,2] 0=.ptr p 0->e.s [0,2] 2=.int .i64 ((k:Int)-1) ->
   ∃e' h' cur,ZI (Sv KW ZI) e h=some ⟨.ex 0,e',h'⟩/\e'.s [0,2] 0=.ptr p 0/\E8 h b (.cells cur tb false) h'/\cur.length=len /\
    (
     (e'.s [0,2] 2=.int .i64 (-1)/\cur=ZG (inc pre++suf)) \/
     ∃m x:Nat,e'.s [0,2] 2=.int .i64 m/\m<len/\cur[m]?=some (.int .u8 x)/\x<255/\cur.set m (.int .u8 ((x+1:Nat):Int))=ZG (inc pre++suf))
  |0,pre,suf,h,e,hk,hp,hl,hs,Am,HF,hn,PS,Fk=>by
   have:pre=[]:=List.length_eq_zero_iff.mp hk;subst this;rw[Zi];simp[Sv,PS,Fk];exact⟨_,_,⟨rfl,rfl⟩,by simp,_,E8.refl HF,by simpa using hl,.inl ⟨by simp,rfl⟩⟩
  |k+1,pre,suf,h,e,hk,hp,hl,hs,Am,HF,hn,PS,Fk=>by
   obtain⟨pr,x,rfl⟩:∃pr x,pre=pr++[x]:=by
    rcases List.eq_nil_or_concat pre with h0|⟨a,b,h0⟩
    . subst h0;simp at hk
    . exact⟨a,b,by simpa using h0⟩
   have PQ:pr.length=k:=by simpa using hk
   have hx:x<256:=hp x (by simp);have qj:k<len:=by simp at hl;omega
   have Al:(ZG (pr++[x]++suf))[k]?=some (.int .u8 x):=by
    simp[ZG,<-PQ]
   have PC:∀y:Nat,(ZG (pr++[x]++suf)).set k (.int .u8 y)=ZG (pr++[y]++suf):=by
    intro y;simp[ZG,<-PQ]
   have HE:=H.ZW HF;have Rw:=H.ZW Am;have kq8:=HF;obtain⟨c,hc⟩:∃c,c=ZG (pr++[x]++suf):=⟨_,rfl⟩
   have V3:c.length=len:=by rw[hc];simpa using hl
   rw[<-hc]at HF Al PC;have hw:=λv=>Zw HF (o:=k) (by omega) v;have hpb:∀v,(h.put b v).get p=h.get p:=λv=>ZX hn;by_cases eQ:x=255
   .subst eQ
    have hz:c.set k (.int .u8 0)=ZG (pr++[0]++suf):=PC 0;have XQ:(h.put b (.cells (ZG (pr++[0]++suf)) tb false)).get b=some (.cells (ZG (pr++[0]++suf)) tb false):=ZV HE;obtain⟨c',SV⟩:∃c',c'=ZG (pr++[0]++suf):=⟨_,rfl⟩
    obtain⟨h1,ZL⟩:∃h1,h1=h.put b (.cells c' tb false):=⟨_,rfl⟩
    have BM:h1.get p=some (.cells [.sl b 0 len (.op 1),c1,c2] t false):=by rw[ZL,hpb,Am]
    rw[<-SV]at hz XQ;rw[<-ZL]at XQ;rw[Zi];simp[Sv,PS,Fk,ZZ Am,ZZ HF,Al,qj,hw,hz,J2,<-ZL];rw[ZS (by omega) (by omega)];obtain⟨e',h',cur,i1,i2,i3,i4,i5⟩:=yH p b t tb c1 c2 len k pr (0::suf) h1 ⟨[V.ptr p 0,V.int IntKind.i64 ((k:Int)-1)],2,V.int IntKind.i64 ((k:Int)-1)⟩ PQ (λx hx=>hp x (by simp[hx]))
      (by simpa using hl) hs BM (by rw[XQ,SV];simp) hn (by simp) (by simp)
    have hu:E8 h b (.cells c' tb false) h1:=by rw[ZL];exact Iz HE _
    refine⟨e',h',i1,i2,cur,hu.trans i3,i4,?_⟩;rw[PB];simpa using i5
   .rw[Zi]
    have Wp:¬((x:Int)=255):=by omega
    simp[Sv,PS,Fk,ZZ Am,ZZ HF,Al,qj,hw,Wp];refine⟨_,_,⟨rfl,rfl⟩,by simp,c,E8.refl HF,V3,.inr ⟨k,by simp,qj,x,Al,by omega,?_⟩⟩;rw[PB,if_neg eQ];simpa using PC (x+1)
noncomputable def t31 (K:Zs) (L:Yy) (e:E) (h:H):Out :=
 sq (bd (XC (e.s YQ 0)) λt55 =>
 bd (fa 0 t55) λt56 =>
 bd (ld h t56) λt57 =>
 bd (XC (e.s YQ 0)) λt59 =>
 bd (fa 1 t59) λt60 =>
 bd (ld h t60) λt61 =>
 bd (ZQ 0 .quo t61 (.int .u64 16777216)) λt62 =>
 bd (cv .u8 t62) λt63 =>
 bf (bs h 5 1 [(.int .u8 0)] [(some (0,1),t63)]) λt64 h1 =>
 bf (Vk 5 1 1 h1 t57 t64) λt65 h2 =>
 bd (XC (e.s YQ 0)) λt66 =>
 bd (fa 0 t66) λt67 =>
 bf (Zx 1 h2 t67 t65) λ_ h3 =>
 ck (ld h t56) t57 (ck (ld h t60) t61 (some ⟨.nm,⟨[(e.s YQ 0),(e.s YQ 2)],0,(e.s YQ 0)⟩,h3⟩))) λe h =>
 bd (XC (e.s YQ 0)) λt70 =>
 bd (fa 1 t70) λt71 =>
 bd (ld h t71) λt72 =>
 bd (ZQ 0 .rem t72 (.int .u64 16777216)) λt73 =>
 bd (ZQ 0 .mul t73 (.int .u64 256)) λt74 =>
 bd (XC (e.s YQ 0)) λt75 =>
 bd (fa 1 t75) λt76 =>
 bf (Zx 1 h t76 t74) λ_ h1 =>
 some ⟨.nm,⟨[(e.s YQ 0),(e.s YQ 2)],0,(e.s YQ 0)⟩,h1⟩
variable{p:Nat}{v:V}{e:E}
theorem nM{h1:H}{t:TypeId}{ZH:V}{o1:List Nat}{l1:Nat}(he:e.s [0,2] 0=.ptr p 0)(a1:X5 h1 p t v o1 l1 ZH)(hlen:o1.length<1099511627775)(hl1:l1<4294967296):
   ∃h' v',fin Tryz.prog YQ [] (t31 KW ZI e h1)=some (.ret (.Zt []),h')/\X5 h' p t v' (o1++[l1/16777216]) (l1%16777216*256) ZH/\Iy h1 h' (fp p v)/\∀c o n k,v'=.sl c o n k->h1.n<=c:=by
  have nL:=H.ZW a1.cell;obtain⟨x,hx⟩:∃x,x=l1/16777216:=⟨_,rfl⟩
  obtain⟨hn,Dm⟩:∃hn,hn=h1.new (.cells [.int .u8 (x:Int)] 5 false):=⟨_,rfl⟩
  have hnn:hn.n=h1.n+1:=by rw[Dm,H.ZP]
  have Md:hn.Ze h1.n 0 1=some (ZG [x]):=by
   rw[Dm];simp[H.Ze,ZY,ZG]
  have SG:GR hn v o1:=by
   rcases a1.grow with ⟨e1,e2⟩|⟨b,e1,e2,e3⟩
   .exact .inl ⟨e1,e2⟩
   .exact .inr ⟨b,e1,e2,by rw[Dm,ZR (H.ZW e3),e3]⟩
  obtain⟨h2,ha,U0,SS,eO⟩:=J1 SG (cp:=.ex 1) Md rfl (by decide) (by omega);have QP:h2.get p=some (.cells [v,.int .u64 l1,ZH] t false):=by
   rw[eO p (by omega),Dm,ZR nL,a1.cell];intro o n k e;rcases a1.grow with ⟨e1,e2⟩|⟨b,e1,e2,e3⟩
   .rw[e1]at e;cases e
   .rw[e1]at e;cases e;exact NQ a1.cell e3 (by simp[e1]) rfl
  have e1:(l1:Int).tdiv 16777216=(x:Int):=by
   rw[Int.tdiv_eq_ediv_of_nonneg (by omega),hx];rfl
  have e2:IntKind.u8.wrap (x:Int)=(x:Int):=by rw[J2];omega
  have Ak:∀{β:Type} (y:Option β),ck (some v) v y=y:=by
   intro β y;rcases a1.grow with ⟨e1,e2⟩|⟨b,e1,e2,e3⟩<;>rw[e1]<;>simp
  have w1:=λx=>Zw QP (o:=0) (by simp) x;obtain⟨h3,Zc⟩:∃h3,h3=h2.put p (.cells [.sl hn.n 0 (o1.length+1) (.op 1),.int .u64 l1,ZH] t false):=⟨_,rfl⟩
  have NP:h3.get p=some (.cells [.sl hn.n 0 (o1.length+1) (.op 1),.int .u64 l1,ZH] t false):=by rw[Zc];exact ZV (by omega)
  have w3:=λx=>Zw NP (o:=1) (by simp) x;have fin:Iy h1 (h3.put p (.cells [.sl hn.n 0 (o1.length+1) (.op 1),.int .u64 ((l1%16777216*256:Nat):Int),ZH] t false)) (fp p v):=by
   refine⟨by rw[H.ZJ,Zc,H.ZJ];omega,λc hc hs=>?_⟩;have uI:c≠p:=λe=>hs (.inl e);rw[ZX uI,Zc,ZX uI,eO c (by omega) (λo n k e=>hs (.inr ⟨o,n,k,e⟩)),Dm,ZR (by omega)]
  have enc:X5 (h3.put p (.cells [.sl hn.n 0 (o1.length+1) (.op 1),.int .u64 ((l1%16777216*256:Nat):Int),ZH] t false)) p t (.sl hn.n 0 (o1.length+1) (.op 1)) (o1++[l1/16777216]) (l1%16777216*256) ZH:=by
   refine⟨ZV (by rw[Zc,H.ZJ];omega),.inr ⟨hn.n,by simp,by simp,?_⟩,?_,by show _<_;omega⟩
   .rw[ZX (by omega),Zc,ZX (by omega),SS,hx]
   .intro y hy
    rcases List.mem_append.mp hy with hy|hy
    . exact a1.byte y hy
    . simp at hy;omega
  have m1:(l1:Int).tmod 16777216=(l1:Int)%16777216:=Int.tmod_eq_emod_of_nonneg (by omega);have m2:IntKind.u64.wrap ((l1:Int)%16777216*256)=(l1:Int)%16777216*256:=wrap64 (by omega) (by omega);have m3:IntKind.u64.wrap (x:Int)=x:=wrap64 (by omega) (by omega);refine⟨_,_,?_,enc,fin,λc o n k e=>by cases e;omega⟩;rw[t31];simp[he,ZZ a1.cell,bs,YD,e1,e2,m3,V.cells,splice,<-Dm,ha,w1,Ak,<-Zc,ZZ NP,w3,m1,m2]
noncomputable def eN (K:Zs) (L:Yy) (e:E) (h:H):Out :=
 (sq (bd (XC (e.s YQ 0)) λt4 =>
 bd (fa 1 t4) λt5 =>
 bd (ld h t5) λt6 =>
 bd (ZQ 0 .geq t6 (.int .u64 4294967296)) λt7 =>
 some ⟨.nm,⟨[(e.s YQ 0),(e.s YQ 2)],7,t7⟩,h⟩) λe h =>
 br (e.s YQ 7) (sq (bd (XC (e.s YQ 0)) λt9 =>
 bd (fa 0 t9) λt10 =>
 bd (ld h t10) λt11 =>
 bd (Kc t11) λt12 =>
 bd (ZQ 0 .sub t12 (.int .i64 1)) λt13 =>
 some ⟨.nm,⟨[(e.s YQ 0),t13],2,t13⟩,h⟩) λe h =>
 sq (Y9 0 (L (Sv K L) e h)) λe h =>
 sq (sq (bd (ZQ 0 .geq (e.s YQ 2) (.int .i64 0)) λt35 =>
 some ⟨.nm,⟨[(e.s YQ 0),(e.s YQ 2)],35,t35⟩,h⟩) λe h =>
 br (e.s YQ 35) (bd (XC (e.s YQ 0)) λt37 =>
 bd (fa 0 t37) λt38 =>
 bd (ld h t38) λt39 =>
 bd (PY 1 t39 (e.s YQ 2)) λt41 =>
 bd (ld h t41) λt42 =>
 bd (ZQ 0 .add t42 (.int .u8 1)) λt43 =>
 bd (PY 1 t39 (e.s YQ 2)) λt44 =>
 bf (Zx 1 h t44 t43) λ_ h1 =>
 some ⟨.nm,⟨[(e.s YQ 0),(e.s YQ 2)],0,(e.s YQ 0)⟩,h1⟩)
 (some ⟨.nm,e,h⟩)) λe h =>
 bd (XC (e.s YQ 0)) λt47 =>
 bd (fa 1 t47) λt48 =>
 bd (ld h t48) λt49 =>
 bd (ZQ 0 .sub t49 (.int .u64 4294967296)) λt50 =>
 bd (XC (e.s YQ 0)) λt51 =>
 bd (fa 1 t51) λt52 =>
 bf (Zx 1 h t52 t50) λ_ h1 =>
 some ⟨.nm,⟨[(e.s YQ 0),(e.s YQ 2)],0,(e.s YQ 0)⟩,h1⟩)
 (some ⟨.nm,e,h⟩))
theorem nK(K:Zs)(L:Yy)(e:E)(h:H):fZ K L e h=sq (eN K L e h) (t31 K L):=rfl
variable{h:H}{out:List Nat}{low:Nat}
theorem nI{t:TypeId}{ZH:V}(a:X5 h p t v out low ZH)(hlen:out.length<1099511627775)(KF:low<8589934592):
   ∃e' h1 o1 l1,eN KW ZI ⟨[.ptr p 0,V.Wz],0,.ptr p 0⟩ h=some ⟨.nm,e',h1⟩/\e'.s [0,2] 0=.ptr p 0/\X5 h1 p t v o1 l1 ZH/\l1<4294967296/\o1.length=out.length /\
    emit out low=(o1++[l1/16777216],l1%16777216*256)/\Iy h h1 (fp p v)/\h1.n=h.n:=by
  have Rw:=H.ZW a.cell;by_cases hc:4294967296<=low
  .have eM:emit out low=(inc out++[low%4294967296/16777216],low%4294967296%16777216*256):=by simp[emit,hc]
   have ml:IntKind.u64.wrap ((low:Int)-4294967296)=(low:Int)%4294967296:=by rw[wrap64 (by omega) (by omega)];omega
   rcases a.grow with ⟨rfl,rfl⟩|⟨b,rfl,Wp,hb⟩
   .have hw:=λv=>Zw a.cell (o:=1) (by simp) v
    have hlp:ZI (Sv KW ZI) ⟨[.ptr p 0,.int .i64 (-1)],2,.int .i64 (-1)⟩ h=some ⟨.ex 0,⟨[.ptr p 0,.int .i64 (-1)],25,.bool false⟩,h⟩:=by
      rw[Zi];simp[Sv]
    simp[eN,ZZ a.cell,show (4294967296:Int)<=low by omega];rw[ZS (by omega) (by omega)];simp[hlp,ZZ a.cell,hw,ml];refine⟨_,_,⟨rfl,rfl⟩,by simp,[],low%4294967296,⟨ZV Rw,.inl ⟨rfl,rfl⟩,by simp,by omega⟩,by omega,rfl,by rw[eM];rfl,⟨Nat.le_refl _,λc hc hs=>ZX λe=>hs (.inl e)⟩,rfl⟩
   .have hn:=NQ a.cell hb (by simp)
    have yG:out.length≠0:=by simpa using Wp
    obtain⟨e',h',cur,i1,i2,i3,i4,i5⟩:=yH p b t 5 (.int .u64 low) ZH out.length out.length out [] h ⟨[.ptr p 0,.int .i64 ((out.length:Int)-1)],2,.int .i64 ((out.length:Int)-1)⟩ rfl a.byte (by simp) (by omega) a.cell (by simpa using hb) hn (by simp) (by simp);have SV:h'.get p=some (.cells [.sl b 0 out.length (.op 1),.int .u64 low,ZH] t false):=by rw[i3.2,if_neg hn,a.cell]
    have RG:h'.get b=some (.cells cur 5 false):=by rw[i3.2,if_pos rfl]
    have hnn:h'.n=h.n:=i3.1;simp only[List.append_nil]at i5;have eL:inc out≠[]:=by intro e;have:=Xq out;rw[e]at this;simp at this;exact yG this.symm
    simp[eN,ZZ a.cell,show (4294967296:Int)<=low by omega];rw[ZS (by omega) (by omega)];rcases i5 with ⟨j1,j2⟩|⟨m,x,j1,j2,j3,j4,j5⟩
    . have hw:=λv=>Zw SV (o:=1) (by simp) v
      simp[i1,i2,j1,ZZ SV,hw,ml];refine⟨_,_,⟨rfl,rfl⟩,by simp,inc out,low%4294967296,⟨ZV (by omega),.inr ⟨b,by rw[Xq],eL,?_⟩,Mc a.byte,by omega⟩,by omega,Xq out,eM,⟨by rw[H.ZJ];omega,λc hc hs=>?_⟩,hnn⟩
      .rw[ZX (Ne.symm hn),RG,j2]
      .rw[ZX λe=>hs (.inl e),i3.2,if_neg λe=>hs (.inr ⟨_,_,_,by rw[e]⟩)]
    . have UE:=λv=>Zw RG (o:=m) (by omega) v
      have hx8:IntKind.u8.wrap ((x:Int)+1)=((x+1:Nat):Int):=by rw[J2];omega
      obtain⟨h2,Zq⟩:∃h2,h2=h'.put b (.cells (ZG (inc out)) 5 false):=⟨_,rfl⟩
      have MS:h2.get p=some (.cells [.sl b 0 out.length (.op 1),.int .u64 low,ZH] t false):=by rw[Zq,ZX hn,SV]
      have Yv:h2.get b=some (.cells (ZG (inc out)) 5 false):=by rw[Zq,ZV (H.ZW RG)]
      have kq7:h2.n=h.n:=by rw[Zq,H.ZJ,hnn]
      have BL:=λv=>Zw MS (o:=1) (by simp) v;simp only[Int.natCast_add,Int.cast_ofNat_Int]at j5 hx8;simp[i1,i2,j1,ZZ SV,ZZ RG,j2,j3,hx8,UE,j5,<-Zq,ZZ MS,BL,ml];refine⟨_,_,⟨rfl,rfl⟩,by simp,inc out,low%4294967296,⟨ZV (by omega),.inr ⟨b,by rw[Xq],eL,?_⟩,Mc a.byte,by omega⟩,by omega,Xq out,eM,⟨by rw[H.ZJ];omega,λc hc hs=>?_⟩,kq7⟩
      .rw[ZX (Ne.symm hn),Yv]
      .rw[ZX λe=>hs (.inl e),Zq,ZX (λe=>hs (.inr ⟨_,_,_,by rw[e]⟩)),i3.2,if_neg λe=>hs (.inr ⟨_,_,_,by rw[e]⟩)]
  .have eM:emit out low=(out++[low/16777216],low%16777216*256):=by simp[emit,hc]
   simp[eN,ZZ a.cell,show ¬(4294967296:Int)<=low by omega];exact⟨_,_,⟨rfl,rfl⟩,by simp,out,low,a,by omega,rfl,eM,⟨Nat.le_refl _,λ_ _ _=>rfl⟩,rfl⟩
theorem sV{t:TypeId}{ZH:V}(a:X5 h p t v out low ZH)(hlen:out.length<1099511627775)(KF:low<8589934592):
   ∃h' v',KW 131 [.ptr p 0] h=some (.ret (.Zt []),h')/\X5 h' p t v' (emit out low).1 (emit out low).2 ZH/\Iy h h' (fp p v)/\∀c o n k,v'=.sl c o n k->h.n<=c:=by
  obtain⟨e',h1,o1,l1,k1,k2,k3,k4,k5,k6,k7,k8⟩:=nI a hlen KF;obtain⟨h',v',m1,m2,m3,m4⟩:=nM k2 k3 (by omega) k4;refine⟨h',v',?_,by rw[k6];exact m2,⟨by have:=m3.1;omega,λc hc hs=>?_⟩,λc o n k e=>by have:=m4 c o n k e;omega⟩
  .rw[W1 Wqy,nK];exact (congrArg (λx=>fin Tryz.prog _ _ (sq x _)) k1).trans m1
  .rw[m3.2 c (by omega) hs,k7.2 c hc hs]
theorem yF(p:Nat)(t:TypeId):∀(n:Nat) (h:H) (v:V) (out:List Nat) (low wide:Nat) (e:E),X5 h p t v out low (.int .u64 wide)->low<8589934592->16777216<=wide*256^n->wide<4294967296->out.length+n<1099511627775 ->
   e.s [0,1,2,6,7,8] 0=.ptr p 0 ->
   ∃e' h' v',ZI (IK KW ZI) e h=some ⟨.ex 0,e',h'⟩/\e'.s [0,1,2,6,7,8] 0=.ptr p 0 /\
    X5 h' p t v' (Yj n out low wide).1 (Yj n out low wide).2.1 (.int .u64 (Yj n out low wide).2.2)/\Nf h h' p v v'
  |n,h,v,out,low,wide,e,a,KF,hw,nH,hlen,PS=>by
   by_cases hc:wide<16777216
   .cases n with
    |zero=>simp at hw;omega
    |succ n =>
      obtain⟨h1,v1,k1,k2,k3,k4⟩:=sV a (by omega) KF;have hm:IntKind.u64.wrap ((wide:Int)*256)=((wide*256:Nat):Int):=by
       rw[wrap64 (by omega) (by omega)];simp
      have UE:=λv=>Zw k2.cell (o:=2) (by simp) v;have US:=H.ZW k2.cell;obtain⟨h2,Zq⟩:∃h2,h2=h1.put p (.cells [v1,.int .u64 ((emit out low).2:Int),.int .u64 ((wide*256:Nat):Int)] t false):=⟨_,rfl⟩
      have k5:X5 h2 p t v1 (emit out low).1 (emit out low).2 (.int .u64 ((wide*256:Nat):Int)):=by
       refine⟨by rw[Zq,ZV US],?_,k2.byte,k2.NN⟩;rcases k2.grow with g|⟨b,g1,g2,g3⟩
       .exact .inl g
       .exact .inr ⟨b,g1,g2,by rw[Zq,ZX (λe=>NQ k2.cell g3 (by simp[g1]) e.symm),g3]⟩
      have k6:Nf h h2 p v v1:=by
       refine⟨⟨by rw[Zq,H.ZJ];exact k3.1,λc hc hs=>?_⟩,.inr k4⟩;rw[Zq,ZX (λe=>hs (.inl e)),k3.2 c hc hs]
      rw[Zi];simp[IK,PS,ZZ a.cell,show (wide:Int)<16777216 by omega,k1,ZZ k2.cell,UE];rw[hm,<-Zq];obtain⟨e',h',v',i1,i2,i4,i5⟩:=yF p t n h2 v1 _ _ (wide*256) ⟨[.ptr p 0,e.s [0,1,2,6,7,8] 1,e.s [0,1,2,6,7,8] 2,e.s [0,1,2,6,7,8] 6,e.s [0,1,2,6,7,8] 7,e.s [0,1,2,6,7,8] 8],0,.ptr p 0⟩ k5
       (by have:=Ix out low;omega) (by rw[Nat.mul_assoc,<-Nat.pow_succ'];exact hw) (by omega) (by rw[Vr];omega) (by simp)
      simp only[Yj,if_pos hc];exact⟨e',h',i1,i2,v',i4,k6.trans i5⟩
   .rw[Zi]
    simp[IK,PS,ZZ a.cell,show ¬(wide:Int)<16777216 by omega];have hr:Yj n out low wide=(out,low,wide):=by cases n<;>simp[Yj,hc]
    rw[hr];exact⟨_,_,⟨rfl,rfl⟩,by simp,v,a,Nf.refl _ _ _⟩
variable{ZH lo hi:Nat}
theorem JZ(h0:16777216<=ZH)(h1:ZH<4294967296)(h2:lo<hi)(h3:hi<=32768)(h:H):
   KW 171 [.int .u64 ZH,.int .u32 lo,.int .u32 hi] h=some (.ret (.Zt [.int .u64 (part ZH lo hi).1,.int .u64 (part ZH lo hi).2]),h):=by
  obtain⟨m1,m2⟩:=WU h0 h1 h2 h3;unfold part at *;have hq:ZH/32768<131072:=by omega
  have e0:(ZH:Int).tdiv 32768=((ZH/32768:Nat):Int):=by rw[Int.tdiv_eq_ediv_of_nonneg (by omega)];rfl
  obtain⟨q,hqq⟩:∃q,q=ZH/32768:=⟨_,rfl⟩
  rw[<-hqq]at m1 m2 e0 hq ⊢;have n1:q*lo<=q*32768:=Nat.mul_le_mul_left _ (by omega);have n2:q*(hi-lo)<=q*32768:=Nat.mul_le_mul_left _ (by omega);have w0:IntKind.u64.wrap (q:Int)=q:=wrap64 (by omega) (by omega);have c1:(q:Int)*lo=((q*lo:Nat):Int):=(Int.natCast_mul q lo).symm;have w1:IntKind.u64.wrap ((q:Int)*lo)=(q:Int)*lo:=by rw[c1];exact wrap64 (by omega) (by omega)
  have w2:IntKind.u64.wrap (lo:Int)=lo:=wrap64 (by omega) (by omega);rw[W3 kq6,eK];by_cases hc:hi=32768
  .subst hc
   simp only[if_true]at m1 m2 ⊢;have w3:IntKind.u64.wrap ((ZH:Int)-(q:Int)*lo)=(ZH:Int)-(q:Int)*lo:=by rw[c1];exact wrap64 (by omega) (by omega)
   have w4:((ZH-q*lo:Nat):Int)=(ZH:Int)-(q:Int)*lo:=by rw[c1];omega
   simp[e0,w0,w1,w2,w3,w4]
  .have SV:¬(hi:Int)=32768:=by omega
   have w3:IntKind.u32.wrap ((hi:Int)-lo)=((hi-lo:Nat):Int):=by rw[wrap32 (by omega) (by omega)];omega
   have w5:IntKind.u64.wrap ((hi-lo:Nat):Int)=((hi-lo:Nat):Int):=wrap64 (by omega) (by omega);have w4:IntKind.u64.wrap ((q:Int)*((hi-lo:Nat):Int))=(q:Int)*((hi-lo:Nat):Int):=by
    rw[<-Int.natCast_mul];exact wrap64 (by omega) (by omega)
   obtain⟨d,hd⟩:∃d,d=hi-lo:=⟨_,rfl⟩
   rw[<-hd]at w3 w4 w5 ⊢;simp[e0,w0,w1,w2,w3,w4,w5,hc,SV]
theorem yE{t:TypeId}(a:X5 h p t v out low (.int .u64 ZH))(inv:Iw low ZH)(hlen:out.length<1099511627000)(h2:lo<hi)(h3:hi<=32768):
   ∃h' v',KW 151 [.ptr p 0,.int .u32 lo,.int .u32 hi] h=some (.ret (.int .i64 0),h') /\
    X5 h' p t v' (put out low ZH lo hi).1 (put out low ZH lo hi).2.1 (.int .u64 (put out low ZH lo hi).2.2)/\Nf h h' p v v':=by
  obtain⟨i1,i2,i3⟩:=inv;obtain⟨m1,m2⟩:=WU i1 i2 h2 h3;have Rw:=H.ZW a.cell;have BK:=JZ i1 i2 h2 h3 h;obtain⟨at_,Iv⟩:∃x,x=(part ZH lo hi).1:=⟨_,rfl⟩
  obtain⟨wd,JY⟩:∃x,x=(part ZH lo hi).2:=⟨_,rfl⟩
  rw[<-Iv,<-JY]at m1 BK;rw[<-JY]at m2;have UE:=λv=>Zw a.cell (o:=1) (by simp) v;obtain⟨h0,E7⟩:∃h0,h0=h.put p (.cells [v,.int .u64 ((low:Int)+at_),.int .u64 ZH] t false):=⟨_,rfl⟩
  have eJ:h0.get p=some (.cells [v,.int .u64 ((low:Int)+at_),.int .u64 ZH] t false):=by rw[E7,ZV Rw]
  have BL:=λv=>Zw eJ (o:=2) (by simp) v;obtain⟨h1,ZL⟩:∃h1,h1=h0.put p (.cells [v,.int .u64 ((low:Int)+at_),.int .u64 wd] t false):=⟨_,rfl⟩
  have a1:X5 h1 p t v out (low+at_) (.int .u64 wd):=by
   refine⟨by rw[ZL,ZV (H.ZW eJ)];simp,?_,a.byte,by omega⟩;rcases a.grow with g|⟨b,g1,g2,g3⟩
   .exact .inl g
   .have:=λe=>NQ a.cell g3 (by simp[g1]) (Eq.symm e)
    exact .inr ⟨b,g1,g2,by rw[ZL,ZX this,E7,ZX this,g3]⟩
  have o1:Nf h h1 p v v:=⟨⟨by rw[ZL,H.ZJ,E7,H.ZJ];exact Nat.le_refl _,λc hc hs=>by rw[ZL,ZX λe=>hs (.inl e),E7,ZX λe=>hs (.inl e)]⟩,.inl rfl⟩
  have ml:IntKind.u64.wrap ((low:Int)+at_)=(low:Int)+at_:=wrap64 (by omega) (by omega);obtain⟨e',h',v',k1,k2,k4,k5⟩:=yF p t 3 h1 v out (low+at_) wd ⟨[.ptr p 0,.int .u32 lo,.int .u32 hi,.int .i64 0,.int .u64 at_,.int .u64 wd],0,.ptr p 0⟩ a1 (by omega) (by omega) (by omega) (by omega) (by simp);have KE:put out low ZH lo hi=Yj 3 out (low+at_) wd:=by rw[put,<-Iv,<-JY]
  rw[KE];refine⟨h',v',?_,k4,o1.trans k5⟩;rw[W3 Wqh,fH];have uD:¬((hi:Int)<=lo):=by omega
  have HD:¬((32768:Int)<hi):=by omega
  have uC:¬(hi<=lo):=by omega
  have nF:¬(32768<hi):=by omega
  simp[ZZ a.cell,uD,HD,uC,nF,BK,UE,ml,<-E7,BL,<-ZL,k1,k2]
theorem wqR(h:H):∃h',KW 73 [] h=some (.ret (.ptr h.n 0),h')/\X5 h' h.n 184 .ZO [] 0 (.int .u64 (4294967295:Nat))/\h'.n=h.n+1/\∀c,c<h.n->h'.get c=h.get c:=by
  refine⟨h.new (.cells [.ZO,.int .u64 0,.int .u64 4294967295] 184 false),?_,⟨ZY,.inl ⟨rfl,rfl⟩,by simp,by omega⟩,rfl,λc hc=>ZR hc⟩;rw[W0 r73,s73];simp[bl,YD,bx,V.cells,splice]
theorem wqQ(p:Nat)(t:TypeId)(ZH:V):∀(n:Nat) (h:H) (v:V) (out:List Nat) (low:Nat) (e:E),X5 h p t v out low ZH->low<8589934592->n<=4->out.length+n<1099511627775 ->
   e.s [0,2,3,4,5] 3=.ptr p 0->e.s [0,2,3,4,5] 4=.int .i64 (4-(n:Int)) ->
   ∃e' h' v',ZI (lq KW ZI) e h=some ⟨.ex 0,e',h'⟩/\e'.s [0,2,3,4,5] 3=.ptr p 0 /\
    X5 h' p t v' (WL n out low).1 (WL n out low).2 ZH/\Nf h h' p v v'
  |0,h,v,out,low,e,a,KF,hn,hlen,PS,FG=>by
   rw[Zi];simp[lq,PS,FG];exact⟨_,_,⟨rfl,rfl⟩,by simp,v,a,Nf.refl _ _ _⟩
  |n+1,h,v,out,low,e,a,KF,hn,hlen,PS,FG=>by
   obtain⟨h1,v1,k1,k2,k3,k4⟩:=sV a (by omega) KF;rw[Zi];simp[lq,PS,FG,show (4:Int)-(n+1)<4 by omega,k1];have hw:IntKind.i64.wrap ((4:Int)-(n+1)+1)=4-(n:Int):=by rw[ZS (by omega) (by omega)];omega
   rw[hw];obtain⟨e',h',v',i1,i2,i4,i5⟩:=wqQ p t ZH n h1 v1 _ _ ⟨[e.s [0,2,3,4,5] 0,e.s [0,2,3,4,5] 2,.ptr p 0,.int .i64 (4-(n:Int)),e.s [0,2,3,4,5] 5],4,.int .i64 (4-(n:Int))⟩ k2
    (by have:=Ix out low;omega) (by omega) (by rw[Vr];omega) (by simp) (by simp)
   exact⟨e',h',i1,i2,v',i4,Nf.trans ⟨k3,.inr k4⟩ i5⟩
theorem wqP(p b:Nat)(t:TypeId)(c1 c2:V)(out:List Nat)(h:H)(hc:h.get p=some (.cells [.sl b 0 out.length (.op 1),c1,c2] t false))(hb:h.get b=some (.cells (ZG out) 5 false))(hlen:out.length<1099511627776):∀(k:Nat) (e:E),k<=out.length ->
   e.s [0,2,3,4,5] 3=.ptr p 0->e.s [0,2,3,4,5] 5=.int .i64 k ->
   ∃e',ZI (Cz KW ZI) e h=some ⟨.ex 2,e',h⟩/\e'.s [0,2,3,4,5] 3=.ptr p 0/\e'.s [0,2,3,4,5] 5=.int .i64 (TI out k)
  |0,e,hk,PS,FG=>by
   rw[Zi];simp[Cz,PS,FG,TI]
  |k+1,e,hk,PS,FG=>by
   obtain⟨x,hx⟩:∃x,out[k]?=some x:=⟨out[k],by simp⟩
   have B7:(ZG out)[k]?=some (.int .u8 x):=by simp[ZG,hx]
   have hw:IntKind.i64.wrap (((k+1:Nat):Int)-1)=k:=by rw[ZS (by omega) (by omega)];omega
   have BT:IntKind.i64.wrap ((k:Int))=k:=ZS (by omega) (by omega);have VW:k<out.length:=by omega
   obtain⟨c,hcc⟩:∃c,c=ZG out:=⟨_,rfl⟩
   have Qw:=hb;rw[<-hcc]at hb B7;rw[Zi];by_cases h0:x=0
   .subst h0
    simp[Cz,PS,FG,ZZ hc,ZZ hb,B7,hw,BT,show (0:Int)<(k:Int)+1 by omega,VW];obtain⟨e',i1,i2,i3⟩:=wqP p b t c1 c2 out h hc Qw hlen k ⟨[e.s [0,2,3,4,5] 0,e.s [0,2,3,4,5] 2,.ptr p 0,e.s [0,2,3,4,5] 4,.int .i64 k],5,.int .i64 k⟩ (by omega) (by simp) (by simp);refine⟨e',i1,i2,?_⟩;rw[i3,TI,hx];simp
   .have ht:TI out (k+1)=k+1:=by rw[TI,hx];simp[h0]
    simp[Cz,PS,FG,ZZ hc,ZZ hb,B7,hw,BT,show (0:Int)<(k:Int)+1 by omega,VW,h0,ht]
theorem Cd{t:TypeId}(a:X5 h p t v out low (.int .u64 ZH))(inv:Iw low ZH)(hlen:out.length<1099511627000):
   ∃h' b,KW 78 [.ptr p 0] h=some (.ret (.sl b 0 (TI (WL 4 out low).1 (out.length+4)) (.op 1)),h') /\
    h'.get b=some (.cells (ZG (WL 4 out low).1) 5 false)/\(∀x∈(WL 4 out low).1,x<256)/\h.n<=b/\h.n<=h'.n/\∀c,c<h.n->h'.get c=h.get c:=by
  obtain⟨i1,i2,i3⟩:=inv;have Rw:=H.ZW a.cell;have HE:bl [.ZO,.int .u64 0,.int .u64 0] [(some (1,1),.int .u64 low)]=some (.agg [.ZO,.int .u64 low,.int .u64 0]):=by
   simp[bl,YD,J7,splice]
  obtain⟨h1,ZL⟩:∃h1,h1=h.new (.cells [.ZO,.int .u64 low,.int .u64 0] 184 false):=⟨_,rfl⟩
  have B7:bx h 184 (.agg [.ZO,.int .u64 low,.int .u64 0])=some (.ptr h.n 0,h1):=by rw[ZL];simp[bx,V.cells]
  have hq1:h1.get h.n=some (.cells [.ZO,.int .u64 low,.int .u64 0] 184 false):=by rw[ZL];exact ZY
  have US:h1.get p=some (.cells [v,.int .u64 low,.int .u64 ZH] t false):=by rw[ZL,ZR Rw,a.cell]
  have Uo:h1.n=h.n+1:=by rw[ZL,H.ZP]
  -- the copy of the bytes
  obtain⟨h2,v1,hap,g2,U0,eO,hv2⟩:∃h2 v1,Vk 5 1 1 h1 .ZO v=some (v1,h2)/\GR h2 v1 out/\h1.n<=h2.n/\(∀c,c<h1.n->h2.get c=h1.get c)/\∀c o n k,v1=.sl c o n k->h1.n<=c:=by
   rcases a.grow with ⟨rfl,rfl⟩|⟨b,rfl,Wp,hb⟩
   .exact⟨h1,.ZO,by simp[Vk,lenOf,XY,Iu],.inl ⟨rfl,rfl⟩,Nat.le_refl _,λ_ _=>rfl,λc o n k e=>by cases e⟩
   .have VJ:h1.get b=some (.cells (ZG out) 5 false):=by rw[ZL,ZR (H.ZW hb),hb]
    have hr:h1.Ze b 0 out.length=some (ZG out):=by
      simp[H.Ze,VJ,List.take_of_length_le]
    obtain⟨h2,q1,q2,q3,q4⟩:=J1 (h:=h1) (v:=.ZO) (out:=[]) (cp:=.op 1) (.inl ⟨rfl,rfl⟩) hr rfl (by simpa using Wp) (by simp;omega);refine⟨h2,_,q1,.inr ⟨h1.n,by simp,Wp,by simpa using q3⟩,by omega,λc hc=>q4 c hc (by simp),λc o n k e=>by cases e;omega⟩
  have qc:h2.get h.n=some (.cells [.ZO,.int .u64 low,.int .u64 0] 184 false):=by rw[eO _ (by omega),hq1]
  have BL:=λx=>Zw qc (o:=0) (by simp) x;obtain⟨h3,Zc⟩:∃h3,h3=h2.put h.n (.cells [v1,.int .u64 low,.int .u64 0] 184 false):=⟨_,rfl⟩
  have WY:Zx 1 h2 (.ptr h.n 0) v1=some (.Zt [],h3):=by
   rw[Zc];rcases g2 with ⟨e1,e2⟩|⟨b,e1,e2,e3⟩<;>rw[e1]<;>simp[BL]
  have a3:X5 h3 h.n 184 v1 out low (.int .u64 0):=by
   refine⟨by rw[Zc,ZV (H.ZW qc)],?_,a.byte,a.NN⟩;rcases g2 with g|⟨b,g1,g2,g3⟩
   .exact .inl g
   .have:=hv2 _ _ _ _ g1
    exact .inr ⟨b,g1,g2,by rw[Zc,ZX (by omega),g3]⟩
  obtain⟨e',h4,v4,j1,j2,j3,j4⟩:=wqQ h.n 184 (.int .u64 0) 4 h3 v1 out low ⟨[.ptr p 0,.ZO,.ptr h.n 0,.int .i64 0,.Zt []],4,.int .i64 0⟩ a3 (by omega) (by omega) (by omega) (by simp) (by simp);have dI:h3.n=h2.n:=by rw[Zc,H.ZJ]
  have sA:=UQ 4 out low;rcases j3.grow with ⟨g1,g2⟩|⟨b,rfl,g2',g3⟩
  .rw[g2]at sA;simp at sA
  .obtain⟨e2,m1,m2,m3⟩:=wqP h.n b 184 (.int .u64 (WL 4 out low).2) (.int .u64 0) _ h4 j3.cell g3 (by omega) _ ⟨[e'.s [0,2,3,4,5] 0,e'.s [0,2,3,4,5] 2,.ptr h.n 0,e'.s [0,2,3,4,5] 4,.int .i64 (WL 4 out low).1.length],5,.int .i64 (WL 4 out low).1.length⟩ (Nat.le_refl _) (by simp) (by simp)
   have hle:=Ps (WL 4 out low).1 (WL 4 out low).1.length;rw[<-sA];obtain⟨n,hn⟩:∃n,n=TI (WL 4 out low).1 (WL 4 out low).1.length:=⟨_,rfl⟩
   rw[<-hn]at m3 hle ⊢;have hsl:Ce 1 (.sl b 0 (WL 4 out low).1.length (.op 1)) none (some (.int .i64 n)) none=some (.sl b 0 n (.op 1)):=by
    have kqW:n<=(WL 4 out low).1.length:=hle;simp[Ce,Up,XK,kqW]
   refine⟨h4,b,?_,g3,j3.byte,?_,by have:=j4.fr.1;omega,λc hc=>?_⟩
   .rw[W1 r78,s78]
    simp[ZZ a.cell,HE,B7,ZZ hq1,ZZ US,hap,WY,sB a.grow,j1,j2,ZZ j3.cell,m1,m2,m3,hsl]
   .rcases j4.nw with e|e
    . have:=hv2 b;rw[<-e]at this;have:=this _ _ _ rfl;omega
    . have:=e b _ _ _ rfl;omega
   .rw[j4.fr.2 c (by omega) ?_,Zc,ZX (by omega),eO c (by omega),ZL,ZR hc]
    rintro (e|⟨o,n,k,e⟩)
    . omega
    . have:=hv2 _ _ _ _ e;omega
structure SR(h:H)(X:Nat->Prop)(p:Nat)(at_:Nat)(rest:List Nat)(code ZH:Nat):Prop where
  ex:∃v B,h.get p=some (.cells [v,.int .i64 at_,.int .u64 code,.int .u64 ZH] 173 false)/\E6 h X v B/\rest=B.drop at_/\∀x∈B,x<256
  own:X p
  yD:at_<4611686018427387904
variable{X:Nat->Prop}
theorem JX{at_:Nat}{B:List Nat}{code ZH:V}(hp:h.get p=some (.cells [v,.int .i64 at_,code,ZH] 173 false))(hs:E6 h X v B)(hX:X p)(hB:∀x∈B,x<256)(yD:at_<4611686018427387904):
   KW 113 [.ptr p 0] h=some (.ret (.int .u64 ((B.drop at_).headD 0)),h.put p (.cells [v,.int .i64 (at_+1:Nat),code,ZH] 173 false)):=by
  have Rw:=H.ZW hp;have UE:=λx=>Zw hp (o:=1) (by simp) x;have m1:IntKind.i64.wrap ((at_:Int)+1)=((at_+1:Nat):Int):=by rw[ZS (by omega) (by omega)];simp
  obtain⟨a1,ha1⟩:∃a1,a1=at_+1:=⟨_,rfl⟩
  rw[<-ha1]at m1 ⊢;obtain⟨h1,ZL⟩:∃h1,h1=h.put p (.cells [v,.int .i64 (a1:Int),code,ZH] 173 false):=⟨_,rfl⟩
  have US:h1.get p=some (.cells [v,.int .i64 (a1:Int),code,ZH] 173 false):=by rw[ZL];exact ZV Rw
  have o1:Yi h h1 p:=by rw[ZL];exact Yi.put _ _ _
  have hs1:=hs.only o1 hX;rcases hs1 with ⟨rfl,rfl⟩|⟨b,o,k,rfl,rfl⟩|⟨b,o,c,e,ro,rfl,qi,hb,hcs⟩
  .rw[W1 od,td]
   simp[ZZ hp,UE,m1,<-ZL,ZZ US];rw[if_neg (by omega)];simp
  .rw[W1 od,td]
   simp[ZZ hp,UE,m1,<-ZL,ZZ US];rw[if_neg (by omega)];simp
  .rw[W1 od,td]
   by_cases hi:at_<B.length
   .have jZ:=hcs at_ hi
    have hx:B[at_]<256:=hB _ (by simp);have e1:(B.drop at_).headD 0=B[at_]:=by rw[List.drop_eq_getElem_cons hi];rfl
    obtain⟨x,hxx⟩:∃x,x=B[at_]:=⟨_,rfl⟩
    rw[e1];have e2:(ZG B)[at_]?=some (.int .u8 x):=by simp[ZG,hi,hxx]
    rw[<-hxx]at hx ⊢;rw[e2]at jZ;have m2:IntKind.u64.wrap (x:Int)=x:=wrap64 (by omega) (by omega);simp[ZZ hp,UE,m1,<-ZL,ZZ US,hi,ZZ hb,jZ,m2]
   .have e1:(B.drop at_).headD 0=0:=by rw[List.drop_of_length_le (by omega)];rfl
    rw[e1];simp[ZZ hp,UE,m1,<-ZL,ZZ US,hi]
theorem yC(X:Nat->Prop)(p:Nat):∀(n:Nat) (h:H) (at_:Nat) (rest:List Nat) (code wide:Nat) (e:E),SR h X p at_ rest code wide->code<wide->16777216<=wide*256^n->wide<4294967296->at_+n<4611686018427387904 ->
   e.s [0,1,2,6,7,9,10] 0=.ptr p 0 ->
   ∃e' h' Ma,ZI (II KW ZI) e h=some ⟨.ex 0,e',h'⟩/\e'.s [0,1,2,6,7,9,10] 0=.ptr p 0/\Ma<=at_+n /\
    SR h' X p Ma (YN n rest code wide).1 (YN n rest code wide).2.1 (YN n rest code wide).2.2/\Yi h h' p
  |n,h,at_,rest,code,wide,e,a,hcw,hw,nH,Iv,PS=>by
   obtain⟨⟨v,B,hp,hs,hr,hB⟩,hX,yD⟩:=a;by_cases hc:wide<16777216
   .cases n with
    |zero=>simp at hw;omega
    |succ n =>
      have k1:=JX hp hs hX hB yD;rw[<-hr]at k1;have hb:rest.headD 0<256:=by
       rw[hr];exact TM λx hx=>hB x (List.mem_of_mem_drop hx)
      obtain⟨x,hx⟩:∃x,x=rest.headD 0:=⟨_,rfl⟩
      obtain⟨a1,ha1⟩:∃a1:Nat,a1=at_+1:=⟨_,rfl⟩
      rw[<-hx,<-ha1]at k1;rw[<-hx]at hb;obtain⟨h1,ZL⟩:∃h1,h1=h.put p (.cells [v,.int .i64 a1,.int .u64 code,.int .u64 wide] 173 false):=⟨_,rfl⟩
      have o1:Yi h h1 p:=by rw[ZL];exact Yi.put _ _ _
      have US:h1.get p=some (.cells [v,.int .i64 a1,.int .u64 code,.int .u64 wide] 173 false):=by rw[ZL];exact ZV (H.ZW hp)
      rw[<-ZL]at k1;have m1:IntKind.u64.wrap ((code:Int)*256)=(code:Int)*256:=wrap64 (by omega) (by omega);have m2:IntKind.u64.wrap ((code:Int)*256+x)=((code*256+x:Nat):Int):=by rw[wrap64 (by omega) (by omega)];simp
      have m3:IntKind.u64.wrap ((wide:Int)*256)=((wide*256:Nat):Int):=by rw[wrap64 (by omega) (by omega)];simp
      obtain⟨cd,sU⟩:∃cd,cd=code*256+x:=⟨_,rfl⟩
      obtain⟨wd,JY⟩:∃wd,wd=wide*256:=⟨_,rfl⟩
      rw[<-sU]at m2;rw[<-JY]at m3;have BL:=λx=>Zw US (o:=2) (by simp) x;obtain⟨h2,Zq⟩:∃h2,h2=h1.put p (.cells [v,.int .i64 a1,.int .u64 cd,.int .u64 wide] 173 false):=⟨_,rfl⟩
      have o2:Yi h1 h2 p:=by rw[Zq];exact Yi.put _ _ _
      have QP:h2.get p=some (.cells [v,.int .i64 a1,.int .u64 cd,.int .u64 wide] 173 false):=by rw[Zq];exact ZV (H.ZW US)
      have nC:=λx=>Zw QP (o:=3) (by simp) x;obtain⟨h3,Zc⟩:∃h3,h3=h2.put p (.cells [v,.int .i64 a1,.int .u64 cd,.int .u64 wd] 173 false):=⟨_,rfl⟩
      have o3:Yi h2 h3 p:=by rw[Zc];exact Yi.put _ _ _
      have NP:h3.get p=some (.cells [v,.int .i64 a1,.int .u64 cd,.int .u64 wd] 173 false):=by rw[Zc];exact ZV (H.ZW QP)
      have oo:=o1.trans (o2.trans o3);have a3:SR h3 X p a1 rest.tail cd wd:=⟨⟨v,B,NP,hs.only oo hX,by rw[hr,List.tail_drop,ha1],hB⟩,hX,by omega⟩
      rw[Zi];simp[II,PS,ZZ hp,show (wide:Int)<16777216 by omega,k1,ZZ US,m1,m2,BL,<-Zq,ZZ QP,m3,nC,<-Zc];obtain⟨e',h',Ma,i1,i2,i3,i4,i5⟩:=yC X p n h3 a1 rest.tail cd wd ⟨[.ptr p 0,e.s [0,1,2,6,7,9,10] 1,e.s [0,1,2,6,7,9,10] 2,e.s [0,1,2,6,7,9,10] 6,e.s [0,1,2,6,7,9,10] 7,e.s [0,1,2,6,7,9,10] 9,e.s [0,1,2,6,7,9,10] 10],0,.ptr p 0⟩ a3
       (by omega) (by rw[JY,Nat.mul_assoc,<-Nat.pow_succ'];exact hw) (by omega) (by omega) (by simp)
      simp only[YN,if_pos hc];rw[<-hx,<-sU,<-JY];exact⟨e',h',i1,i2,Ma,by omega,i4,oo.trans i5⟩
   .rw[Zi]
    simp[II,PS,ZZ hp,show ¬(wide:Int)<16777216 by omega];have Aj:YN n rest code wide=(rest,code,wide):=by cases n<;>simp[YN,hc]
    rw[Aj];exact⟨_,_,⟨rfl,rfl⟩,by simp,at_,by omega,⟨⟨v,B,hp,hs,hr,hB⟩,hX,yD⟩,Yi.refl _ _⟩
variable{rest:List Nat}{code:Nat}
theorem Qz{at_:Nat}(a:SR h X p at_ rest code ZH)(inv:L9 code ZH):
   KW 152 [.ptr p 0] h=some (.ret (.Zt [.int .u32 (value code ZH),.int .i64 0]),h):=by
  obtain⟨⟨v,B,hp,hs,hr,hB⟩,hX,yD⟩:=a;obtain⟨i1,i2,i3⟩:=inv;have e1:(ZH:Int).tdiv 32768=((ZH/32768:Nat):Int):=by rw[Int.tdiv_eq_ediv_of_nonneg (by omega)];rfl
  obtain⟨q,hq⟩:∃q,q=ZH/32768:=⟨_,rfl⟩
  have qh:¬(q=0):=by omega
  have e2:(code:Int).tdiv (q:Int)=((code/q:Nat):Int):=by rw[Int.tdiv_eq_ediv_of_nonneg (by omega)];rfl
  have hle:code/q<=code:=Nat.div_le_self _ _;rw[<-hq]at e1;rw[value,<-hq];obtain⟨x,hx⟩:∃x,x=code/q:=⟨_,rfl⟩
  rw[<-hx]at e2 hle ⊢;have e3:IntKind.u64.wrap (x:Int)=x:=wrap64 (by omega) (by omega);have e5:IntKind.u64.wrap (q:Int)=q:=wrap64 (by omega) (by omega);have e4:Vx [.int .u64 (x:Int),.int .u64 32767]=some (.int .u64 ((min x 32767:Nat):Int)):=by
   simp[Vx,SU,NR];split<;>omega
  obtain⟨y,hy⟩:∃y,y=min x 32767:=⟨_,rfl⟩
  have hyl:y<=32767:=by omega
  rw[<-hy]at e4 ⊢;have e6:IntKind.u32.wrap (y:Int)=y:=wrap32 (by omega) (by omega);rw[W1 Wqg,fG];simp[ZZ hp,e1,qh,e2,e3,e4,e5,e6]
theorem BJ{at_:Nat}(a:SR h X p at_ rest code ZH)(yD:at_+3<4611686018427387904)(inv:L9 code ZH)(h1:lo<=value code ZH)(h2:value code ZH<hi)(h3:hi<=32768):
   ∃h' Ma,KW 154 [.ptr p 0,.int .u32 lo,.int .u32 hi] h=some (.ret (.int .i64 0),h')/\Ma<=at_+3 /\
    SR h' X p Ma (take rest code ZH lo hi).1 (take rest code ZH lo hi).2.1 (take rest code ZH lo hi).2.2/\Yi h h' p:=by
  have hv:=Qz a inv;obtain⟨⟨v,B,hp,hs,hr,hB⟩,hX,kq5⟩:=a;obtain⟨t1,t2⟩:=Oy inv h1 h2 h3;obtain⟨i1,i2,i3⟩:=inv;obtain⟨m1,m2⟩:=WU i1 i2 (by omega:lo<hi) h3;have BK:=JZ i1 i2 (by omega:lo<hi) h3 h;obtain⟨vl,hvl⟩:∃x,x=value code ZH:=⟨_,rfl⟩
  rw[<-hvl]at hv h1 h2;have Ai:take rest code ZH lo hi=YN 3 rest (code-(part ZH lo hi).1) (part ZH lo hi).2:=rfl;obtain⟨ax,Iv⟩:∃x,x=(part ZH lo hi).1:=⟨_,rfl⟩
  obtain⟨wd,JY⟩:∃x,x=(part ZH lo hi).2:=⟨_,rfl⟩
  rw[<-Iv,<-JY]at m1 t2 BK Ai;rw[<-JY]at m2;rw[<-Iv]at t1;obtain⟨cd,sU⟩:∃x,x=code-ax:=⟨_,rfl⟩
  rw[<-sU]at t2 Ai;have mc:IntKind.u64.wrap ((code:Int)-ax)=(cd:Int):=by rw[wrap64 (by omega) (by omega)];omega
  have UE:=λv=>Zw hp (o:=2) (by simp) v;obtain⟨h0,E7⟩:∃h1,h1=h.put p (.cells [v,.int .i64 at_,.int .u64 (cd:Int),.int .u64 ZH] 173 false):=⟨_,rfl⟩
  have o0:Yi h h0 p:=by rw[E7];exact Yi.put _ _ _
  have sW:h0.get p=some (.cells [v,.int .i64 at_,.int .u64 (cd:Int),.int .u64 ZH] 173 false):=by rw[E7];exact ZV (H.ZW hp)
  have BL:=λv=>Zw sW (o:=3) (by simp) v;obtain⟨Tt,ZL⟩:∃h1,h1=h0.put p (.cells [v,.int .i64 at_,.int .u64 (cd:Int),.int .u64 wd] 173 false):=⟨_,rfl⟩
  have o1:Yi h0 Tt p:=by rw[ZL];exact Yi.put _ _ _
  have US:Tt.get p=some (.cells [v,.int .i64 at_,.int .u64 (cd:Int),.int .u64 wd] 173 false):=by rw[ZL];exact ZV (H.ZW sW)
  have a1:SR Tt X p at_ rest cd wd:=⟨⟨v,B,US,hs.only (o0.trans o1) hX,hr,hB⟩,hX,kq5⟩
  obtain⟨e',h',Ma,k1,k2,k3,k4,k5⟩:=yC X p 3 Tt at_ rest cd wd ⟨[.ptr p 0,.int .u32 lo,.int .u32 hi,.int .i64 0,.int .u32 vl,.int .u64 ax,.int .u64 wd],0,.ptr p 0⟩ a1 (by omega) (by omega) (by omega) yD (by simp);rw[Ai];refine⟨h',Ma,?_,k3,k4,o0.trans (o1.trans k5)⟩;rw[W3 Wqe,fE];have z1:¬((vl:Int)<lo):=by omega
  have z1':¬(vl<lo):=by omega
  have z2:¬((hi:Int)<=vl):=by omega
  have jY:¬(hi<=vl):=by omega
  have z3:¬((32768:Int)<hi):=by omega
  have z3':¬(32768<hi):=by omega
  simp[ZZ hp,hv,z1,z1',z2,jY,z3,z3',BK,UE,mc,<-E7,BL,<-ZL,k1,k2]
variable{n:Nat}{l:List Nat}
theorem Frs.osl(a:Frs h n v l)(hp:∀c,n<=c->c<h.n->¬X c):E6 h X v l:=by
  rcases a with a|⟨b,k,a1,a2,a3,a4⟩|⟨b,a1,a2,a3,a4⟩
  .exact .inl a
  .exact .inr (.inl ⟨b,0,k,a1,a2⟩)
  .exact .inr (.inr ⟨b,0,_,_,_,a1,hp b a2 (H.ZW a4),a4,λi hi=>by simp⟩)
theorem hC(g:Jd h v l)(hlen:l.length<140737488355329):
   ∃h' v',Vk 5 1 1 h .ZO v=some (v',h')/\Frs h' h.n v' l/\h.n<=h'.n/\∀c,c<h.n->h'.get c=h.get c:=by
  by_cases hl:l=[]
  .subst hl
   refine⟨h,.ZO,?_,.inl ⟨rfl,rfl⟩,Nat.le_refl _,λ_ _=>rfl⟩;have h1:=g.len;have h2:=g.first
   simp at h1 h2;simp[Vk,h1,h2,Iu]
  .have yG:l.length≠0:=by simpa using hl
   refine⟨h.new (.cells (ZG l) 5 false),.sl h.n 0 l.length (.op 1),?_,.inr (.inr ⟨h.n,rfl,Nat.le_refl _,hl,ZY⟩),by rw[H.ZP];omega,λc hc=>ZR hc⟩;simp[Vk,g.len,g.first,Iu,yG,show l.length<=140737488355328 by omega]
theorem lh(X:Nat->Prop)(p ZH:Nat):∀(n:Nat) (h:H) (at_:Nat) (rest:List Nat) (code:Nat) (e:E),SR h X p at_ rest code ZH->code<256^(4-n)->n<=4->at_+n<4611686018427387904 ->
   e.s [0,2,3,4] 3=.ptr p 0->e.s [0,2,3,4] 4=.int .i64 (4-n:Nat) ->
   ∃e' h' Ma,ZI (wQ KW ZI) e h=some ⟨.ex 0,e',h'⟩/\e'.s [0,2,3,4] 3=.ptr p 0/\Ma<=at_+n/\SR h' X p Ma (KT n rest code).1 (KT n rest code).2 ZH/\Yi h h' p
  |0,h,at_,rest,code,e,a,hc,hn,Iv,yA,Ah=>by
   rw[Zi];simp[wQ,yA,Ah];exact⟨_,_,⟨rfl,rfl⟩,by simp[yA],at_,by omega,a,Yi.refl _ _⟩
  |n+1,h,at_,rest,code,e,a,hc,hn,Iv,yA,Ah=>by
   obtain⟨⟨v,B,hp,hs,hr,hB⟩,hX,yD⟩:=a;have hc3:256^(4-(n+1))<=256^3:=Nat.pow_le_pow_right (by decide) (by omega);have k1:=JX hp hs hX hB yD;rw[<-hr]at k1;have hb:rest.headD 0<256:=by
    rw[hr];exact TM λx hx=>hB x (List.mem_of_mem_drop hx)
   obtain⟨x,hx⟩:∃x,x=rest.headD 0:=⟨_,rfl⟩
   obtain⟨a1,ha1⟩:∃a1:Nat,a1=at_+1:=⟨_,rfl⟩
   rw[<-hx,<-ha1]at k1;rw[<-hx]at hb;obtain⟨h1,ZL⟩:∃h1,h1=h.put p (.cells [v,.int .i64 a1,.int .u64 code,.int .u64 ZH] 173 false):=⟨_,rfl⟩
   have o1:Yi h h1 p:=by rw[ZL];exact Yi.put _ _ _
   have US:h1.get p=some (.cells [v,.int .i64 a1,.int .u64 code,.int .u64 ZH] 173 false):=by rw[ZL];exact ZV (H.ZW hp)
   rw[<-ZL]at k1;have m1:IntKind.u64.wrap ((code:Int)*256)=(code:Int)*256:=wrap64 (by omega) (by omega);have m2:IntKind.u64.wrap ((code:Int)*256+x)=((code*256+x:Nat):Int):=by rw[wrap64 (by omega) (by omega)];simp
   have SV:code*256+x<256^(4-n):=by
    rw[show 4-n=(4-(n+1))+1 by omega,Nat.pow_succ];omega
   obtain⟨cd,sU⟩:∃cd,cd=code*256+x:=⟨_,rfl⟩
   rw[<-sU]at m2 SV;have BL:=λx=>Zw US (o:=2) (by simp) x;obtain⟨h2,Zq⟩:∃h2,h2=h1.put p (.cells [v,.int .i64 a1,.int .u64 cd,.int .u64 ZH] 173 false):=⟨_,rfl⟩
   have o2:Yi h1 h2 p:=by rw[Zq];exact Yi.put _ _ _
   have QP:h2.get p=some (.cells [v,.int .i64 a1,.int .u64 cd,.int .u64 ZH] 173 false):=by rw[Zq];exact ZV (H.ZW US)
   have oo:=o1.trans o2;have a3:SR h2 X p a1 rest.tail cd ZH:=⟨⟨v,B,QP,hs.only oo hX,by rw[hr,List.tail_drop,ha1],hB⟩,hX,by omega⟩
   have Tm:((4-(n+1):Nat):Int)<4:=by omega
   have hm:IntKind.i64.wrap (((4-(n+1):Nat):Int)+1)=((4-n:Nat):Int):=by rw[ZS (by omega) (by omega)];omega
   obtain⟨j,hj⟩:∃j,j=4-(n+1):=⟨_,rfl⟩
   obtain⟨j1,eI⟩:∃j,j=4-n:=⟨_,rfl⟩
   rw[<-hj]at Tm Ah;rw[<-hj,<-eI]at hm;have yz:j<4:=by omega
   rw[Zi];simp[wQ,yA,Ah,Tm,yz,ZZ hp,k1,ZZ US,m1,m2,BL,<-Zq,hm];obtain⟨e',h',Ma,i1,i2,i3,i4,i5⟩:=lh X p ZH n h2 a1 rest.tail cd ⟨[e.s [0,2,3,4] 0,e.s [0,2,3,4] 2,.ptr p 0,.int .i64 (j1:Int)],4,.int .i64 (j1:Int)⟩ a3 SV (by omega) (by omega) (by simp) (by simp[eI]);simp only[KT];rw[<-hx,<-sU];exact⟨e',h',i1,i2,Ma,by omega,i4,oo.trans i5⟩
theorem tI(g:Jd h v l)(hlen:l.length<140737488355329)(hb:∀x∈l,x<256):
   ∃h' p Ma,KW 65 [v] h=some (.ret (.ptr p 0),h')/\(∀X:Nat->Prop,X p->(∀c,h.n<=c->c<h'.n->c≠p->¬X c)->SR h' X p Ma (VK l).1 (VK l).2 4294967295)/\Ma<=4/\h.n<=p/\p<h'.n/\(∀c,c<h.n->h'.get c=h.get c):=by
  obtain⟨h0,E7⟩:∃h0,h0=h.new (.cells [.ZO,.int .i64 (0:Nat),.int .u64 (0:Nat),.int .u64 (4294967295:Nat)] 173 false):=⟨_,rfl⟩
  have sW:h0.get h.n=some (.cells [.ZO,.int .i64 (0:Nat),.int .u64 (0:Nat),.int .u64 (4294967295:Nat)] 173 false):=by rw[E7];exact ZY
  have hk0:∀c,c<h.n->h0.get c=h.get c:=λc hc=>by rw[E7,ZR hc]
  have GQ:h0.n=h.n+1:=by rw[E7,H.ZP]
  obtain⟨h1,v1,k1,k2,k3,k4⟩:=hC (g.keep hk0) hlen;have US:h1.get h.n=some (.cells [.ZO,.int .i64 (0:Nat),.int .u64 (0:Nat),.int .u64 (4294967295:Nat)] 173 false):=by rw[k4 _ (by omega),sW]
  obtain⟨h2,Zq⟩:∃h2,h2=h1.put h.n (.cells [v1,.int .i64 (0:Nat),.int .u64 (0:Nat),.int .u64 (4294967295:Nat)] 173 false):=⟨_,rfl⟩
  have o2:Yi h1 h2 h.n:=by rw[Zq];exact Yi.put _ _ _
  have QP:h2.get h.n=some (.cells [v1,.int .i64 (0:Nat),.int .u64 (0:Nat),.int .u64 (4294967295:Nat)] 173 false):=by rw[Zq];exact ZV (H.ZW US)
  have hos:E6 h2 (λc=>¬(h.n<c/\c<h1.n)) v1 l:=((k2.osl (X:=λc=>¬(h.n<c/\c<h1.n)) (by intro c h1 h2 h3;exact h3 ⟨by omega,h2⟩))).only o2 (by simp);obtain⟨e',h',Ma,i1,i2,i3,i4,i5⟩:=lh (λc=>¬(h.n<c/\c<h1.n)) h.n 4294967295 4 h2 0 l 0 ⟨[v,.Zh,.ptr h.n 0,.int .i64 0],4,.int .i64 0⟩ ⟨⟨v1,l,QP,hos,rfl,hb⟩,by simp,by decide⟩ (by decide) (by omega) (by omega) (by simp) (by simp);obtain⟨⟨v2,B,NP,hs3,hr3,hB3⟩,hX3,yD⟩:=i4;have UE:=λv=>Zw NP (o:=2) (by simp) v;obtain⟨r,hr⟩:∃r,r=KT 4 l 0:=⟨_,rfl⟩
  have oi:VK l=(r.1,min r.2 4294967294):=by rw[VK,hr]
  have Tm:r.2<4294967296:=by
   have:=(E0 4 (m:=0) (code:=0) hb (by decide)).1;rw[<-hr]at this;simpa using this
  rw[<-hr]at NP UE hr3;have e4:Vx [.int .u64 (r.2:Int),.int .u64 4294967294]=some (.int .u64 ((min r.2 4294967294:Nat):Int)):=by
   simp[Vx,SU,NR];split<;>omega
  obtain⟨y,hy⟩:∃y,y=min r.2 4294967294:=⟨_,rfl⟩
  rw[<-hy]at e4 oi;rw[oi];have o3:=Yi.put h' h.n (.cells [v2,.int .i64 Ma,.int .u64 y,.int .u64 (4294967295:Nat)] 173 false);have HC:Zx 1 h1 (.ptr h.n 0) v1=some (.Wz,h2):=by
   have:=Zw US (o:=0) (by simp) v1;rw[Zq];rcases k2 with ⟨rfl,_⟩|⟨b,k,rfl,_⟩|⟨b,rfl,_⟩<;>simp[this]
  refine⟨h'.put h.n (.cells [v2,.int .i64 Ma,.int .u64 y,.int .u64 (4294967295:Nat)] 173 false),h.n,Ma,?_,λX hX hf=>⟨⟨v2,B,ZV (H.ZW NP),(hs3.only o3 hX3).mono λb hb RG=>hf b (by omega) hb (by omega),hr3,hB3⟩,hX,yD⟩,by omega,Nat.le_refl _,by rw[H.ZJ,i5.1,o2.1];omega,λc hc=>?_⟩
  .rw[W1 r65,s65]
   simp at UE NP E7 sW;simp[bl,YD,bx,V.cells,splice,<-E7,ZZ sW,k1,HC,i1,i2,ZZ NP,e4,UE]
  .rw[o3.2 c (by omega),i5.2 c (by omega),o2.2 c (by omega),k4 c (by omega),hk0 c hc]
theorem sX{t:TypeId}(a:X5 h p t v out low (.int .u64 ZH))(inv:Iw low ZH)(hlen:out.length<1099511627000):
   ∃h' v',KW 78 [.ptr p 0] h=some (.ret v',h')/\Wr h' h.n v' (bytes out low)/\h.n<=h'.n/\∀c,c<h.n->h'.get c=h.get c:=by
  obtain⟨h',b,k1,k2,k3,k4,k5,k6⟩:=Cd a inv hlen;refine⟨h',_,k1,⟨b,_,(WL 4 out low).1,by rw[On],k4,k2,?_,?_,k3⟩,k5,k6⟩
  .rw[On,UQ];exact Ps _ _
  .rw[On];rfl
theorem KD(l m:List Nat):Y0 (l++m)=Y0 l++Y0 m:=by simp[Y0]
section nB
variable{D E:Nat->Prop}{h h':H}{v:V}
variable{cs:List V}{r:List Tb}{t:Tb}
theorem Ts.snoc(a:Ts D h cs r)(hl:cs.length=r.length*2)(u:VE D h v t.c):Ts D h (cs++[v,.int .i64 t.n]) (r++[t]):=λi s hi=>by
  by_cases e:i<r.length
  .rw[List.getElem?_append_left e]at hi
   obtain⟨vc,h1,h2,h3⟩:=a i s hi;exact⟨vc,by rw[List.getElem?_append_left (by omega),h1],by rw[List.getElem?_append_left (by omega),h2],h3⟩
  .rw[List.getElem?_append_right (by omega)]at hi
   have sS:i=r.length:=by
    by_cases e2:i=r.length
    . exact e2
    . rw[List.getElem?_eq_none (by simp;omega)]at hi;cases hi
   subst sS;simp at hi;subst hi;exact⟨v,by rw[List.getElem?_append_right (by omega)];simp[hl,Nat.mul_comm],by rw[List.getElem?_append_right (by omega)];simp[hl,Nat.mul_comm],u⟩
end nB
open Go.Zf (ZS)
open Go.Zf (ZS)
open Go.Zf (ZS)
open Go.Zf (ZS)
open Go.Zf (ZS)
variable{D:Nat->Prop}{g:H}{t:Tb}{b:Nat}
theorem nA(u:VE D g v t.c)(hb:g.get b=some (.cells [v,.int .i64 t.n] 101 false))(hl:t.c.length<1000)(en:E)(FG:en.s [0,1,2,3,4] 1=.ptr b 0)(yA:en.s [0,1,2,3,4] 3=.int .i64 t.c.length)(he4:en.s [0,1,2,3,4] 4=.int .i64 1)(h2:2<=t.c.length):
   ∃s,ZI (OG KW ZI) en g=some s/\s.h=g/\((s.x=.ex 0/\Sorted t.c)\/(s.x=.rt/\s.e.s [0,1,2,3,4] 2=.int .i64 2/\¬Sorted t.c)):=by
  have loop:=Zd (body:=OG KW ZI) (λn e h=>h=g/\n<t.c.length/\e.s [0,1,2,3,4] 1=.ptr b 0/\e.s [0,1,2,3,4] 3=.int .i64 t.c.length/\e.s [0,1,2,3,4] 4=.int .i64 ((t.c.length-n:Nat):Int)/\∀j,j+1<t.c.length-n->nth t.c j<=nth t.c (j+1))
   (λs=>s.h=g/\((s.x=.ex 0/\Sorted t.c)\/(s.x=.rt/\s.e.s [0,1,2,3,4] 2=.int .i64 2/\¬Sorted t.c)))
   (λn e h ⟨hg,hn,p1,p3,p4,hs⟩=>by
    subst hg;cases n with
    |zero =>
      simp[OG,p3,p4];exact⟨rfl,.inl ⟨rfl,λj hj=>hs j (by omega)⟩⟩
    |succ n =>
      obtain⟨k,hk⟩:∃k,k+1=t.c.length-(n+1):=⟨t.c.length-(n+1)-1,by omega⟩
      have SF:t.c.length-n=k+2:=by omega
      rw[<-hk]at p4 hs;obtain⟨b1,o1,q1,q2,_⟩:=u.at (i:=k+1) (by omega);obtain⟨b2,o2,r1,r2,_⟩:=u.at (i:=k) (by omega);have qf:PY 1 v (.int .i64 ((k:Int)+1))=some (.ptr b1 o1):=by simpa using q1
      have z1:IntKind.i64.wrap (k:Int)=k:=ZS (by omega) (by omega);have z2:IntKind.i64.wrap ((k:Int)+1+1)=(k:Int)+1+1:=ZS (by omega) (by omega);by_cases hc:nth t.c (k+1)<nth t.c k
      .simp[OG,p3,p4,show (k:Int)+1<t.c.length by omega,show k+1<t.c.length by omega,p1,ZZ hb,qf,q2,z1,r1,r2,u.1.ck,hc]
       exact⟨rfl,.inr ⟨rfl,by simp,λhS=>by have:=hS k (by omega);omega⟩⟩
      .simp[OG,p3,p4,show (k:Int)+1<t.c.length by omega,show k+1<t.c.length by omega,p1,ZZ hb,qf,q2,z1,r1,r2,u.1.ck,hc,z2]
       refine⟨n,Nat.lt_succ_self n,rfl,by omega,by simp[p1],by simp[p3],by simp[SF];omega,λj hj=>?_⟩;by_cases e:j=k
       .subst e;omega
       .exact hs j (by omega))
  exact loop (t.c.length-1) en g ⟨rfl,by omega,FG,yA,by rw[he4];simp;omega,λj hj=>by omega⟩
theorem Td(u:VE D h v t.c)(hl:t.c.length<1000):RT (λw h'=>w=.int .i64 (if YP t then 0 else 2)/\Ext h h') (KW 112 [.agg [v,.int .i64 t.n]] h):=by
  obtain⟨h1,b1,x1,g1,n1,u1⟩:=TL u;have ul:=u1.1.len;rw[W1 WqE,gD];by_cases c1:t.c.length<2
  .simp[b1,ZZ g1,ul,show (t.c.length:Int)<2 by omega,Vt]
   exact⟨by rw[if_neg];intro a;have:=a.1;omega,x1⟩
  .by_cases c2:16<t.c.length
   .simp[b1,ZZ g1,ul,show ¬(t.c.length:Int)<2 by omega,show (16:Int)<t.c.length by omega,Vt]
    exact⟨by rw[if_neg];intro a;have:=a.1;omega,x1⟩
   .by_cases c3:t.n<0
    . simp[b1,ZZ g1,ul,show ¬(t.c.length:Int)<2 by omega,show ¬(16:Int)<t.c.length by omega,c3,Vt]
      exact⟨by rw[if_neg];intro a;have:=a.2.1;omega,x1⟩
    . by_cases c4:32<t.n
      .simp[b1,ZZ g1,ul,show ¬(t.c.length:Int)<2 by omega,show ¬(16:Int)<t.c.length by omega,c3,c4,Vt]
       exact⟨by rw[if_neg];intro a;have:=a.2.1;omega,x1⟩
      .obtain⟨b,o,q1,q2,_⟩:=u1.at (i:=t.c.length-1) (by omega)
       have z1:IntKind.i64.wrap ((t.c.length:Int)-1)=((t.c.length-1:Nat):Int):=by rw[ZS (by omega) (by omega)];omega
       obtain⟨x,hx⟩:∃x,x=nth t.c (t.c.length-1):=⟨_,rfl⟩
       rw[<-hx]at q2;by_cases c6:x=32768
       .obtain⟨⟨sx,se,sh⟩,r1,r2,r3⟩:=nA u1 g1 hl ⟨[.agg [v,.int .i64 t.n],.ptr h.n 0,.int .i64 0,.int .i64 t.c.length,.int .i64 1],4,.int .i64 1⟩ (by simp) (by simp) (by simp) (by omega)
        simp only at r2 r3;subst r2;have c6':(x:Int)=32768:=by omega
        rcases r3 with ⟨rfl,hs⟩|⟨rfl,p2,hs⟩
        .simp[b1,ZZ g1,ul,show ¬(t.c.length:Int)<2 by omega,show ¬(16:Int)<t.c.length by omega,c3,c4,z1,q1,q2,c6,r1]
         exact⟨by rw[if_pos ⟨⟨by omega,by omega⟩,⟨by omega,by omega⟩,hs,by rw[<-hx,c6]⟩],x1⟩
        .simp[b1,ZZ g1,ul,show ¬(t.c.length:Int)<2 by omega,show ¬(16:Int)<t.c.length by omega,c3,c4,z1,q1,q2,c6,r1,p2]
         exact⟨by rw[if_neg];intro a;exact hs a.2.2.1,x1⟩
       .have c6':¬(x:Int)=32768:=by omega
        simp[b1,ZZ g1,ul,show ¬(t.c.length:Int)<2 by omega,show ¬(16:Int)<t.c.length by omega,c3,c4,z1,q1,q2,c6,c6'];exact⟨by rw[if_neg];intro a;exact c6 (by rw[hx];exact a.2.2.2),x1⟩
variable{j:Nat}
theorem L8(u:VE D h v t.c)(ok:YP t)(hj:j<=t.c.length):RT (λw h'=>w=.int .i64 (pt t j:Nat)/\Ext h h') (KW 170 [.agg [v,.int .i64 t.n],.int .i64 ((j:Int)-1)] h):=by
  obtain⟨h1,b1,x1,g1,n1,u1⟩:=TL u;have ul:=u1.1.len;rw[W2 kq4,eH];cases j with
  |zero =>
   simp[b1];exact⟨by simp[pt],x1⟩
  |succ s =>
   obtain⟨b,o,q1,q2,_⟩:=u1.at (i:=s) (by omega);have hc:=ok.le (i:=s) (by omega);obtain⟨x,hx⟩:∃x,x=nth t.c s:=⟨_,rfl⟩
   obtain⟨n,hn⟩:∃n,n=t.c.length:=⟨_,rfl⟩
   have hp:=PA t s;have Rw:=NM ok hj;rw[hp,<-hx,<-hn]at Rw;rw[<-hx]at q2 hc;rw[hp,<-hx,<-hn];rw[<-hn]at ul hj;have l1:=ok.1.1;have l2:=ok.1.2;rw[<-hn]at l1 l2;have zs:((s+1:Nat):Int)-1=(s:Int):=by omega
   have z1:IntKind.i64.wrap (x:Int)=x:=ZS (by omega) (by omega);have z2:IntKind.i64.wrap (4*(n:Int))=4*n:=ZS (by omega) (by omega);have z3:IntKind.i64.wrap (32768-4*(n:Int))=32768-4*n:=ZS (by omega) (by omega);have m1:=yJ (a:=(x:Int)) (b:=32768-4*(n:Int)) (A:=32768) (B:=32768) (by omega) (by omega) (by omega) (by omega);obtain⟨m,hm⟩:∃m,m=(x:Int)*(32768-4*n):=⟨_,rfl⟩
   rw[<-hm]at m1;have z5:IntKind.i64.wrap m=m:=ZS (by omega) (by omega);have z6:IntKind.i64.wrap ((s:Int)+1)=s+1:=ZS (by omega) (by omega);have z7:IntKind.i64.wrap (4*((s:Int)+1))=4*(s+1):=ZS (by omega) (by omega);have hd:m.tdiv 32768=m/32768:=Int.tdiv_eq_ediv_of_nonneg m1.1;have z8:IntKind.i64.wrap (m/32768)=m/32768:=ZS (by omega) (by omega);have e1:((x*(32768-4*n)/32768+4*(s+1):Nat):Int)=m/32768+4*(s+1):=by
    rw[hm,Int.natCast_add,Int.natCast_ediv,Int.natCast_mul,Int.ofNat_sub (by omega)];simp
   have z9:IntKind.i64.wrap (m/32768+4*((s:Int)+1))=m/32768+4*(s+1):=ZS (by omega) (by omega);rw[zs,e1];simp[b1,show ¬(s:Int)<0 by omega,ZZ g1,ul,q1,q2,z1,z2,z3,<-hm,z5,hd,z8,z6,z7,z9,u1.1.ck];exact⟨rfl,x1⟩
variable{s:Nat}
theorem NL(u:VE D h v t.c)(ok:YP t)(hs:s<t.c.length):RT (λw h'=>w=.Zt [.int .u32 (pt t s:Nat),.int .u32 (pt t (s+1):Nat),.int .i64 0]/\Ext h h') (KW 150 [.agg [v,.int .i64 t.n],.int .i64 s] h):=by
  obtain⟨h1,b1,x1,g1,n1,u1⟩:=TL u;have hl:t.c.length<1000:=by have:=ok.1;omega
  obtain⟨w,h2,e2,rfl,x2⟩:=(Td u1 hl).elim;rw[if_pos ok]at e2;obtain⟨w,h3,e3,rfl,x3⟩:=(L8 (u1.ext x2) ok (j:=s) (by omega)).elim;obtain⟨w,h4,e4,rfl,x4⟩:=(L8 ((u1.ext x2).ext x3) ok (j:=s+1) (by omega)).elim;rw[show ((s+1:Nat):Int)-1=(s:Int)by omega]at e4;have g2:h2.get h.n=_:=(x2.get _ (H.ZW g1)).trans g1;have g3:h3.get h.n=_:=(x3.get _ (H.ZW g2)).trans g2;have z:IntKind.i64.wrap ((s:Int)-1)=(s:Int)-1:=ZS (by omega) (by omega);have p1:=NM ok (j:=s) (by omega);have p2:=NM ok (j:=s+1) (by omega);have z2:IntKind.u32.wrap ((pt t s:Nat):Int)=(pt t s:Nat):=Sp (by omega) (by omega);have z3:IntKind.u32.wrap ((pt t (s+1):Nat):Int)=(pt t (s+1):Nat):=Sp (by omega) (by omega);rw[W2 Wqi,fI];simp[b1,ZU (o:=0) (n:=2) g1 (by simp),ZU (o:=0) (n:=2) g2 (by simp),ZU (o:=0) (n:=2) g3 (by simp),e2,show ¬(s:Int)<0 by omega,ZZ g2,u.1.len,hs,e3,e4,z,z2,z3,ck,V.same,V.Xm,u.1.same,show ¬(t.c.length:Int)<=s by omega,show ¬t.c.length<=s by omega];exact⟨rfl,((x1.trans x2).trans x3).trans x4⟩
theorem BH(u:VE D h v t.c)(ok:YP t){at_:Nat}(ha:at_<32768):RT (λw h'=>w=.Zt [.int .i64 (VX t at_:Nat),.int .i64 0]/\Ext h h') (KW 153 [.agg [v,.int .i64 t.n],.int .u32 at_] h):=by
  obtain⟨h1,b1,x1,g1,n1,u1⟩:=TL u;have hl:t.c.length<1000:=by have:=ok.1;omega
  obtain⟨w,h2,e2,rfl,x2⟩:=(Td u1 hl).elim;rw[if_pos ok]at e2;have za:IntKind.i64.wrap (at_:Int)=at_:=ZS (by omega) (by omega);have loop:=Zd (body:=IJ KW ZI) (λn e g=>Ext h2 g/\n<=t.c.length/\0<n/\e.s [0,1,2,4,5,6] 1=.int .u32 at_/\e.s [0,1,2,4,5,6] 2=.ptr h.n 0/\e.s [0,1,2,4,5,6] 6=.int .i64 ((t.c.length-n:Nat):Int)/\∀j,j<t.c.length-n->pt t (j+1)<=at_)
   (λs=>Ext h2 s.h/\s.x=.ex 0/\s.e.s [0,1,2,4,5,6] 6=.int .i64 (VX t at_:Nat))
   (λn e g ⟨xg,hn,GQ,p1,p2,p6,hj⟩=>by
    obtain⟨k,hk⟩:∃k,k=t.c.length-n:=⟨_,rfl⟩
    rw[<-hk]at p6 hj;have gg:g.get h.n=_:=(xg.get _ (by have:=x2.n;omega)).trans ((x2.get _ (H.ZW g1)).trans g1);obtain⟨w,h3,e3,rfl,x3⟩:=(L8 ((u1.ext x2).ext xg) ok (j:=k+1) (by omega)).elim;rw[show ((k+1:Nat):Int)-1=(k:Int)by omega]at e3;by_cases hc:pt t (k+1)<=at_
    . have z:IntKind.i64.wrap ((k:Int)+1)=k+1:=ZS (by omega) (by omega)
      have Uo:n≠1:=by
       intro e;subst e;have:k+1=t.c.length:=by omega
       rw[this,MR ok]at hc;omega
      simp[IJ,p2,ZU (o:=0) (n:=2) gg (by simp),p6,e3,p1,za,hc,z];refine⟨n-1,by omega,xg.trans x3,by omega,by omega,by simp[p1],by simp[p2],by simp;omega,λj jX=>?_⟩;by_cases e:j=k
      .subst e;exact hc
      .exact hj j (by omega)
    . simp[IJ,p2,ZU (o:=0) (n:=2) gg (by simp),p6,e3,p1,za,hc]
      refine⟨xg.trans x3,rfl,?_⟩;rw[L7 (s:=k) (by omega) (by omega) hj];simp[p6])
  obtain⟨s,r1,r2,r3,r4⟩:=loop t.c.length ⟨[.agg [v,.int .i64 t.n],.int .u32 at_,.ptr h.n 0,.int .i64 0,.int .i64 0,.int .i64 0],6,.int .i64 0⟩ h2 ⟨Ext.refl h2,Nat.le_refl _,by have:=ok.1;omega,by simp,by simp,by simp,λj hj=>by omega⟩;obtain⟨x,e',h'⟩:=s;simp only at r2 r3 r4;subst r3;rw[W2 Wqf,fF];simp[b1,ZU (o:=0) (n:=2) g1 (by simp),e2,show ¬(32767:Int)<at_ by omega,r1,r4,show ¬32767<at_ by omega];exact⟨rfl,(x1.trans x2).trans r2⟩
open Go.Zf (ZS)
theorem yx(h1:2<=n)(h2:n<=16)(h:H):∃m:Nat,KW 158 [.int .i64 n] h=some (.ret (.int .i64 m),h)/\min m 2=(if n<4 then 1 else 2)/\m<10:=by
  have loop:=Zd (body:=OQ KW ZI) (λx e g=>g=h/\1<=x/\e.s [0,2,3] 0=.int .i64 x/\∃k:Nat,e.s [0,2,3] 3=.int .i64 k/\x*2^k<=n/\n<(x+1)*2^k/\k<5)
   (λs=>s.h=h/\s.x=.ex 0/\∃k:Nat,s.e.s [0,2,3] 3=.int .i64 k/\2^k<=n/\n<2*2^k/\k<5)
   (λx e g ⟨hg,hx,p0,k,p3,a1,a2,a3⟩=>by
    subst hg;by_cases hc:1<x
    . have hd:(x:Int).tdiv 2=((x/2:Nat):Int):=by rw[Int.tdiv_eq_ediv_of_nonneg (by omega)];simp
      have hxn:x<=16:=by have:=Nat.le_mul_of_pos_right x (Nat.two_pow_pos k);omega
      have z1:IntKind.i64.wrap ((x/2:Nat):Int)=((x/2:Nat):Int):=ZS (by omega) (by omega);have z2:IntKind.i64.wrap ((k:Int)+1)=k+1:=ZS (by omega) (by omega);simp[OQ,p0,hc,show (1:Int)<x by omega,hd,p3,z2];have e1:x/2*2^(k+1)<=x*2^k:=by
       rw[Nat.pow_succ,<-Nat.mul_assoc,Nat.mul_comm (x/2) (2^k),Nat.mul_assoc,Nat.mul_comm x];exact Nat.mul_le_mul_left _ (by omega)
      have e2:(x+1)*2^k<=(x/2+1)*2^(k+1):=by
       rw[Nat.pow_succ,<-Nat.mul_assoc,Nat.mul_comm (x/2+1) (2^k),Nat.mul_assoc,Nat.mul_comm (x+1)];exact Nat.mul_le_mul_left _ (by omega)
      refine⟨x/2,by omega,rfl,by omega,by simp;exact z1,k+1,by simp,by omega,by omega,?_⟩;have HB:x/2*2^(k+1)<=16:=by omega
      have:=Nat.le_mul_of_pos_left (2^(k+1)) (show 0<x/2 by omega);have h17:2^(k+1)<=2^4:=by omega
      have:=(Nat.pow_le_pow_iff_right (by decide)).mp h17;omega
    . have:x=1:=by omega
      subst this;simp[OQ,p0];exact⟨rfl,rfl,k,by simp[p3],by omega,by omega,a3⟩)
  obtain⟨⟨sx,se,sh⟩,r1,r2,r3,k,r4,r5,r6,r7⟩:=loop n ⟨[.int .i64 n,.int .i64 0,.int .i64 0],3,.int .i64 0⟩ h ⟨rfl,by omega,by simp,0,by simp,by simp,by simp,by omega⟩;simp only at r2 r3 r4;subst r2 r3;refine⟨k,?_,?_,by omega⟩
  .rw[W1 iW,oI]
   simp[r1,r4]
  .have hk:k=0\/k=1\/k=2\/k=3\/k=4:=by omega
   rcases hk with rfl|rfl|rfl|rfl|rfl<;>split<;>omega
structure sR(q:Nat)(u:Int)(l:List Nat)(g:H)(sv:V):Prop where
  b:g.get q=some (.cells [sv,.int .i64 u] 101 false)
  s:Zv (q+1) g sv 137 1 (Y0 l) l.length
variable{q:Nat}
theorem sR.push{u:Int}{sv:V}(a:sR q u l g sv)(x:Nat)(hl:l.length<100000):
   ∃v' g1 g2,Vk 137 1 2 (g.new (.cells [.int .u16 x] 137 false)) sv (.sl g.n 0 1 (.ex 1))=some (v',g1)/\g1.WO q 0 v'=some g2/\(∀h b o,Zx 1 h (.ptr b o) v'=(h.WO b o v').bind λh'=>some (.Wz,h'))/\sR q u (l++[x]) g2 v'/\(∀c,c<q->g2.get c=g.get c)/\g.n<=g2.n:=by
  have hq:=H.ZW a.b;obtain⟨v',g1,k1,k2,k3,k4⟩:=eG (bytes:=2) (.int .u16 x) a.s (by omega) (by omega);have VJ:g1.get q=some (.cells [sv,.int .i64 u] 101 false):=by rw[k4 q hq (a.s.fresh.ne (by omega)),a.b]
  refine⟨v',g1,_,k1,by rw[Zw VJ (by simp)],k2.Zx,⟨by rw[ZV (H.ZW VJ)];rfl,?_⟩,λc hc=>by rw[ZX (by omega),k4 c (by omega) (a.s.fresh.ne (by omega))],by rw[H.ZJ];exact k3⟩;rw[KD,List.length_append];exact k2.put (k2.fresh.ne (by omega))
theorem Ru(f:Nat->Nat)(m:Nat):Wf f (m+1)=Wf f m++[f m]:=by simp[Wf,List.range_succ]
structure I74(h0:H)(t:Tb)(s a q p Q:Nat)(n:Nat)(e:E)(g:H):Prop where
  hn:n<=t.c.length
  x:∀c,c<q->g.get c=h0.get c
  gn:h0.n<=g.n
  b:∃sv,sR q (min (t.n+1) 32) (Wf (OT t s) (t.c.length-n)) g sv
  p1:e.s [0,1,2,4,5,6,7,8,9,10,11,12] 1=.int .i64 s
  p2:e.s [0,1,2,4,5,6,7,8,9,10,11,12] 2=.ptr a 0
  p4:e.s [0,1,2,4,5,6,7,8,9,10,11,12] 4=.ptr p 0
  p6:e.s [0,1,2,4,5,6,7,8,9,10,11,12] 6=.int .i64 t.c.length
  p8:e.s [0,1,2,4,5,6,7,8,9,10,11,12] 8=.int .i64 Q
  Kh:e.s [0,1,2,4,5,6,7,8,9,10,11,12] 10=.ptr q 0
  Ag:e.s [0,1,2,4,5,6,7,8,9,10,11,12] 11=.int .i64 ((t.c.length-n:Nat):Int)
variable{h0:H}{a Q:Nat}
theorem ny(hQ:Q=2^WB t)(ok:YP t)(u:VE D h0 v t.c)(ha:h0.get a=some (.cells [v,.int .i64 t.n] 101 false))(hq:∀c,c<h0.n->c≠q->c<q)(haq:a<q)(KS:q<h0.n)(huq:∀c o k n,v=.sl c o k n->c<q)(hi:I74 h0 t s a q p Q n e g):
   ∃e' g',ZI (QD KW ZI) e g=some ⟨.ex 2,e',g'⟩/\I74 h0 t s a q p Q 0 e' g':=by
  have l1:=ok.1;have loop:=Zd (body:=QD KW ZI) (I74 h0 t s a q p Q) (λs'=>s'.x=.ex 2/\I74 h0 t s a q p Q 0 s'.e s'.h)
   (λn e g hi=>by
    obtain⟨hn,x,gn,⟨sv,B⟩,p1,p2,p4,p6,p8,Kh,Ag⟩:=hi;cases n with
    |zero =>
      simp[QD,Ag,p6];exact⟨rfl,hn,x,gn,⟨sv,B⟩,by simp[p1],by simp[p2],by simp[p4],by simp[p6],by simp[p8],by simp[Kh],by simp[Ag]⟩
    |succ n =>
      obtain⟨k,hk⟩:∃k,k=t.c.length-(n+1):=⟨_,rfl⟩
      have SF:t.c.length-n=k+1:=by omega
      have VW:k<t.c.length:=by omega
      rw[<-hk]at Ag B;have hle:=ok.le VW;have hQ1:1<=Q:=by rw[hQ];exact Nat.two_pow_pos _
      obtain⟨b,o,q1,q2,q3⟩:=u.at (i:=k) VW;have hbq:b<q:=by obtain⟨o',m',k',e⟩:=Dl q1;exact huq _ _ _ _ e
      have q2':g.Zp b o=some (.int .u16 (nth t.c k:Nat)):=by unfold H.Zp;rw[x b hbq];exact q2
      have EZ:g.get a=some (.cells [v,.int .i64 t.n] 101 false):=by rw[x a haq,ha]
      have hF:OT t s k=if k+1=t.c.length then nth t.c k else if k<s then nth t.c k-nth t.c k/Q else nth t.c k+(32768-nth t.c k)/Q:=by
       rw[OT,<-hQ]
      obtain⟨c,hc⟩:∃c,c=nth t.c k:=⟨_,rfl⟩
      rw[<-hc]at hF hle q2';have jW:=EY ok s VW;obtain⟨F,Dk⟩:∃F,F=OT t s k:=⟨_,rfl⟩
      rw[<-Dk]at hF jW;obtain⟨v',g1,g2,a1,a2,a3,a4,a5,a6⟩:=B.push F (by rw[Y6];omega);have uz:=B.s.same;have z0:IntKind.i64.wrap (c:Int)=c:=ZS (by omega) (by omega);have z1:IntKind.i64.wrap ((t.c.length:Int)-1)=((t.c.length-1:Nat):Int):=by rw[ZS (by omega) (by omega)];omega
      have z2:IntKind.i64.wrap ((k:Int)+1)=k+1:=ZS (by omega) (by omega);have zF:IntKind.u16.wrap (F:Int)=F:=GU (by omega) (by omega);have zF2:IntKind.i64.wrap (F:Int)=F:=ZS (by omega) (by omega);have d1:=Nat.div_le_self c Q;have d2:=Nat.div_le_self (32768-c) Q;have hB:∃sv,sR q (min (t.n+1) 32) (Wf (OT t s) (t.c.length-n)) g2 sv:=⟨v',by rw[SF,Ru,<-Dk];exact a4⟩
      have DJ:∀c,c<q->g2.get c=h0.get c:=λc hc=>by rw[a5 c hc,x c hc]
      by_cases e1:k+1=t.c.length
      .rw[if_pos e1]at hF
       subst hF;simp[QD,Ag,p6,show (k:Int)<t.c.length by omega,VW,p2,ZZ EZ,q1,q2',z0,z1,show ¬(k:Int)<((t.c.length-1:Nat):Int)by omega,show ¬k<t.c.length-1 by omega,Vt,Kh,ZZ B.b,zF,bs,YD,splice,a1,a3,a2,ck,uz,V.same,z2];exact⟨n,Nat.lt_succ_self n,by omega,DJ,by omega,hB,by simp[p1],by simp[p2],by simp[p4],by simp[p6],by simp[p8],by simp[Kh],by simp[SF]⟩
      .rw[if_neg e1]at hF
       by_cases e2:k<s
       .rw[if_pos e2]at hF
        obtain⟨y,hy⟩:∃y,y=c/Q:=⟨_,rfl⟩
        rw[<-hy]at hF d1;have t1:((c:Int)).tdiv (Q:Int)=(y:Int):=by rw[Int.tdiv_eq_ediv_of_nonneg (by omega),hy];simp
        have t2:IntKind.i64.wrap (y:Int)=y:=ZS (by omega) (by omega);have t3:(c:Int)-(y:Int)=F:=by omega
        simp[QD,Ag,p6,show (k:Int)<t.c.length by omega,VW,p2,ZZ EZ,q1,q2',z0,z1,show (k:Int)<((t.c.length-1:Nat):Int)by omega,show k<t.c.length-1 by omega,p1,show ¬(s:Int)<=k by omega,show ¬s<=k by omega,p8,show ¬(Q:Int)=0 by omega,show ¬Q=0 by omega,t1,t2,t3,zF2,zF,Kh,ZZ B.b,bs,YD,splice,a1,a3,a2,ck,uz,V.same,z2];exact⟨n,Nat.lt_succ_self n,by omega,DJ,by omega,hB,by simp[p1],by simp[p2],by simp[p4],by simp[p6],by simp[p8],by simp[Kh],by simp[SF]⟩
       .rw[if_neg e2]at hF
        obtain⟨y,hy⟩:∃y,y=(32768-c)/Q:=⟨_,rfl⟩
        rw[<-hy]at hF d2;obtain⟨w,hw⟩:∃w,w=32768-c:=⟨_,rfl⟩
        have t0:IntKind.i64.wrap (32768-(c:Int))=w:=by rw[ZS (by omega) (by omega)];omega
        have t1:((w:Int)).tdiv (Q:Int)=(y:Int):=by rw[Int.tdiv_eq_ediv_of_nonneg (by omega),hy,hw];simp
        have t2:IntKind.i64.wrap (y:Int)=y:=ZS (by omega) (by omega);have t3:(c:Int)+(y:Int)=F:=by omega
        simp[QD,Ag,p6,show (k:Int)<t.c.length by omega,VW,p2,ZZ EZ,q1,q2',z0,z1,show (k:Int)<((t.c.length-1:Nat):Int)by omega,show k<t.c.length-1 by omega,p1,show (s:Int)<=k by omega,show s<=k by omega,p8,show ¬(Q:Int)=0 by omega,show ¬Q=0 by omega,t0,t1,t2,t3,zF2,zF,Kh,ZZ B.b,bs,YD,splice,a1,a3,a2,ck,uz,V.same,z2];exact⟨n,Nat.lt_succ_self n,by omega,DJ,by omega,hB,by simp[p1],by simp[p2],by simp[p4],by simp[p6],by simp[p8],by simp[Kh],by simp[SF]⟩)
  obtain⟨⟨x,e',g'⟩,r1,r2,r3⟩:=loop n e g hi;simp only at r2 r3;subst r2;exact⟨e',g',r1,r3⟩
variable{R:Nat}
theorem sO(hR:R<8)(en:E)(e7:en.s [0,1,2,4,5,6,7,8,9,10,11,12] 7=.int .i64 R)(e8:en.s [0,1,2,4,5,6,7,8,9,10,11,12] 8=.int .i64 1)(e9:en.s [0,1,2,4,5,6,7,8,9,10,11,12] 9=.int .i64 0):
   ∃e',ZI (Mk KW ZI) en g=some ⟨.ex 0,e',g⟩/\e'.s [0,1,2,4,5,6,7,8,9,10,11,12] 8=.int .i64 (pw R:Nat)/\QO [0,1,2,4,5,6,7,8,9,10,11,12] [0,1,2,4,5,6] e' en:=by
  have loop:=Zd (body:=Mk KW ZI) (λn e h=>h=g/\n<=R/\e.s [0,1,2,4,5,6,7,8,9,10,11,12] 7=.int .i64 R/\e.s [0,1,2,4,5,6,7,8,9,10,11,12] 8=.int .i64 (pw (R-n):Nat)/\e.s [0,1,2,4,5,6,7,8,9,10,11,12] 9=.int .i64 ((R-n:Nat):Int)/\QO [0,1,2,4,5,6,7,8,9,10,11,12] [0,1,2,4,5,6] e en)
   (λs=>s.h=g/\s.x=.ex 0/\s.e.s [0,1,2,4,5,6,7,8,9,10,11,12] 8=.int .i64 (pw R:Nat)/\QO [0,1,2,4,5,6,7,8,9,10,11,12] [0,1,2,4,5,6] s.e en)
   (λn e h ⟨hg,hn,p7,p8,p9,hi⟩=>by
    subst hg;have i0:=hi 0 (by simp);have i1:=hi 1 (by simp);have i2:=hi 2 (by simp);have i4:=hi 4 (by simp);have i5:=hi 5 (by simp);have i6:=hi 6 (by simp);obtain⟨y,hy⟩:∃y,y=pw (R-n):=⟨_,rfl⟩
    rw[<-hy]at p8;have hy8:y<=128:=by rw[hy,pw,show 128=2^7 from rfl];exact Nat.pow_le_pow_right (by decide) (by omega)
    cases n with
    |zero =>
      simp only[Nat.sub_zero]at hy;simp[Mk,p7,p9];exact⟨rfl,rfl,by simp[p8,hy],λi hm=>by
       simp only[List.mem_cons,List.not_mem_nil,or_false]at hm;rcases hm with rfl|rfl|rfl|rfl|rfl|rfl<;>simp[i0,i1,i2,i4,i5,i6]⟩
    |succ n =>
      obtain⟨k,hk⟩:∃k,k=R-(n+1):=⟨_,rfl⟩
      have SF:R-n=k+1:=by omega
      rw[<-hk]at p9 hy;have z1:IntKind.i64.wrap ((y:Int)*2)=(pw (k+1):Nat):=by rw[ZS (by omega) (by omega),pw,Nat.pow_succ,hy,pw];simp
      have z2:IntKind.i64.wrap ((k:Int)+1)=k+1:=ZS (by omega) (by omega);obtain⟨y2,FH⟩:∃y2,y2=pw (k+1):=⟨_,rfl⟩
      rw[<-FH]at z1;simp[Mk,p7,p9,show k<R by omega,show (k:Int)<R by omega,p8,z1,z2];exact⟨n,Nat.lt_succ_self n,rfl,by omega,by simp[p7],by rw[SF,FH];simp[FH],by simp[SF],λi hm=>by
       simp only[List.mem_cons,List.not_mem_nil,or_false]at hm;rcases hm with rfl|rfl|rfl|rfl|rfl|rfl<;>simp[i0,i1,i2,i4,i5,i6]⟩)
  obtain⟨⟨x,e',g'⟩,r1,r2,r3,r4,r5⟩:=loop R en g ⟨rfl,Nat.le_refl _,e7,by rw[e8,Nat.sub_self];rfl,by rw[e9,Nat.sub_self];rfl,λi _=>rfl⟩;simp only at r2 r3 r4 r5;subst r2 r3;exact⟨e',r1,r4,r5⟩
theorem EX(u:VE D h v t.c)(ok:YP t)(hs:s<t.c.length):
   RT (λw h'=>∃vt,w=.Zt [vt,.int .i64 0]/\GP h.n h' vt (YE t s)/\Ext h h') (KW 155 [.agg [v,.int .i64 t.n],.int .i64 s] h):=by
  have l1:=ok.1;obtain⟨h1,b1,x1,g1,n1,u1⟩:=TL u;obtain⟨h2,Zq⟩:∃g,g=h1.new (.cells [.ZO,.int .i64 0] 101 false):=⟨_,rfl⟩
  have x2:Ext h1 h2:=by rw[Zq];exact (Ext.refl h1).new _
  have n2:h2.n=h1.n+1:=by rw[Zq,H.ZP]
  have r2:h2.get h1.n=some (.cells [.ZO,.int .i64 0] 101 false):=by rw[Zq,ZY]
  have u2:=u1.ext x2;obtain⟨w,h3,e3,rfl,x3⟩:=(Td u2 (by omega)).elim;rw[if_pos ok]at e3;have sN:h2.get h.n=_:=(x2.get _ (H.ZW g1)).trans g1;have sM:h3.get h.n=_:=(x3.get _ (H.ZW sN)).trans sN;have sK:h3.get h1.n=_:=(x3.get _ (H.ZW r2)).trans r2;obtain⟨lg,e4,BG,xqx⟩:=yx ok.1.1 ok.1.2 h3;obtain⟨m,hm⟩:∃m,m=min (t.n+1) 32:=⟨_,rfl⟩
  have zn:IntKind.i64.wrap (t.n+1)=t.n+1:=by have:=ok.2.1;exact ZS (by omega) (by omega)
  have TK:(if (32:Int)<t.n+1 then (32:Int)else t.n+1)=m:=by rw[hm];split<;>omega
  obtain⟨h4,Xs⟩:∃g,g=(h3.new (.cells [.ZO,.int .i64 0] 101 false)).put h3.n (.cells [.ZO,.int .i64 m] 101 false):=⟨_,rfl⟩
  have x4:Ext h3 h4:=by rw[Xs];exact ((Ext.refl h3).new _).put (Nat.le_refl _) _
  have n4:h4.n=h3.n+1:=by rw[Xs,H.ZJ,H.ZP]
  have g4:h4.get h3.n=some (.cells [.ZO,.int .i64 m] 101 false):=by rw[Xs,ZV (by rw[H.ZP];omega)]
  have eF:h4.get h.n=_:=(x4.get _ (H.ZW sM)).trans sM;have nx:h4.get h1.n=_:=(x4.get _ (H.ZW sK)).trans sK;have u4:=(u2.ext x3).ext x4;have qe:Ext h h3:=(x1.trans x2).trans x3
  -- how fast
  obtain⟨R,hR⟩:∃R,R=WB t:=⟨_,rfl⟩
  have hR8:R<8:=by rw[hR];exact GO t
  obtain⟨q,hq⟩:∃q,q=(if t.c.length<4 then 1 else 2):=⟨_,rfl⟩
  have e5:(if (2:Int)<(lg:Int)then (2:Int)else (lg:Int))=(q:Int):=by rw[hq,<-BG];split<;>omega
  have qc:q<=2:=by rw[hq];split<;>omega
  have z2:IntKind.i64.wrap (3+(q:Int))=3+q:=ZS (by omega) (by omega);have z3:IntKind.i64.wrap (3+(q:Int)+1)=3+q+1:=ZS (by omega) (by omega);have z4:IntKind.i64.wrap (3+(q:Int)+1+1)=3+q+1+1:=ZS (by omega) (by omega);have hr:(R:Int)=3+q+(if 15<t.n then 1 else 0)+(if 31<t.n then 1 else 0):=by
   rw[hR];unfold WB;rw[<-hq];split<;>split<;>simp
  have nu:¬(t.c.length:Int)<=s:=by omega
  have yv:¬t.c.length<=s:=by omega
  obtain⟨e6,k1,k2,k3⟩:=sO (g:=h3) hR8 ⟨[.agg [v,.int .i64 t.n],.int .i64 s,.ptr h.n 0,.ptr h1.n 0,.int .i64 0,.int .i64 t.c.length,.int .i64 R,.int .i64 1,.int .i64 0,.Zt [],.Zt [],.Zt []],9,.int .i64 0⟩ (by simp) (by simp) (by simp);have lp:=k3 0 (by simp);have yP:=k3 1 (by simp);have XF:=k3 2 (by simp);have kl:=k3 4 (by simp);have V8:=k3 5 (by simp);have yO:=k3 6 (by simp);simp at lp yP XF kl V8 yO;obtain⟨Q,hQ⟩:∃Q,Q=2^WB t:=⟨_,rfl⟩
  rw[hR,pw,<-hQ]at k2;obtain⟨e7,g7,j1,I⟩:=ny (Q:=Q) hQ (h0:=h4) (t:=t) (s:=s) (a:=h.n) (q:=h3.n) (p:=h1.n) ok u4 eF (λc hc JW=>by omega) (by have:=x2.n;have:=x3.n;omega) (by omega)
   (λc o k n e=>by have:=u.1.under _ _ _ _ e;have:=qe.n;omega) (n:=t.c.length)
   (e:=⟨[.agg [v,.int .i64 t.n],.int .i64 s,.ptr h.n 0,.ptr h1.n 0,.int .i64 0,.int .i64 t.c.length,e6.s [0,1,2,4,5,6,7,8,9,10,11,12] 7,.int .i64 Q,e6.s [0,1,2,4,5,6,7,8,9,10,11,12] 9,.ptr h3.n 0,.int .i64 0,e6.s [0,1,2,4,5,6,7,8,9,10,11,12] 12],11,.int .i64 0⟩) (g:=h4)
   ⟨Nat.le_refl _,λc _=>rfl,Nat.le_refl _,⟨.ZO,by rw[Nat.sub_self,<-hm];exact⟨g4,Zv.nil _ _ _ _⟩⟩,by simp,by simp,by simp,by simp,by simp,by simp,by simp⟩
  obtain⟨_,xx,gn,⟨sv,B⟩,p1,p2,p4,p6,p8,Kh,Ag⟩:=I;have n32:h1.n<h3.n:=by have:=x3.n;omega
  have nr:g7.get h1.n=_:=(xx _ n32).trans nx;obtain⟨h8,WM⟩:∃g,g=g7.put h1.n (.cells [sv,.int .i64 m] 101 false):=⟨_,rfl⟩
  have r8:h8.get h1.n=some (.cells [sv,.int .i64 m] 101 false):=by rw[WM,ZV (H.ZW nr)]
  rw[<-hm]at B;have Bb:=B.b;have nn:∃vt,V.Zt [.agg [sv,.int .i64 m],.int .i64 0]=.Zt [vt,.int .i64 0]/\GP h.n h8 vt (YE t s)/\Ext h h8:=by
   refine⟨_,rfl,⟨sv,by rw[hm];rfl,?_⟩,?_⟩
   .have hS:=B.s
    rw[Nat.sub_zero]at hS;have hG:Zv (h3.n+1) h8 sv 137 1 (Y0 (YE t s).c) (YE t s).c.length:=by
      rw[WM];exact hS.put (hS.fresh.ne (by omega))
    exact⟨Zv.sJ hG λb hb=>by have:=qe.n;show h.n<=b;omega,λy hy=>by
      obtain⟨i,hi,rfl⟩:=List.getElem_of_mem hy;rw[<-Qy hi];rw[Yh]at hi;rw[VD hi];have:=EY ok s hi;omega⟩
   .refine⟨by rw[WM,H.ZJ];have:=qe.n;omega,λc hc=>?_⟩
    have:=x1.n;have:=qe.n;rw[WM,ZX (by omega),xx c (by omega),x4.get c (by omega),qe.get c hc]
  rw[W2 Wqd,fD];by_cases c1:15<t.n
  .by_cases c2:31<t.n
   .have JV:(R:Int)=3+q+1+1:=by rw[hr,if_pos c1,if_pos c2]
    rw[<-JV]at z4;simp[b1,nw,<-Zq,ZU (o:=0) (n:=2) sN (by simp),e3,show ¬(s:Int)<0 by omega,ZZ sM,u.1.len,nu,yv,e4,e5,z2,c1,z3,c2,<-JV,z4,k1,lp,yP,XF,kl,V8,yO,k2,zn,TK,bl,YD,splice,ZF (o:=0) ZY,<-Xs,j1,Kh,ZU (o:=0) (n:=2) Bb (by simp),p4,ZF (o:=0) nr,<-WM,ZU (o:=0) (n:=2) r8 (by simp)];exact nn
   .have JV:(R:Int)=3+q+1:=by rw[hr,if_pos c1,if_neg c2];omega
    rw[<-JV]at z3;simp[b1,nw,<-Zq,ZU (o:=0) (n:=2) sN (by simp),e3,show ¬(s:Int)<0 by omega,ZZ sM,u.1.len,nu,yv,e4,e5,z2,c1,z3,c2,<-JV,k1,lp,yP,XF,kl,V8,yO,k2,zn,TK,bl,YD,splice,ZF (o:=0) ZY,<-Xs,j1,Kh,ZU (o:=0) (n:=2) Bb (by simp),p4,ZF (o:=0) nr,<-WM,ZU (o:=0) (n:=2) r8 (by simp)];exact nn
  .have JV:(R:Int)=3+q:=by rw[hr,if_neg c1,if_neg (by omega)];omega
   rw[<-JV]at z2;simp[b1,nw,<-Zq,ZU (o:=0) (n:=2) sN (by simp),e3,show ¬(s:Int)<0 by omega,ZZ sM,u.1.len,nu,yv,e4,e5,z2,c1,show ¬31<t.n by omega,<-JV,k1,lp,yP,XF,kl,V8,yO,k2,zn,TK,bl,YD,splice,ZF (o:=0) ZY,<-Xs,j1,Kh,ZU (o:=0) (n:=2) Bb (by simp),p4,ZF (o:=0) nr,<-WM,ZU (o:=0) (n:=2) r8 (by simp)];exact nn
open Go.Zf (ZS)
theorem BF(h2:2<=n)(HB:n<=16)(h:H):RT (λw h'=>∃vt,w=.Zt [vt,.int .i64 0]/\GP h.n h' vt (Va n)/\Ext h h') (KW 68 [.int .i64 n] h):=by
  obtain⟨h1,ZL⟩:∃g,g=h.new (.cells [.ZO,.int .i64 0] 101 false):=⟨_,rfl⟩
  have x1:Ext h h1:=by rw[ZL];exact (Ext.refl h).new _
  have n1:h1.n=h.n+1:=by rw[ZL,H.ZP]
  have r1:h1.get h.n=some (.cells [.ZO,.int .i64 0] 101 false):=by rw[ZL,ZY]
  obtain⟨h3,Zc⟩:∃g,g=h1.new (.cells [.ZO,.int .i64 0] 101 false):=⟨_,rfl⟩
  have x3:Ext h1 h3:=by rw[Zc];exact (Ext.refl h1).new _
  have r3:h3.get h1.n=some (.cells [.ZO,.int .i64 0] 101 false):=by rw[Zc,ZY]
  have loop:=Zd (body:=DH KW ZI) (λk e g=>k<=n/\(∀c,c<h1.n->g.get c=h3.get c)/\h3.n<=g.n/\(∃sv,sR h1.n 0 (Wf (KC n) (n-k)) g sv)/\e.s [0,2,3,4,5] 0=.int .i64 n/\e.s [0,2,3,4,5] 2=.ptr h.n 0/\e.s [0,2,3,4,5] 4=.ptr h1.n 0/\e.s [0,2,3,4,5] 5=.int .i64 ((n-k:Nat):Int))
   (λs=>s.x=.ex 0/\(∀c,c<h1.n->s.h.get c=h3.get c)/\h3.n<=s.h.n/\(∃sv,sR h1.n 0 (Wf (KC n) n) s.h sv)/\s.e.s [0,2,3,4,5] 2=.ptr h.n 0/\s.e.s [0,2,3,4,5] 4=.ptr h1.n 0)
   (λk e g ⟨hk,xx,gn,⟨sv,B⟩,p0,p2,p4,p5⟩=>by
    cases k with
    |zero =>
      simp[DH,p0,p5];exact⟨rfl,xx,gn,⟨sv,B⟩,by simp[p2],by simp[p4]⟩
    |succ k =>
      obtain⟨i,hi⟩:∃i,i=n-(k+1):=⟨_,rfl⟩
      have Tw:n-k=i+1:=by omega
      rw[<-hi]at p5 B;have hF:=Is (n:=n) (i:=i) (by omega);obtain⟨v',g1,g2,a1,a2,a3,a4,a5,a6⟩:=B.push (KC n i) (by rw[Y6];omega);have uz:=B.s.same;have z1:IntKind.i64.wrap ((i:Int)+1)=i+1:=ZS (by omega) (by omega);have z2:IntKind.i64.wrap (32768*((i:Int)+1))=32768*(i+1):=ZS (by omega) (by omega);obtain⟨F,Dk⟩:∃F,F=KC n i:=⟨_,rfl⟩
      have t1:(32768*((i:Int)+1)).tdiv (n:Int)=(F:Int):=by
       rw[Int.tdiv_eq_ediv_of_nonneg (by omega),Dk,KC];simp
      rw[<-Dk]at hF a1;have z3:IntKind.i64.wrap (F:Int)=F:=ZS (by omega) (by omega);have z4:IntKind.u16.wrap (F:Int)=F:=GU (by omega) (by omega);simp[DH,p0,p5,show (i:Int)<n by omega,show i<n by omega,p4,ZZ B.b,z1,z2,show ¬(n:Int)=0 by omega,show ¬n=0 by omega,t1,z3,z4,bs,YD,splice,a1,a3,a2,ck,uz,V.same];exact⟨k,Nat.lt_succ_self k,by omega,λc hc=>by rw[a5 c hc,xx c hc],by omega,⟨v',by rw[Tw,Ru];exact a4⟩,by simp[p0],by simp[p2],by simp[p4],by simp[Tw]⟩)
  obtain⟨⟨sx,se,sh⟩,q1,q2,xx,gn,⟨sv,B⟩,p2,p4⟩:=loop n ⟨[.int .i64 n,.ptr h.n 0,.int .i64 0,.ptr h1.n 0,.int .i64 0],5,.int .i64 0⟩ h3 ⟨Nat.le_refl _,λc _=>rfl,Nat.le_refl _,⟨.ZO,by rw[Nat.sub_self];exact⟨r3,Zv.nil _ _ _ _⟩⟩,by simp,by simp,by simp,by simp⟩;simp only at q2 xx gn B p2 p4;subst q2;have ra:sh.get h.n=_:=(xx h.n (by omega)).trans ((x3.get _ (by omega)).trans r1);obtain⟨h8,WM⟩:∃g,g=sh.put h.n (.cells [sv,.int .i64 0] 101 false):=⟨_,rfl⟩
  have r8:h8.get h.n=some (.cells [sv,.int .i64 0] 101 false):=by rw[WM,ZV (H.ZW ra)]
  have Bb:=B.b;rw[W1 r68,s68];simp[nw,<-ZL,<-Zc,show ¬(n:Int)<2 by omega,show ¬n<2 by omega,show ¬(16:Int)<n by omega,show ¬16<n by omega,q1,p4,ZU (o:=0) (n:=2) Bb (by simp),p2,ZF (o:=0) ra,splice,<-WM,ZU (o:=0) (n:=2) r8 (by simp)];have hS:=B.s;have hG:Zv (h1.n+1) h8 sv 137 1 (Y0 (Va n).c) (Va n).c.length:=by
   rw[WM];exact hS.put (hS.fresh.ne (by omega))
  refine⟨_,rfl,⟨sv,rfl,Zv.sJ hG λb hb=>by show h.n<=b;omega,λy hy=>?_⟩,?_⟩
  .obtain⟨i,hi,rfl⟩:=Pz hy
   have:=Is hi;omega
  .refine⟨by rw[WM,H.ZJ];have:=x1.n;have:=x3.n;omega,λc hc=>?_⟩
   have:=x1.n;rw[WM,ZX (by omega),xx c (by omega),x3.get c (by omega),x1.get c hc]
def HY(k:Nat)(v:V):Prop:=∃y:Nat,y=32768/pw k/\v=.int .i64 y
theorem EW(h2:2<=n)(HB:n<=16)(h:H):RT (λw h'=>∃vt,w=.Zt [vt,.int .i64 0]/\GP h.n h' vt (XP n)/\Ext h h') (KW 69 [.int .i64 n] h):=by
  obtain⟨h1,ZL⟩:∃g,g=h.new (.cells [.ZO,.int .i64 0] 101 false):=⟨_,rfl⟩
  have x1:Ext h h1:=by rw[ZL];exact (Ext.refl h).new _
  have n1:h1.n=h.n+1:=by rw[ZL,H.ZP]
  have r1:h1.get h.n=some (.cells [.ZO,.int .i64 0] 101 false):=by rw[ZL,ZY]
  obtain⟨h3,Zc⟩:∃g,g=h1.new (.cells [.ZO,.int .i64 0] 101 false):=⟨_,rfl⟩
  have x3:Ext h1 h3:=by rw[Zc];exact (Ext.refl h1).new _
  have r3:h3.get h1.n=some (.cells [.ZO,.int .i64 0] 101 false):=by rw[Zc,ZY]
  have zn1:IntKind.i64.wrap ((n:Int)-1)=((n-1:Nat):Int):=by rw[ZS (by omega) (by omega)];omega
  have loop:=Zd (body:=DG KW ZI) (λk e g=>k<=n-1/\(∀c,c<h1.n->g.get c=h3.get c)/\h3.n<=g.n/\(∃sv,sR h1.n 0 (Wf (Py n) (n-1-k)) g sv)/\e.s [0,2,3,4,5,6] 0=.int .i64 n/\e.s [0,2,3,4,5,6] 2=.ptr h.n 0/\e.s [0,2,3,4,5,6] 4=.ptr h1.n 0/\e.s [0,2,3,4,5,6] 6=.int .i64 ((n-1-k:Nat):Int)/\HY (n-1-k) (e.s [0,2,3,4,5,6] 5))
   (λs=>s.x=.ex 0/\(∀c,c<h1.n->s.h.get c=h3.get c)/\h3.n<=s.h.n/\(∃sv,sR h1.n 0 (Wf (Py n) (n-1)) s.h sv)/\s.e.s [0,2,3,4,5,6] 2=.ptr h.n 0/\s.e.s [0,2,3,4,5,6] 4=.ptr h1.n 0)
   (λk e g ⟨hk,xx,gn,⟨sv,B⟩,p0,p2,p4,p6,⟨y,hy,p5⟩⟩=>by
    cases k with
    |zero =>
      simp[DG,p0,p6,zn1];exact⟨rfl,xx,gn,⟨sv,B⟩,by simp[p2],by simp[p4]⟩
    |succ k =>
      obtain⟨i,hi⟩:∃i,i=n-1-(k+1):=⟨_,rfl⟩
      have Tw:n-1-k=i+1:=by omega
      rw[<-hi]at p6 B hy;have hyl:y<=32768:=by rw[hy];exact Nat.div_le_self _ _
      have hF:=Ir n i;obtain⟨v',g1,g2,a1,a2,a3,a4,a5,a6⟩:=B.push (Py n i) (by rw[Y6];omega);have uz:=B.s.same;have z1:IntKind.i64.wrap ((i:Int)+1)=i+1:=ZS (by omega) (by omega);obtain⟨F,Dk⟩:∃F,F=Py n i:=⟨_,rfl⟩
      obtain⟨y2,FH⟩:∃y2,y2=y/2:=⟨_,rfl⟩
      have uu:y2=32768/pw (i+1):=by rw[FH,hy,GN i (by omega)]
      have t1:((y:Int)).tdiv 2=(y2:Int):=by
       rw[Int.tdiv_eq_ediv_of_nonneg (by omega),FH];simp
      have hF2:F=32768-y2:=by rw[Dk,Py,if_neg (by omega),uu]
      rw[<-Dk]at hF a1;have z2:IntKind.i64.wrap (y2:Int)=y2:=ZS (by omega) (by omega);have z3:IntKind.i64.wrap (32768-(y2:Int))=F:=by rw[ZS (by omega) (by omega)];omega
      have z4:IntKind.u16.wrap (F:Int)=F:=GU (by omega) (by omega);simp[DG,p0,p6,zn1,show (i:Int)<((n-1:Nat):Int)by omega,show i<n-1 by omega,p5,t1,z2,z3,p4,ZZ B.b,z1,z4,bs,YD,splice,a1,a3,a2];exact⟨k,Nat.lt_succ_self k,by omega,λc hc=>by rw[a5 c hc,xx c hc],by omega,⟨v',by rw[Tw,Ru];exact a4⟩,by simp[p0],by simp[p2],by simp[p4],by simp[Tw],⟨y2,by rw[Tw];exact uu,by simp⟩⟩)
  obtain⟨⟨sx,se,sh⟩,q1,q2,xx,gn,⟨sv,B⟩,p2,p4⟩:=loop (n-1) ⟨[.int .i64 n,.ptr h.n 0,.int .i64 0,.ptr h1.n 0,.int .i64 32768,.int .i64 0],6,.int .i64 0⟩ h3 ⟨Nat.le_refl _,λc _=>rfl,Nat.le_refl _,⟨.ZO,by rw[Nat.sub_self];exact⟨r3,Zv.nil _ _ _ _⟩⟩,by simp,by simp,by simp,by simp,⟨32768,by rw[Nat.sub_self];rfl,by simp⟩⟩;simp only at q2 xx gn B p2 p4;subst q2;obtain⟨v',g1,g2,a1,a2,a3,a4,a5,a6⟩:=B.push 32768 (by rw[Y6];omega);have hL:Wf (Py n) (n-1)++[32768]=(XP n).c:=by
   obtain⟨m,rfl⟩:∃m,n=m+1:=⟨n-1,by omega⟩
   rw[Nat.add_sub_cancel,XP,Ru]
   congr 2
   rw[Py,if_pos rfl]
  rw[hL]at a4;have ra:g2.get h.n=_:=(a5 h.n (by omega)).trans ((xx h.n (by omega)).trans ((x3.get _ (by omega)).trans r1));obtain⟨h8,WM⟩:∃g,g=g2.put h.n (.cells [v',.int .i64 0] 101 false):=⟨_,rfl⟩
  have r8:h8.get h.n=some (.cells [v',.int .i64 0] 101 false):=by rw[WM,ZV (H.ZW ra)]
  have Bb:=a4.b;rw[W1 r69,s69];simp at a1;simp[nw,<-ZL,<-Zc,show ¬(n:Int)<2 by omega,show ¬n<2 by omega,show ¬(16:Int)<n by omega,show ¬16<n by omega,q1,p4,ZZ B.b,bs,YD,a1,a3,a2,ZU (o:=0) (n:=2) Bb (by simp),p2,ZF (o:=0) ra,splice,<-WM,ZU (o:=0) (n:=2) r8 (by simp)];have hS:=a4.s;have hG:Zv (h1.n+1) h8 v' 137 1 (Y0 (XP n).c) (XP n).c.length:=by
   rw[WM];exact hS.put (hS.fresh.ne (by omega))
  refine⟨.agg [v',.int .i64 0],rfl,?_,?_⟩
  .refine⟨v',rfl,Zv.sJ hG λb hb=>by show h.n<=b;omega,λy hy=>?_⟩
   obtain⟨i,hi,rfl⟩:=Pz hy;have:=Ir n i;omega
  .refine⟨by rw[WM,H.ZJ];have:=x1.n;have:=x3.n;omega,λc hc=>?_⟩
   have:=x1.n;rw[WM,ZX (by omega),a5 c (by omega),xx c (by omega),x3.get c (by omega),x1.get c hc]
open Go.Zf (ZS)
open Go.Zf (ZS)
def eD(s:Nat×Nat×Bool):List V:=[.int .i64 s.1,.int .i64 s.2.1,.int .i64 (if s.2.2 then 1 else 0)]
def Qx:List V:=SH.flatMap eD
variable{k:Nat}
theorem Dj(h:k<32):(Qx.drop (k*3)).take 3=[.int .i64 (cx k),.int .i64 (vl k),.int .i64 (if NK k then 1 else 0)]:=(yu eD (λ_=>rfl) SH k _ (yr h)).1
theorem yq:Qx.length=96:=by kernel_rfl
theorem nj(K:Zs)(L:Yy)(h:H):s67 K L (VC k67 []) h=some ⟨.rt,⟨[.sl h.n 0 32 (.ex 32)],0,.sl h.n 0 32 (.ex 32)⟩,h.new (.cells Qx 132 false)⟩:=by kernel_rfl
theorem Ox(h:H):KW 67 [] h=some (.ret (.sl h.n 0 32 (.ex 32)),h.new (.cells Qx 132 false)):=by
  rw[W0 r67,nj];simp
theorem EV(k:Int)(h:H):RT (λw h'=>w=(if 0<=k/\k<32 then .Zt [.int .i64 (cx k.toNat),.int .i64 (vl k.toNat),.int .i64 0]else .Zt [.int .i64 0,.int .i64 0,.int .i64 41])/\Ext h h') (KW 149 [.int .i64 k] h):=by
  rw[W1 Wqj,fJ];by_cases h1:k<0
  .simp[h1,Vt]
   exact⟨by rw[if_neg (by omega)],Ext.refl h⟩
  .by_cases h2:32<=k
   .simp[h1,h2]
    exact⟨by rw[if_neg (by omega)],Ext.refl h⟩
   .obtain⟨n,rfl⟩:∃n:Nat,k=n:=⟨k.toNat,by omega⟩
    have hn:n<32:=by omega
    have e1:=Ox h;obtain⟨g,hg⟩:∃g,g=h.new (.cells Qx 132 false):=⟨_,rfl⟩
    have x1:Ext h g:=by rw[hg];exact (Ext.refl h).new _
    have g0:g.get h.n=some (.cells Qx 132 false):=by rw[hg,ZY]
    rw[<-hg]at e1;have qb:g.Ze h.n (n*3) 3=some [.int .i64 (cx n),.int .i64 (vl n),.int .i64 (if NK n then 1 else 0)]:=by
      rw[ZU g0 (by rw[yq];omega),Dj hn]
    obtain⟨y,hy⟩:∃y:Int,y=(if NK n then 1 else 0):=⟨_,rfl⟩
    rw[<-hy]at qb;obtain⟨g2,XQ⟩:∃g2,g2=(g.new (.cells [.int .i64 0,.int .i64 0,.int .i64 0] 132 false)).put g.n (.cells [.int .i64 (cx n),.int .i64 (vl n),.int .i64 y] 132 false):=⟨_,rfl⟩
    have r2:g2.get g.n=some (.cells [.int .i64 (cx n),.int .i64 (vl n),.int .i64 y] 132 false):=by rw[XQ,ZV (by rw[H.ZP];omega)]
    simp[h1,h2,show ¬32<=n by omega,e1,show (n:Int)<32 by omega,qb,nw,ZF (o:=0) ZY,splice,<-XQ,ZZ r2];exact⟨rfl,by rw[XQ];exact (x1.new _).put x1.n _⟩
open Go.Zf (ZS)
section ni
variable{D E:Nat->Prop}{h h':H}{v:V}
variable{cs:List V}{r:List Tb}{vc:V}
theorem eC(G:Zv p g v tT 2 cs r.length)(e:Ts D g cs r)(u:VE D g vc t.c)(hp:p<=g.n)(hl:r.length<1000):
   ∃v' g',Vk 101 2 32 (g.new (.cells [vc,.int .i64 t.n] 101 false)) v (.sl g.n 0 1 (.ex 1))=some (v',g')/\Zv p g' v' tT 2 (cs++[vc,.int .i64 t.n]) (r++[t]).length/\Ts D g' (cs++[vc,.int .i64 t.n]) (r++[t])/\g.n<=g'.n/\(∀c,c<g.n->(∀o n k,v≠.sl c o n k)->g'.get c=g.get c):=by
  have g1:=G.ext ((Ext.refl g).new (.cells [vc,.int .i64 t.n] 101 false));obtain⟨v',h',k1,k2,k3,k4,k5⟩:=Vq (y:=.sl g.n 0 1 (.ex 1)) (m:=1) (new:=[vc,.int .i64 t.n]) (bytes:=32) g1 (by rw[H.ZP];omega) rfl (by
   show H.Ze _ _ _ _=_
   rw[ZU ZY (by simp)];rfl) (by simp) (by omega)
  have hcs:cs.length=r.length*2:=by
   rcases G with ⟨_,h2,rfl⟩|⟨b,_,_,h3,_⟩
   .simp[h2]
   .exact h3
  have L6:∀c,c<g.n->(∀o n k,v≠.sl c o n k)->h'.get c=g.get c:=λc hc hv=>by rw[k4 c (by rw[H.ZP];omega) hv,ZR hc]
  refine⟨v',h',k1,by rw[List.length_append];exact k2,(e.snoc hcs u).keep λb c hd hb=>L6 b (H.ZW hb) ?_,by rw[H.ZP]at k3;omega,L6⟩;intro o n k ev;rcases G with ⟨h1,_,_⟩|⟨b',h1,h2,_⟩
  .rw[h1]at ev;cases ev
  .rw[h1]at ev;cases ev;rw[h2]at hb;cases hb
theorem eB{rs:List V}(R:Zv q g v tT 2 rs r.length)(re:Ts D g rs r)(hD:∀b,q<=b->D b)(hq:q<=g.n):∃bb,Sn D g v bb r/\q<=bb/\bb<=g.n:=by
  rcases R with ⟨h1,h2,h3⟩|⟨b,h1,h2,h3,h4⟩
  .exact⟨q,.inl ⟨h1,List.length_eq_zero_iff.mp h2⟩,Nat.le_refl _,hq⟩
  .exact⟨b,.inr ⟨_,rs,h1,h2,h3,hD b h4,re,rfl⟩,h4,by have:=H.ZW h2;omega⟩
end ni
open Go.Zf (ZS)
def Tc(q:Nat)(g:H)(v:V)(r:List Tb):Prop:=∃cs,Zv q g v tT 2 cs r.length/\Ts (λb=>q<=b) g cs r
theorem Tc.nil(q:Nat)(g:H):Tc q g .ZO []:=⟨[],Zv.nil _ _ _ _,Ts.nil _ _⟩
variable{r:List Tb}
theorem Tc.ext{g':H}(a:Tc q g v r)(x:Ext g g'):Tc q g' v r:=by
  obtain⟨cs,h1,h2⟩:=a;exact⟨cs,h1.ext x,h2.ext x⟩
theorem Tc.len(a:Tc q g v r):Kc v=some (.int .i64 r.length):=by
  obtain⟨cs,h1,h2⟩:=a;exact h1.len
variable{vc:V}
theorem Tc.push(a:Tc q g v r)(u:VE (λb=>q<=b) g vc t.c)(hq:q<=g.n)(hl:r.length<1000):
   ∃v' g',Vk 101 2 32 (g.new (.cells [vc,.int .i64 t.n] 101 false)) v (.sl g.n 0 1 (.ex 1))=some (v',g')/\Tc q g' v' (r++[t])/\g.n<=g'.n/\∀c,c<q->g'.get c=g.get c:=by
  obtain⟨cs,h1,h2⟩:=a;obtain⟨v',g',k1,k2,k3,k4,k5⟩:=eC h1 h2 u hq hl;exact⟨v',g',k1,⟨_,k2,k3⟩,k4,λc hc=>k5 c (by omega) (h1.fresh.ne hc)⟩
structure I24(h0:H)(k q R:Nat)(p2 p3:Nat)(n:Nat)(e:E)(g:H):Prop where
  hn:n<=cx k
  x:∀c,c<q->g.get c=h0.get c
  gn:q<=g.n
  r:∃v,e.s [0,1,2,3,4,5,6] 4=v/\Tc q g v (List.replicate (cx k-n) (Uk k))
  e0:e.s [0,1,2,3,4,5,6] 0=.ptr p2 0
  e1:e.s [0,1,2,3,4,5,6] 1=.ptr p3 0
  e2:e.s [0,1,2,3,4,5,6] 2=.sl R 0 32 (.ex 32)
  e3:e.s [0,1,2,3,4,5,6] 3=.int .i64 k
  e5:e.s [0,1,2,3,4,5,6] 5=.int .i64 ((cx k-n:Nat):Int)
theorem Sm(h:k<32)(hj:j<3):Qx[k*3+j]?=[V.int .i64 (cx k),.int .i64 (vl k),.int .i64 (if NK k then 1 else 0)][j]?:=by
  have:=Dj h;rw[<-this,List.getElem?_take,if_pos hj,List.getElem?_drop]
variable{p2:Nat}
theorem sI{p3:Nat}(hk:k<32)(hR:h0.get R=some (.cells Qx 132 false))(hRq:R<q)(hi:I24 h0 k q R p2 p3 (cx k) e g):
   ∃e' g',ZI (Ka KW ZI) e g=some ⟨.ex 2,e',g'⟩/\I24 h0 k q R p2 p3 0 e' g':=by
  have hv:=Px hk;have eA:=L5 hk;have loop:=Zd (body:=Ka KW ZI) (I24 h0 k q R p2 p3) (λs=>s.x=.ex 2/\I24 h0 k q R p2 p3 0 s.e s.h)
   (λn e g hi=>by
    obtain⟨hn,x,gn,⟨v,e4,G⟩,e0,e1,e2,e3,e5⟩:=hi;have jV:g.get R=some (.cells Qx 132 false):=by rw[x R hRq,hR]
    have q0:=Sm hk (show 0<3 by omega);have q1:=Sm hk (show 1<3 by omega);have q2:=Sm hk (show 2<3 by omega);simp at q0 q1 q2;cases n with
    |zero =>
      simp[Ka,e2,e3,hk,show (k:Int)<32 by omega,ZZ jV,q0,e5];exact⟨rfl,hn,x,gn,⟨v,by simp[e4],G⟩,by simp[e0],by simp[e1],by simp[e2],by simp[e3],by simp[e5]⟩
    |succ n =>
      obtain⟨c,hc⟩:∃c,c=cx k-(n+1):=⟨_,rfl⟩
      have MS:cx k-n=c+1:=by omega
      rw[<-hc]at e5 G;have z1:IntKind.i64.wrap ((c:Int)+1)=c+1:=ZS (by omega) (by omega);obtain⟨w,g1,a1,vt,rfl,⟨vc,rfl,U⟩,x1⟩:=(BF hv.1 hv.2 g).elim;obtain⟨g2,XQ⟩:∃g2,g2=(g1.new (.cells [.ZO,.int .i64 0] 101 false)).put g1.n (.cells [vc,.int .i64 0] 101 false):=⟨_,rfl⟩
      have x2:Ext g1 g2:=by rw[XQ];exact ((Ext.refl g1).new _).put (Nat.le_refl _) _
      have n2:g2.n=g1.n+1:=by rw[XQ,H.ZJ,H.ZP]
      have b2:g2.get g1.n=some (.cells [vc,.int .i64 0] 101 false):=by rw[XQ,ZV (by rw[H.ZP];omega)]
      have ez:g2.get R=_:=(x2.get _ (by have:=H.ZW jV;have:=x1.n;omega)).trans ((x1.get _ (H.ZW jV)).trans jV);have n1:=x1.n;cases hs:NK k with
      |false =>
       rw[hs]at q2;simp at q2;have hT:Uk k=Va (vl k):=by rw[Uk,hs];rfl
       have U2:VE (λb=>q<=b) g2 vc (Uk k).c:=by rw[hT];exact (U.ext x2).mono λb _ hb=>Nat.le_trans gn hb
       obtain⟨v',g3,c1,c2,c3,c4⟩:=((G.ext x1).ext x2).push U2 (by omega) (by simp;omega);rw[show (Uk k).n=0 by rw[hT];rfl]at c1;simp[Ka,e2,e3,hk,show (k:Int)<32 by omega,ZZ jV,q0,e5,show c<cx k by omega,show (c:Int)<cx k by omega,q1,a1,nw,ZF (o:=0) ZY,splice,Va,<-XQ,ZZ ez,q2,ZU (o:=0) (n:=2) b2 (by simp),bs,YD,e4,c1,z1];exact⟨n,Nat.lt_succ_self n,by omega,λb hb=>by rw[c4 b hb,x2.get b (by omega),x1.get b (by omega),x b hb],by omega,⟨v',by simp,by rw[MS,List.replicate_succ'];exact c2⟩,by simp[e0],by simp[e1],by simp[e2],by simp[e3],by simp[MS]⟩
      |true =>
       rw[hs]at q2;simp at q2;have hT:Uk k=XP (vl k):=by rw[Uk,hs];rfl
       obtain⟨w,g4,a4,vt,rfl,⟨vc4,rfl,U4⟩,x4⟩:=(EW hv.1 hv.2 g2).elim;have b4:g4.get g1.n=_:=(x4.get _ (H.ZW b2)).trans b2;obtain⟨g5,UR⟩:∃g5,g5=g4.put g1.n (.cells [vc4,.int .i64 0] 101 false):=⟨_,rfl⟩
       have b5:g5.get g1.n=some (.cells [vc4,.int .i64 0] 101 false):=by rw[UR,ZV (H.ZW b4)]
       have n4:=x4.n;have n5:g5.n=g4.n:=by rw[UR,H.ZJ]
       have U5:VE (λb=>q<=b) g5 vc4 (Uk k).c:=by
        rw[hT];refine (U4.keep λb c hb ze=>?_).mono λb _ hb=>Nat.le_trans gn (by omega);rw[UR,ZX];omega
       have G5:Tc q g5 v (List.replicate c (Uk k)):=by
        obtain⟨cs,G1,G2⟩:=((G.ext x1).ext x2).ext x4;have hvu:=G.elim λcs hh=>hh.1.under;refine⟨cs,G1.keep λc o m k' ev=>?_,G2.keep λb c hb ze=>?_⟩
        .rw[UR,ZX];have:=hvu _ _ _ _ ev;omega
        .rw[UR,ZX];intro e;subst e;rw[b4]at ze;cases ze
       obtain⟨v',g3,c1,c2,c3,c4⟩:=G5.push U5 (by omega) (by simp;omega);rw[show (Uk k).n=0 by rw[hT];rfl]at c1;simp[Ka,e2,e3,hk,show (k:Int)<32 by omega,ZZ jV,q0,e5,show c<cx k by omega,show (c:Int)<cx k by omega,q1,a1,nw,ZF (o:=0) ZY,splice,Va,<-XQ,ZZ ez,q2,a4,XP,ZF (o:=0) b4,<-UR,ZU (o:=0) (n:=2) b5 (by simp),bs,YD,e4,c1,z1];exact⟨n,Nat.lt_succ_self n,by omega,λb hb=>by rw[c4 b hb,UR,ZX (by omega),x4.get b (by omega),x2.get b (by omega),x1.get b (by omega),x b hb],by omega,⟨v',by simp,by rw[MS,List.replicate_succ'];exact c2⟩,by simp[e0],by simp[e1],by simp[e2],by simp[e3],by simp[MS]⟩)
  obtain⟨⟨x,e',g'⟩,r1,r2,r3⟩:=loop (cx k) e g hi;simp only at r2 r3;subst r2;exact⟨e',g',r1,r3⟩
theorem Tc.cells(a:Tc q g v r):V.cells v=some [v]:=by
  obtain⟨cs,h1,h2⟩:=a;exact h1.cells
theorem Tc.eu(a:Tc q g v r)(hq:q<=g.n)(hD:∀b,q<=b->D b):∃bb,Sn D g v bb r/\q<=bb/\bb<=g.n:=by
  obtain⟨cs,h1,h2⟩:=a;exact eB h1 (h2.mono λb _ hb=>hD b hb) hD hq
structure O24(h0:H)(P Q R:Nat)(n:Nat)(e:E)(g:H):Prop where
  hn:n<=32
  x:∀c,c<h0.n->c≠Q->g.get c=h0.get c
  gn:h0.n<=g.n
  b:QY h0.n Q g (Iq (32-n))
  e0:e.s [0,1,2,3,4,5,6] 0=.ptr P 0
  e1:e.s [0,1,2,3,4,5,6] 1=.ptr Q 0
  e2:e.s [0,1,2,3,4,5,6] 2=.sl R 0 32 (.ex 32)
  e3:e.s [0,1,2,3,4,5,6] 3=.int .i64 ((32-n:Nat):Int)
theorem IF(h:H):RT (λw h'=>∃v,w=.agg [v]/\WD (λb=>h.n<=b) h' v QC/\Ext h h') (KW 19 [] h):=by
  obtain⟨h1,ZL⟩:∃g,g=h.new (.cells [.ZO] 30 false):=⟨_,rfl⟩
  obtain⟨h2,Zq⟩:∃g,g=h1.new (.cells [.ZO] 30 false):=⟨_,rfl⟩
  obtain⟨h3,Zc⟩:∃g,g=h2.new (.cells Qx 132 false):=⟨_,rfl⟩
  have x1:Ext h h1:=by rw[ZL];exact (Ext.refl h).new _
  have x2:Ext h1 h2:=by rw[Zq];exact (Ext.refl h1).new _
  have x3:Ext h2 h3:=by rw[Zc];exact (Ext.refl h2).new _
  have n1:h1.n=h.n+1:=by rw[ZL,H.ZP]
  have n2:h2.n=h1.n+1:=by rw[Zq,H.ZP]
  have n3:h3.n=h2.n+1:=by rw[Zc,H.ZP]
  have gP:h3.get h.n=some (.cells [.ZO] 30 false):=by rw[x3.get _ (by omega),x2.get _ (by omega),ZL,ZY]
  have gQ:h3.get h1.n=some (.cells [.ZO] 30 false):=by rw[x3.get _ (by omega),Zq,ZY]
  have gR:h3.get h2.n=some (.cells Qx 132 false):=by rw[Zc,ZY]
  have jU:=Ox h2;rw[<-Zc]at jU;have loop:=Zd (body:=DA KW ZI) (O24 h3 h.n h1.n h2.n) (λs=>s.x=.ex 0/\O24 h3 h.n h1.n h2.n 0 s.e s.h)
   (λn e g hi=>by
    obtain⟨hn,x,gn,b,e0,e1,e2,e3⟩:=hi;cases n with
    |zero =>
      simp[DA,e2,e3];exact⟨rfl,hn,x,gn,b,by simp[e0],by simp[e1],by simp[e2],by simp[e3]⟩
    |succ n =>
      obtain⟨k,hk⟩:∃k,k=32-(n+1):=⟨_,rfl⟩
      have SF:32-n=k+1:=by omega
      have VW:k<32:=by omega
      rw[<-hk]at e3 b;have z1:IntKind.i64.wrap ((k:Int)+1)=k+1:=ZS (by omega) (by omega);have jT:g.get h2.n=some (.cells Qx 132 false):=by rw[x _ (by omega) (by omega),gR]
      obtain⟨f,g1,j1,I⟩:=sI (h0:=g) (k:=k) (q:=g.n) (R:=h2.n) (p2:=h.n) (p3:=h1.n) VW jT (by omega) (e:=⟨[.ptr h.n 0,.ptr h1.n 0,.sl h2.n 0 32 (.ex 32),.int .i64 k,.ZO,.int .i64 0,e.s [0,1,2,3,4,5,6] 6],5,.int .i64 0⟩) (g:=g)
       ⟨Nat.le_refl _,λ_ _=>rfl,Nat.le_refl _,⟨.ZO,by simp,by rw[Nat.sub_self];exact Tc.nil _ _⟩,by simp,by simp,by simp,by simp,by simp⟩
      obtain⟨_,x',nh,⟨v,f4,G⟩,f0,f1,f2,f3,f5⟩:=I;rw[Nat.sub_zero]at G;obtain⟨ov,v',g2,g3,c1,c2,c3,c4,c5,c6,c7,c8⟩:=b.push (by omega) x' nh gn (G.eu nh λb hb=>Nat.le_trans gn hb) (by rw[GM];omega);simp[DA,e2,e3,show (k:Int)<32 by omega,VW,e0,e1,j1,f1,ZZ c1,f4,bs,YD,G.cells,splice,c2,c4,c3,f3,z1];exact⟨n,Nat.lt_succ_self n,by omega,λc hc JW=>by rw[c6 c hc JW,x c hc JW],by omega,by rw[SF,Ow];exact c5,by simp[f0],by simp[f1],by simp[f2],by simp[SF]⟩)
  obtain⟨⟨sx,se,sh⟩,q1,q2,I⟩:=loop 32 ⟨[.ptr h.n 0,.ptr h1.n 0,.sl h2.n 0 32 (.ex 32),.int .i64 0,.Zt [],.Zt [],.Zt []],3,.int .i64 0⟩ h3 ⟨Nat.le_refl _,λ_ _ _=>rfl,Nat.le_refl _,QY.nil gQ,by simp,by simp,by simp,by simp⟩;simp only at q2 I;subst q2;obtain⟨_,x,gn,b,e0,e1,e2,e3⟩:=I;obtain⟨v,sQ,W⟩:=b.EU;have sP:sh.get h.n=some (.cells [.ZO] 30 false):=by rw[x _ (by omega) (by omega),gP]
  obtain⟨h8,WM⟩:∃g,g=sh.put h.n (.cells [v] 30 false):=⟨_,rfl⟩
  have r8:h8.get h.n=some (.cells [v] 30 false):=by rw[WM,ZV (H.ZW sP)]
  rw[W0 r19,s19];simp[nw,<-ZL,<-Zq,jU,q1,e1,ZU (o:=0) (n:=1) sQ (by simp),e0,ZF (o:=0) sP,splice,<-WM,ZU (o:=0) (n:=1) r8 (by simp)];refine⟨v,rfl,?_,?_⟩
  .have W8:WD (λb=>h3.n<=b) h8 v (Iq (32-0)):=W.keep λb hb _=>by rw[WM,ZX];have hb:h3.n<=b:=hb;omega
   exact W8.mono λb _ hb=>by have hb:h3.n<=b:=hb;show h.n<=b;omega
  .refine⟨by rw[WM,H.ZJ];omega,λc hc=>?_⟩
   rw[WM,ZX (by omega),x c (by omega) (by omega),x3.get c (by omega),x2.get c (by omega),x1.get c hc]
open Go.Zf (ZS)
open Go.Zf (ZS)
open Go.Zf (ZS)
variable{P:Nat}{S:List (List Tb)}{en:E}
theorem na(hk:k<32)(hS:Xe D h0 v S)(hr:S[k]?=some r)(hP:h0.get P=some (.cells [v] 30 false))(hR:h0.get R=some (.cells Qx 132 false))(hl:r.length<1000)(hs:∀(i:Nat) (t:Tb),r[i]?=some t->t.c.length<1000)
   (e1:en.s [0,1,2,3,4,5] 1=.ptr P 0) (e3:en.s [0,1,2,3,4,5] 3=.sl R 0 32 (.ex 32)) (e4:en.s [0,1,2,3,4,5] 4=.int .i64 k) (e5:en.s [0,1,2,3,4,5] 5=.int .i64 0) :
   ∃s,ZI (Mg KW ZI) en h0=some s/\Ext h0 s.h/\((s.x=.ex 2/\s.e.s [0,1,2,3,4,5] 1=.ptr P 0/\s.e.s [0,1,2,3,4,5] 3=.sl R 0 32 (.ex 32)/\s.e.s [0,1,2,3,4,5] 4=.int .i64 k/\UD k r)\/(s.x=.rt/\s.e.s [0,1,2,3,4,5] 2=.int .i64 2/\¬UD k r)):=by
  have hv:=Px hk;have q1r:=Sm hk (show 1<3 by omega);simp at q1r;have loop:=Zd (body:=Mg KW ZI) (λn e g=>Ext h0 g/\n<=r.length/\e.s [0,1,2,3,4,5] 1=.ptr P 0/\e.s [0,1,2,3,4,5] 3=.sl R 0 32 (.ex 32)/\e.s [0,1,2,3,4,5] 4=.int .i64 k/\e.s [0,1,2,3,4,5] 5=.int .i64 ((r.length-n:Nat):Int)/\∀(i:Nat) (t:Tb),i<r.length-n->r[i]?=some t->t.c.length=vl k/\YP t)
   (λs=>Ext h0 s.h/\((s.x=.ex 2/\s.e.s [0,1,2,3,4,5] 1=.ptr P 0/\s.e.s [0,1,2,3,4,5] 3=.sl R 0 32 (.ex 32)/\s.e.s [0,1,2,3,4,5] 4=.int .i64 k/\UD k r)\/(s.x=.rt/\s.e.s [0,1,2,3,4,5] 2=.int .i64 2/\¬UD k r)))
   (λn e g ⟨xg,hn,p1,p3,p4,p5,ha⟩=>by
    have u:=hS.ext xg;obtain⟨bR,oR,vr,a1,a2,RR,_⟩:=u.row hr;have gP:g.get P=_:=(xg.get P (H.ZW hP)).trans hP;have gR:g.get R=_:=(xg.get R (H.ZW hR)).trans hR;have rl:=RR.len;cases n with
    |zero =>
      simp[Mg,p1,ZZ gP,p4,a1,a2,rl,p5];exact⟨xg,.inl ⟨rfl,by simp[p1],by simp[p3],by simp[p4],λi t ht=>ha i t (by have:=Zg ht;omega) ht⟩⟩
    |succ n =>
      obtain⟨c,hc⟩:∃c,c=r.length-(n+1):=⟨_,rfl⟩
      have MS:r.length-n=c+1:=by omega
      rw[<-hc]at p5 ha;have V3:c<r.length:=by omega
      obtain⟨t,ht⟩:=XL V3;have z1:IntKind.i64.wrap ((c:Int)+1)=c+1:=ZS (by omega) (by omega);obtain⟨b,o,vc,b1,b2,b3,b4,U,_⟩:=RR.tab ht;have ul:=U.1.len;have us:=U.1.same;have eh:¬(t.c.length=vl k/\YP t)->¬UD k r:=λh1 h2=>h1 (h2 c t ht);by_cases c1:t.c.length=vl k
      .obtain⟨w,g3,e62,rfl,x3⟩:=(Td U (hs c t ht)).elim
       rw[c1]at ul;by_cases c2:YP t
       .rw[if_pos c2]at e62
        simp[Mg,p1,ZZ gP,p4,a1,a2,rl,p5,V3,show (c:Int)<r.length by omega,b1,b2,ul,p3,hk,show (k:Int)<32 by omega,ZZ gR,q1r,b4,e62,u.Tl,RR.Tl,U.1.ck,ck,us,V.same,V.Xm,z1];have eg:=u.Tl (some ());have ef:=RR.Tl (some ());simp[ck]at eg ef;simp[eg,ef];refine⟨n,Nat.lt_succ_self n,xg.trans x3,by omega,by simp[p1],by simp[p3],by simp[p4],by simp[MS,z1],λi s hi SS=>?_⟩;by_cases e:i=c
        .subst e;rw[ht]at SS;cases SS;exact⟨c1,c2⟩
        .exact ha i s (by omega) SS
       .rw[if_neg c2]at e62
        simp[Mg,p1,ZZ gP,p4,a1,a2,rl,p5,V3,show (c:Int)<r.length by omega,b1,b2,ul,p3,hk,show (k:Int)<32 by omega,ZZ gR,q1r,b4,e62,ck,us,V.same,V.Xm];have eg:=u.Tl (some ());have ef:=RR.Tl (some ());simp[ck]at eg ef;simp[eg,ef];exact⟨xg.trans x3,.inr ⟨rfl,by simp,eh λh=>c2 h.2⟩⟩
      .simp[Mg,p1,ZZ gP,p4,a1,a2,rl,p5,V3,show (c:Int)<r.length by omega,b1,b2,ul,p3,hk,show (k:Int)<32 by omega,ZZ gR,q1r,show ¬(t.c.length:Int)=vl k by omega,c1,Vt,nN,u.Tl,RR.Tl,U.1.ck]
       exact⟨xg,.inr ⟨rfl,by simp,eh λh=>c1 h.1⟩⟩)
  exact loop r.length en h0 ⟨Ext.refl h0,Nat.le_refl _,e1,e3,e4,by rw[e5,Nat.sub_self];rfl,λi t hi=>by omega⟩
theorem ET(u:Xe D h v S)(sm:Small S):RT (λw h'=>w=.int .i64 (if Yw S then 0 else 2)/\Ext h h') (KW 64 [.agg [v]] h):=by
  obtain⟨h1,b1,x1,g1,n1,u1⟩:=Pw u;have ul:=u1.len;rw[W1 r64,s64];by_cases c0:S.length=32
  .have jU:=Ox h1
   obtain⟨h2,Zq⟩:∃g,g=h1.new (.cells Qx 132 false):=⟨_,rfl⟩
   have x2:Ext h1 h2:=by rw[Zq];exact (Ext.refl h1).new _
   have gR:h2.get h1.n=some (.cells Qx 132 false):=by rw[Zq,ZY]
   rw[<-Zq]at jU;have u2:=u1.ext x2;have g2:h2.get h.n=_:=(x2.get _ (H.ZW g1)).trans g1;have loop:=Zd (body:=J8 KW ZI) (λn e g=>Ext h2 g/\n<=32/\e.s [0,1,2,3,4,5] 1=.ptr h.n 0/\e.s [0,1,2,3,4,5] 3=.sl h1.n 0 32 (.ex 32)/\e.s [0,1,2,3,4,5] 4=.int .i64 ((32-n:Nat):Int)/\ES S (32-n))
    (λs=>Ext h2 s.h/\((s.x=.ex 0/\Yw S)\/(s.x=.rt/\s.e.s [0,1,2,3,4,5] 2=.int .i64 2/\¬Yw S)))
    (λn e g ⟨xg,hn,p1,p3,p4,ha⟩=>by
      cases n with
      |zero =>
       simp[J8,p4];exact⟨xg,.inl ⟨rfl,(JU c0).mpr ha⟩⟩
      |succ n =>
       obtain⟨k,hk⟩:∃k,k=32-(n+1):=⟨_,rfl⟩
       have SF:32-n=k+1:=by omega
       have VW:k<32:=by omega
       rw[<-hk]at p4 ha;obtain⟨r,hr⟩:=XL (l:=S) (i:=k) (by omega);have z1:IntKind.i64.wrap ((k:Int)+1)=k+1:=ZS (by omega) (by omega);have gb:g.get h.n=_:=(xg.get _ (H.ZW g2)).trans g2;have jT:g.get h1.n=_:=(xg.get _ (H.ZW gR)).trans gR;have u3:=u2.ext xg;obtain⟨b,o,vr,q1,q2,R,_⟩:=u3.row hr;have rl:=R.len;have ER:=sm.2 k r hr;have q0r:=Sm VW (show 0<3 by omega);simp at q0r;by_cases c1:r.length=cx k
       .obtain⟨⟨sx,se,sh⟩,j1,xs,j3⟩:=na (v:=v) (P:=h.n) (R:=h1.n) VW u3 hr gb jT ER.1 ER.2
         (en:=⟨[e.s [0,1,2,3,4,5] 0,.ptr h.n 0,e.s [0,1,2,3,4,5] 2,.sl h1.n 0 32 (.ex 32),.int .i64 k,.int .i64 0],5,.int .i64 0⟩) (by simp) (by simp) (by simp) (by simp)
        simp only at xs j3;rw[c1]at rl;rcases j3 with ⟨rfl,i1,i3,i4,ok⟩|⟨rfl,p2,ok⟩
        .simp[J8,p4,VW,show (k:Int)<32 by omega,p1,ZZ gb,q1,q2,rl,p3,ZZ jT,q0r,u3.Tl,R.Tl,j1,i4,z1]
         refine⟨n,Nat.lt_succ_self n,xg.trans xs,by omega,by simp[i1],by simp[i3],by simp[SF],λk' r' PQ Aj=>?_⟩;by_cases e:k'=k
         .subst e;rw[hr]at Aj;cases Aj;exact⟨c1,ok⟩
         .exact ha k' r' (by omega) Aj
        .simp[J8,p4,VW,show (k:Int)<32 by omega,p1,ZZ gb,q1,q2,rl,p3,ZZ jT,q0r,u3.Tl,R.Tl,j1]
         exact⟨xg.trans xs,.inr ⟨rfl,by simp[p2],λh=>ok (h.2 k r hr).2⟩⟩
       .simp[J8,p4,VW,show (k:Int)<32 by omega,p1,ZZ gb,q1,q2,rl,p3,ZZ jT,q0r,u3.Tl,R.Tl,c1,show ¬(r.length:Int)=cx k by omega]
        exact⟨xg,.inr ⟨rfl,by simp,λh=>c1 (h.2 k r hr).1⟩⟩)
   obtain⟨⟨sx,se,sh⟩,q1,q2,q3⟩:=loop 32 ⟨[.agg [v],.ptr h.n 0,.int .i64 0,.sl h1.n 0 32 (.ex 32),.int .i64 0,.Zt []],4,.int .i64 0⟩ h2 ⟨Ext.refl h2,Nat.le_refl _,by simp,by simp,by simp,λk r hk=>by omega⟩;simp only at q2 q3;rcases q3 with ⟨rfl,ok⟩|⟨rfl,p2,ok⟩
   .simp[b1,ZZ g1,ul,c0,jU,q1]
    exact⟨by rw[if_pos ok],(x1.trans x2).trans q2⟩
   .simp[b1,ZZ g1,ul,c0,jU,q1,p2]
    exact⟨by rw[if_neg ok],(x1.trans x2).trans q2⟩
  .simp[b1,ZZ g1,ul,c0,show ¬(S.length:Int)=32 by omega]
   exact⟨by rw[if_neg λa=>c0 a.1],x1⟩
open Go.Zf (ZS)
variable{cs:List V}
theorem yp{e z bytes:Nat}(a:Wo D h v e z n cs)(hb:n*bytes<=140737488355328):
   ∃v' h',Vk e z bytes h .ZO v=some (v',h')/\Zv h.n h' v' e z cs n/\Ext h h':=by
  obtain⟨v',h',k1,k2,k3,k4,k5⟩:=Vq (Zv.nil h.n h e z) (Nat.le_refl _) a.lenOf a.first a.length (by simpa using hb)
  exact⟨v',h',k1,by simpa using k2,k3,λc hc=>k4 c hc λo n k e=>by cases e⟩
variable{h':H}
theorem MQ(x:Ext h h'){o:Nat}(hb:b<h.n)(e:h.Zp b o=some v):h'.Zp b o=some v:=by
  unfold H.Zp at e ⊢;rw[x.get b hb];exact e
structure I11(h0:H)(k:Nat)(r:List Tb)(P p2 Q:Nat)(n:Nat)(e:E)(g:H):Prop where
  hn:n<=r.length
  x:∀c,c<h0.n->g.get c=h0.get c
  gn:h0.n<=g.n
  ro:∃v,e.s [0,1,2,3,4,5,6,7] 5=v/\Tc h0.n g v (r.take (r.length-n))
  e1:e.s [0,1,2,3,4,5,6,7] 1=.ptr P 0
  e2:e.s [0,1,2,3,4,5,6,7] 2=.ptr p2 0
  e3:e.s [0,1,2,3,4,5,6,7] 3=.ptr Q 0
  e4:e.s [0,1,2,3,4,5,6,7] 4=.int .i64 k
  e6:e.s [0,1,2,3,4,5,6,7] 6=.int .i64 ((r.length-n:Nat):Int)
theorem JT{α:Type}{l:List α}{i:Nat}{x:α}(h:l[i]?=some x):l.take (i+1)=l.take i++[x]:=by
  rw[List.take_add_one,h];rfl
theorem wqH(hS:Xe D h0 v S)(hr:S[k]?=some r)(hP:h0.get P=some (.cells [v] 30 false))(hl:r.length<1000)(hs:∀(i:Nat) (t:Tb),r[i]?=some t->t.c.length<1000)(hi:I11 h0 k r P p2 Q r.length e g):
   ∃e' g',ZI (GW KW ZI) e g=some ⟨.ex 2,e',g'⟩/\I11 h0 k r P p2 Q 0 e' g':=by
  have loop:=Zd (body:=GW KW ZI) (I11 h0 k r P p2 Q) (λs=>s.x=.ex 2/\I11 h0 k r P p2 Q 0 s.e s.h)
   (λn e g hi=>by
    obtain⟨hn,x,gn,⟨vo,e5,G⟩,e1,e2,e3,e4,e6⟩:=hi;have u:Xe D g v S:=hS.keep λb _ hb=>x b hb;obtain⟨bR,oR,vr,a1,a2,RR,_,hbR⟩:=u.row hr;have gP:g.get P=_:=(x P (H.ZW hP)).trans hP;have rl:=RR.len;cases n with
    |zero =>
      simp[GW,e1,ZZ gP,e4,a1,a2,rl,e6];exact⟨rfl,hn,x,gn,⟨vo,by simp[e5],G⟩,by simp[e1],by simp[e2],by simp[e3],by simp[e4],by simp[e6]⟩
    |succ n =>
      obtain⟨c,hc⟩:∃c,c=r.length-(n+1):=⟨_,rfl⟩
      have MS:r.length-n=c+1:=by omega
      rw[<-hc]at e6 G;have V3:c<r.length:=by omega
      obtain⟨t,ht⟩:=XL V3;have z1:IntKind.i64.wrap ((c:Int)+1)=c+1:=ZS (by omega) (by omega);obtain⟨b,o,vc,b1,b2,b3,b4,U,_,hb⟩:=RR.tab ht;have htl:=hs c t ht
      -- the Bqv box
      obtain⟨g1,SG⟩:∃g1,g1=(g.new (.cells [.ZO,.int .i64 0] 101 false)).put g.n (.cells [.ZO,.int .i64 t.n] 101 false):=⟨_,rfl⟩
      have x1:Ext g g1:=by rw[SG];exact ((Ext.refl g).new _).put (Nat.le_refl _) _
      have n1:g1.n=g.n+1:=by rw[SG,H.ZJ,H.ZP]
      have r1:g1.get g.n=some (.cells [.ZO,.int .i64 t.n] 101 false):=by rw[SG,ZV (by rw[H.ZP];omega)]
      have gP1:g1.get P=_:=(x1.get _ (H.ZW gP)).trans gP;have a21:=MQ x1 hbR a2;have b21:=MQ x1 hb b2;have U1:=U.ext x1;obtain⟨v',g2,k1,k2,k3⟩:=yp (e:=137) (z:=1) (bytes:=2) U1.1 (by omega);have n2:=k3.n;have r2:g2.get g.n=_:=(k3.get _ (H.ZW r1)).trans r1;obtain⟨g3,HA⟩:∃g3,g3=g2.put g.n (.cells [v',.int .i64 t.n] 101 false):=⟨_,rfl⟩
      have n3:g3.n=g2.n:=by rw[HA,H.ZJ]
      have r3:g3.get g.n=some (.cells [v',.int .i64 t.n] 101 false):=by rw[HA,ZV (H.ZW r2)]
      have G3:Zv g1.n g3 v' 137 1 (Y0 t.c) t.c.length:=by rw[HA];exact k2.put (k2.fresh.ne (by omega))
      have x3:Ext g g3:=by rw[HA];exact (x1.trans k3).put (Nat.le_refl _) _
      have U3:VE (λb=>h0.n<=b) g3 v' t.c:=⟨Zv.sJ G3 λb hb=>by show h0.n<=b;omega,U1.2⟩
      obtain⟨v5,g5,c1,c2,c3,c4⟩:=(G.ext x3).push U3 (by omega) (by rw[List.length_take];omega);simp[GW,e1,ZZ gP,e4,a1,a2,rl,e6,V3,show (c:Int)<r.length by omega,b1,b3,nw,bl,YD,ZF (o:=0) ZY,splice,<-SG,ZZ r1,ZZ gP1,a21,b21,k1,k2.Zx,Zw (o:=0) r2,<-HA,u.Tl,RR.Tl,U1.1.ck,ZU (o:=0) (n:=2) r3 (by simp),bs,k2.cells,e5,c1,z1];exact⟨n,Nat.lt_succ_self n,by omega,λd hd=>by rw[c4 d hd,x3.get d (by omega),x d hd],by omega,⟨v5,by simp,by rw[MS,JT ht];exact c2⟩,by simp[e1],by simp[e2],by simp[e3],by simp[e4],by simp[MS]⟩)
  obtain⟨⟨x,e',g'⟩,r1,r2,r3⟩:=loop r.length e g hi;simp only at r2 r3;subst r2;exact⟨e',g',r1,r3⟩
structure O11(h0:H)(S:List (List Tb))(P P2 Q:Nat)(n:Nat)(e:E)(g:H):Prop where
  hn:n<=S.length
  x:∀c,c<h0.n->c≠Q->g.get c=h0.get c
  gn:h0.n<=g.n
  b:QY h0.n Q g (S.take (S.length-n))
  e1:e.s [0,1,2,3,4,5,6,7] 1=.ptr P 0
  e2:e.s [0,1,2,3,4,5,6,7] 2=.ptr P2 0
  e3:e.s [0,1,2,3,4,5,6,7] 3=.ptr Q 0
  e4:e.s [0,1,2,3,4,5,6,7] 4=.int .i64 ((S.length-n:Nat):Int)
theorem BE(u:Xe D h v S)(sm:Small S):RT (λw h'=>∃v',w=.agg [v']/\WD (λb=>h.n<=b) h' v' S/\Ext h h') (KW 66 [.agg [v]] h):=by
  obtain⟨h1,b1,x1,g1,n1,u1⟩:=Pw u;obtain⟨h2,Zq⟩:∃g,g=h1.new (.cells [.ZO] 30 false):=⟨_,rfl⟩
  obtain⟨h3,Zc⟩:∃g,g=h2.new (.cells [.ZO] 30 false):=⟨_,rfl⟩
  have x2:Ext h1 h2:=by rw[Zq];exact (Ext.refl h1).new _
  have x3:Ext h2 h3:=by rw[Zc];exact (Ext.refl h2).new _
  have n2:h2.n=h1.n+1:=by rw[Zq,H.ZP]
  have n3:h3.n=h2.n+1:=by rw[Zc,H.ZP]
  have gP:h3.get h.n=some (.cells [v] 30 false):=by rw[x3.get _ (by omega),x2.get _ (by omega),g1]
  have gP2:h3.get h1.n=some (.cells [.ZO] 30 false):=by rw[x3.get _ (by omega),Zq,ZY]
  have gQ:h3.get h2.n=some (.cells [.ZO] 30 false):=by rw[Zc,ZY]
  have u3:Xe (λb=>b<h.n) h3 v S:=((u.mono (E:=λb=>b<h.n) λb hb _=>hb).ext x1).ext x2 |>.ext x3;have ul:=u3.len;have loop:=Zd (body:=Dp KW ZI) (O11 h3 S h.n h1.n h2.n) (λs=>s.x=.ex 0/\O11 h3 S h.n h1.n h2.n 0 s.e s.h)
   (λn e g hi=>by
    obtain⟨hn,x,gn,b,e1,e2,e3,e4⟩:=hi;have gPg:g.get h.n=some (.cells [v] 30 false):=by rw[x _ (by omega) (by omega),gP]
    cases n with
    |zero =>
      simp[Dp,e1,ZZ gPg,ul,e4];exact⟨rfl,hn,x,gn,b,by simp[e1],by simp[e2],by simp[e3],by simp[e4]⟩
    |succ n =>
      obtain⟨k,hk⟩:∃k,k=S.length-(n+1):=⟨_,rfl⟩
      have SF:S.length-n=k+1:=by omega
      have VW:k<S.length:=by omega
      rw[<-hk]at e4 b;have hS:=sm.1;obtain⟨r,hr⟩:=XL VW;have ER:=sm.2 k r hr;have z1:IntKind.i64.wrap ((k:Int)+1)=k+1:=ZS (by omega) (by omega);have ug:Xe (λb=>b<h.n) g v S:=u3.keep λb hb Yv=>x b Yv (by have hb:b<h.n:=hb;omega);obtain⟨f,g1,j1,I⟩:=wqH (h0:=g) (k:=k) (P:=h.n) (p2:=h1.n) (Q:=h2.n) ug hr gPg ER.1 ER.2 (e:=⟨[e.s [0,1,2,3,4,5,6,7] 0,.ptr h.n 0,.ptr h1.n 0,.ptr h2.n 0,.int .i64 k,.ZO,.int .i64 0,e.s [0,1,2,3,4,5,6,7] 7],6,.int .i64 0⟩) (g:=g)
       ⟨Nat.le_refl _,λ_ _=>rfl,Nat.le_refl _,⟨.ZO,by simp,by rw[Nat.sub_self];exact Tc.nil _ _⟩,by simp,by simp,by simp,by simp,by simp⟩
      obtain⟨_,x',nh,⟨vr,f5,G⟩,f1,f2,f3,f4,f6⟩:=I;rw[Nat.sub_zero,List.take_length]at G;obtain⟨ov,v',g2,g3,c1,c2,c3,c4,c5,c6,c7,c8⟩:=b.push (by omega) x' nh gn (G.eu nh λb hb=>Nat.le_trans gn hb) (by rw[List.length_take];omega);simp[Dp,e1,ZZ gPg,ul,e4,show (k:Int)<S.length by omega,VW,e2,e3,j1,f3,ZZ c1,f5,bs,YD,G.cells,splice,c2,c4,c3,f4,z1];exact⟨n,Nat.lt_succ_self n,by omega,λc hc JW=>by rw[c6 c hc JW,x c hc JW],by omega,by rw[SF,JT hr];exact c5,by simp[f1],by simp[f2],by simp[f3],by simp[SF]⟩)
  obtain⟨⟨sx,se,sh⟩,q1,q2,I⟩:=loop S.length ⟨[.agg [v],.ptr h.n 0,.ptr h1.n 0,.ptr h2.n 0,.int .i64 0,.Zt [],.Zt [],.Zt []],4,.int .i64 0⟩ h3 ⟨Nat.le_refl _,λ_ _ _=>rfl,Nat.le_refl _,by rw[Nat.sub_self];exact QY.nil gQ,by simp,by simp,by simp,by simp⟩;simp only at q2 I;subst q2;obtain⟨_,x,gn,b,e1,e2,e3,e4⟩:=I;obtain⟨v',sQ,W⟩:=b.EU;have sP:sh.get h1.n=some (.cells [.ZO] 30 false):=by rw[x _ (by omega) (by omega),gP2]
  obtain⟨h8,WM⟩:∃g,g=sh.put h1.n (.cells [v'] 30 false):=⟨_,rfl⟩
  have r8:h8.get h1.n=some (.cells [v'] 30 false):=by rw[WM,ZV (H.ZW sP)]
  rw[W1 r66,s66];simp[b1,nw,<-Zq,<-Zc,q1,e3,ZU (o:=0) (n:=1) sQ (by simp),e2,ZF (o:=0) sP,splice,<-WM,ZU (o:=0) (n:=1) r8 (by simp)];rw[Nat.sub_zero,List.take_length]at W;refine⟨v',rfl,?_,?_⟩
  .have W8:WD (λb=>h3.n<=b) h8 v' S:=W.keep λb hb _=>by rw[WM,ZX];have hb:h3.n<=b:=hb;omega
   exact W8.mono λb _ hb=>by have hb:h3.n<=b:=hb;show h.n<=b;omega
  .refine⟨by rw[WM,H.ZJ];omega,λc hc=>?_⟩
   rw[WM,ZX (by omega),x c (by omega) (by omega),x3.get c (by omega),x2.get c (by omega),x1.get c hc]
open Go.Zf (ZS)
open Go.Zf (ZS)
open Go.Zf (ZS)
variable{D2:Nat->Prop}{w:V}
theorem yo(hu:VE D g v t.c)(hw:VE D2 g w t.c)(hl:t.c.length<1000)(ha:g.get a=some (.cells [v,.int .i64 t.n] 101 false))(hb:g.get b=some (.cells [w,.int .i64 t.n] 101 false))
   (e7:en.s [0,1,2,3,4,5,6,7,8,9] 7=.ptr a 0) (e8:en.s [0,1,2,3,4,5,6,7,8,9] 8=.ptr b 0) (e9:en.s [0,1,2,3,4,5,6,7,8,9] 9=.int .i64 0) :
   ∃e',ZI (G4 KW ZI) en g=some ⟨.ex 4,e',g⟩/\QO [0,1,2,3,4,5,6,7,8,9] [2,3,5,6] e' en:=by
  have loop:=Zd (body:=G4 KW ZI) (λn e h=>h=g/\n<=t.c.length/\QO [0,1,2,3,4,5,6,7,8,9] [2,3,5,6] e en/\e.s [0,1,2,3,4,5,6,7,8,9] 7=.ptr a 0/\e.s [0,1,2,3,4,5,6,7,8,9] 8=.ptr b 0/\e.s [0,1,2,3,4,5,6,7,8,9] 9=.int .i64 ((t.c.length-n:Nat):Int))
   (λs=>s.h=g/\s.x=.ex 4/\QO [0,1,2,3,4,5,6,7,8,9] [2,3,5,6] s.e en)
   (λn e h ⟨hg,hn,ke,p7,p8,p9⟩=>by
    subst hg;have i2:=ke 2 (by simp);have i3:=ke 3 (by simp);have i5:=ke 5 (by simp);have i6:=ke 6 (by simp);have ul:=hu.1.len;cases n with
    |zero =>
      simp[G4,p7,ZZ ha,ul,p9];exact⟨rfl,rfl,λi hm=>by
       simp only[List.mem_cons,List.not_mem_nil,or_false]at hm;rcases hm with rfl|rfl|rfl|rfl<;>simp[i2,i3,i5,i6]⟩
    |succ n =>
      obtain⟨c,hc⟩:∃c,c=t.c.length-(n+1):=⟨_,rfl⟩
      have MS:t.c.length-n=c+1:=by omega
      rw[<-hc]at p9;have V3:c<t.c.length:=by omega
      obtain⟨b1,o1,q1,q2,_⟩:=hu.at V3;obtain⟨b2,o2,r1,r2,_⟩:=hw.at V3;have z1:IntKind.i64.wrap ((c:Int)+1)=c+1:=ZS (by omega) (by omega);simp[G4,p7,ZZ ha,ul,p9,V3,show (c:Int)<t.c.length by omega,q1,q2,p8,ZZ hb,r1,r2,hu.1.ck,hw.1.ck,z1];exact⟨n,Nat.lt_succ_self n,rfl,by omega,λi hm=>by
       simp only[List.mem_cons,List.not_mem_nil,or_false]at hm;rcases hm with rfl|rfl|rfl|rfl<;>simp[i2,i3,i5,i6],by simp[p7],by simp[p8],by simp[MS]⟩)
  obtain⟨⟨x,e',g'⟩,r1,r2,r3,r4⟩:=loop t.c.length en g ⟨rfl,Nat.le_refl _,λ_ _=>rfl,e7,e8,by rw[e9,Nat.sub_self];rfl⟩;simp only at r2 r3 r4;subst r2 r3;exact⟨e',r1,r4⟩
variable{B:Nat}
theorem yn{A:Nat}(hS:Xe D h0 v S)(hS2:Xe D2 h0 w S)(hr:S[k]?=some r)(hA:h0.get A=some (.cells [v] 30 false))(hB:h0.get B=some (.cells [w] 30 false))(hl:r.length<1000)(hs:∀(i:Nat) (t:Tb),r[i]?=some t->t.c.length<1000)
   (e2:en.s [0,1,2,3,4,5,6,7,8,9] 2=.ptr A 0) (e3:en.s [0,1,2,3,4,5,6,7,8,9] 3=.ptr B 0) (e5:en.s [0,1,2,3,4,5,6,7,8,9] 5=.int .i64 k) (e6:en.s [0,1,2,3,4,5,6,7,8,9] 6=.int .i64 0) :
   ∃e' g',ZI (G0 KW ZI) en h0=some ⟨.ex 2,e',g'⟩/\Ext h0 g'/\e'.s [0,1,2,3,4,5,6,7,8,9] 2=.ptr A 0/\e'.s [0,1,2,3,4,5,6,7,8,9] 3=.ptr B 0/\e'.s [0,1,2,3,4,5,6,7,8,9] 5=.int .i64 k:=by
  have loop:=Zd (body:=G0 KW ZI) (λn e g=>Ext h0 g/\n<=r.length/\e.s [0,1,2,3,4,5,6,7,8,9] 2=.ptr A 0/\e.s [0,1,2,3,4,5,6,7,8,9] 3=.ptr B 0/\e.s [0,1,2,3,4,5,6,7,8,9] 5=.int .i64 k/\e.s [0,1,2,3,4,5,6,7,8,9] 6=.int .i64 ((r.length-n:Nat):Int))
   (λs=>s.x=.ex 2/\Ext h0 s.h/\s.e.s [0,1,2,3,4,5,6,7,8,9] 2=.ptr A 0/\s.e.s [0,1,2,3,4,5,6,7,8,9] 3=.ptr B 0/\s.e.s [0,1,2,3,4,5,6,7,8,9] 5=.int .i64 k)
   (λn e g ⟨xg,hn,p2,p3,p5,p6⟩=>by
    have u:=hS.ext xg;have u2:=hS2.ext xg;obtain⟨bR,oR,vr,a1,a2,RR,_,hbR⟩:=u.row hr;obtain⟨bR',oR',vr',BA,KB,dZ,_,kq3⟩:=u2.row hr;have gA:g.get A=_:=(xg.get A (H.ZW hA)).trans hA;have gB:g.get B=_:=(xg.get B (H.ZW hB)).trans hB;have rl:=RR.len;cases n with
    |zero =>
      simp[G0,p2,ZZ gA,p5,a1,a2,rl,p6];exact⟨rfl,xg,by simp[p2],by simp[p3],by simp[p5]⟩
    |succ n =>
      obtain⟨c,hc⟩:∃c,c=r.length-(n+1):=⟨_,rfl⟩
      have MS:r.length-n=c+1:=by omega
      rw[<-hc]at p6;have V3:c<r.length:=by omega
      obtain⟨t,ht⟩:=XL V3;have z1:IntKind.i64.wrap ((c:Int)+1)=c+1:=ZS (by omega) (by omega);obtain⟨b,o,vc,b1,b2,b3,b4,U,_,hb⟩:=RR.tab ht;obtain⟨b',o',SK,dY,jS,b3',b4',U',_,RG⟩:=dZ.tab ht;obtain⟨g1,SG⟩:∃g1,g1=((g.new (.cells [.ZO,.int .i64 0] 101 false)).new (.cells [.ZO,.int .i64 0] 101 false)).put g.n (.cells [vc,.int .i64 t.n] 101 false):=⟨_,rfl⟩
      have x1:Ext g g1:=by rw[SG];exact (((Ext.refl g).new _).new _).put (Nat.le_refl _) _
      have n1:g1.n=g.n+2:=by rw[SG,H.ZJ];simp only[H.ZP]
      have w1:((g.new (.cells [.ZO,.int .i64 0] 101 false)).new (.cells [.ZO,.int .i64 0] 101 false)).X4 g.n 0 [vc,.int .i64 t.n]=some g1:=by
       rw[ZF (o:=0) (c:=[.ZO,.int .i64 0]) (e:=101) (by rw[ZR (by rw[H.ZP];omega),ZY]) (by simp),SG];rfl
      have r1:g1.get g.n=some (.cells [vc,.int .i64 t.n] 101 false):=by rw[SG,ZV (by simp only[H.ZP];omega)]
      have jR:g1.get (g.n+1)=some (.cells [.ZO,.int .i64 0] 101 false):=by rw[SG,ZX (by omega),QA (by rw[H.ZP])]
      obtain⟨g2,XQ⟩:∃g2,g2=g1.put (g.n+1) (.cells [SK,.int .i64 t.n] 101 false):=⟨_,rfl⟩
      have x2:Ext g g2:=by rw[XQ];exact x1.put (by omega) _
      have r2:g2.get g.n=some (.cells [vc,.int .i64 t.n] 101 false):=by rw[XQ,ZX (by omega),r1]
      have HL:g2.get (g.n+1)=some (.cells [SK,.int .i64 t.n] 101 false):=by rw[XQ,ZV (H.ZW jR)]
      have gB1:g1.get B=_:=(x1.get _ (H.ZW gB)).trans gB;have kq2:=MQ x1 kq3 KB;have kq1:g1.Ze b' o' 2=some [SK,.int .i64 t.n]:=Di x1 b4';obtain⟨f,j1,ke⟩:=yo (U.ext x2) (U'.ext x2) (hs c t ht) r2 HL (en:=⟨[e.s [0,1,2,3,4,5,6,7,8,9] 0,e.s [0,1,2,3,4,5,6,7,8,9] 1,.ptr A 0,.ptr B 0,e.s [0,1,2,3,4,5,6,7,8,9] 4,.int .i64 k,.int .i64 c,.ptr g.n 0,.ptr (g.n+1) 0,.int .i64 0],9,.int .i64 0⟩) (by simp) (by simp) (by simp);have i2:=ke 2 (by simp);have i3:=ke 3 (by simp);have i5:=ke 5 (by simp);have i6:=ke 6 (by simp);simp at i2 i3 i5 i6;have ul:=U.1.len;have ul':=U'.1.len;have us:=U.1.same;have ur:=U'.1.same;have vs:=u.Tl (some ());have vs':=u2.Tl (some ());have rs:=RR.Tl (some ());have rs':=dZ.Tl (some ());simp[ck]at vs vs' rs rs';simp[G0,p2,ZZ gA,p5,a1,a2,rl,p6,V3,show (c:Int)<r.length by omega,b1,b4,nw,H.ZP,w1,p3,ZZ gB1,ZZ gB,BA,kq2,KB,dY,kq1,b4',ZF (o:=0) jR,splice,<-XQ,ck,V.same,V.Xm,us,ur,vs,vs',rs,rs',ZZ r2,ZZ HL,ul,ul',j1,i6,z1];exact⟨n,Nat.lt_succ_self n,xg.trans x2,by omega,by simp[i2],by simp[i3],by simp[i5],by simp[MS]⟩)
  obtain⟨⟨x,e',g'⟩,r1,r2,r3,r4⟩:=loop r.length en h0 ⟨Ext.refl h0,Nat.le_refl _,e2,e3,e5,by rw[e6,Nat.sub_self];rfl⟩;simp only at r2 r3 r4;subst r2;exact⟨e',g',r1,r3,r4⟩
theorem BP(u:Xe D h v S)(u2:Xe D2 h w S)(sm:Small S):RT (λx h'=>x=.bool true/\Ext h h') (KW 23 [.agg [v],.agg [w]] h):=by
  have hS:=sm.1;obtain⟨h1,b1,x1,g1,n1,ua⟩:=Pw u;obtain⟨h2,b2,x2,g2,n2,ub⟩:=Pw (u2.ext x1);have ga:h2.get h.n=_:=(x2.get _ (H.ZW g1)).trans g1;have uc:=ua.ext x2;have ul:=uc.len;have ul2:=ub.len;have loop:=Zd (body:=Dz KW ZI) (λn e g=>Ext h2 g/\n<=S.length/\e.s [0,1,2,3,4,5,6,7,8,9] 2=.ptr h.n 0/\e.s [0,1,2,3,4,5,6,7,8,9] 3=.ptr h1.n 0/\e.s [0,1,2,3,4,5,6,7,8,9] 5=.int .i64 ((S.length-n:Nat):Int))
   (λs=>s.x=.ex 0/\Ext h2 s.h)
   (λn e g ⟨xg,hn,p2,p3,p5⟩=>by
    have gA:g.get h.n=_:=(xg.get _ (H.ZW ga)).trans ga;have gB:g.get h1.n=_:=(xg.get _ (H.ZW g2)).trans g2;have v1:=uc.ext xg;have v2:=ub.ext xg;cases n with
    |zero =>
      simp[Dz,p2,ZZ gA,ul,p5];exact⟨rfl,xg⟩
    |succ n =>
      obtain⟨k,hk⟩:∃k,k=S.length-(n+1):=⟨_,rfl⟩
      have SF:S.length-n=k+1:=by omega
      have VW:k<S.length:=by omega
      rw[<-hk]at p5;obtain⟨r,hr⟩:=XL VW;have ER:=sm.2 k r hr;have z1:IntKind.i64.wrap ((k:Int)+1)=k+1:=ZS (by omega) (by omega);obtain⟨bR,oR,vr,a1,a2,RR,_⟩:=v1.row hr;obtain⟨bR',oR',vr',BA,KB,dZ,_⟩:=v2.row hr;have rl:=RR.len;have rl':=dZ.len;obtain⟨f,g3,j1,y1,f2,f3,f5⟩:=yn v1 v2 hr gA gB ER.1 ER.2 (en:=⟨[e.s [0,1,2,3,4,5,6,7,8,9] 0,e.s [0,1,2,3,4,5,6,7,8,9] 1,.ptr h.n 0,.ptr h1.n 0,e.s [0,1,2,3,4,5,6,7,8,9] 4,.int .i64 k,.int .i64 0,e.s [0,1,2,3,4,5,6,7,8,9] 7,e.s [0,1,2,3,4,5,6,7,8,9] 8,e.s [0,1,2,3,4,5,6,7,8,9] 9],6,.int .i64 0⟩) (by simp) (by simp) (by simp) (by simp);simp[Dz,p2,ZZ gA,ul,p5,VW,show (k:Int)<S.length by omega,a1,a2,rl,p3,ZZ gB,BA,KB,rl',v1.Tl,v2.Tl,RR.Tl,dZ.Tl,j1,f5,z1];exact⟨n,Nat.lt_succ_self n,xg.trans y1,by omega,by simp[f2],by simp[f3],by simp[SF]⟩)
  obtain⟨⟨sx,se,sh⟩,q1,q2,q3⟩:=loop S.length ⟨[.agg [v],.agg [w],.ptr h.n 0,.ptr h1.n 0,.bool false,.int .i64 0,.Zt [],.Zt [],.Zt [],.Zt []],5,.int .i64 0⟩ h2 ⟨Ext.refl h2,Nat.le_refl _,by simp,by simp,by simp⟩;simp only at q2 q3;subst q2;rw[W2 r23,s23];simp[b1,b2,ZZ ga,ZZ g2,ul,ul2,q1];exact⟨rfl,(x1.trans x2).trans q3⟩
open Go.Zf (ZS)
def L4(D:Nat->Prop)(h:H)(m p:Nat)(rest:List Nat)(code ZH:Nat):Prop:=∃at_,SR h (λc=>c=p\/¬D c) p at_ rest code ZH/\at_<=4+3*m/\D p
section own
variable{D E:Nat->Prop}{h h':H}
variable{m:Nat}
theorem L4.keep(a:L4 D h m p rest code ZH)(hk:∀b,D b->b<h.n->h'.get b=h.get b):L4 D h' m p rest code ZH:=by
  obtain⟨at_,⟨⟨v,B,hc,hs,hr,hB⟩,ho,hf⟩,hm,hp⟩:=a;exact⟨at_,⟨⟨v,B,by rw[hk p hp (H.ZW hc),hc],hs.keep λb hb hx=>hk b (Classical.not_not.mp λhn=>hx (.inr hn)) hb,hr,hB⟩,ho,hf⟩,hm,hp⟩
theorem L4.mono(a:L4 D h m p rest code ZH)(hd:∀b,b<h.n->D b->E b):L4 E h m p rest code ZH:=by
  obtain⟨at_,⟨⟨v,B,hc,hs,hr,hB⟩,ho,hf⟩,hm,hp⟩:=a;refine⟨at_,⟨⟨v,B,hc,hs.mono λb hb hx=>?_,hr,hB⟩,.inl rfl,hf⟩,hm,hd p (H.ZW hc) hp⟩;rintro (h1|h1)
  .exact hx (.inl h1)
  .exact h1 (hd b hb (Classical.not_not.mp λhn=>hx (.inr hn)))
theorem GL(a:Pv D h p 184 out low (.int .u64 ZH))(ok:Yp m (.w out low ZH))(h2:lo<hi)(h3:hi<=32768):
   ∃h',KW 151 [.ptr p 0,.int .u32 lo,.int .u32 hi] h=some (.ret (.int .i64 0),h')/\Pv (grow D h h') h' p 184 (put out low ZH lo hi).1 (put out low ZH lo hi).2.1 (.int .u64 (put out low ZH lo hi).2.2)/\Mod D h h':=by
  obtain⟨v,e,hp,hv⟩:=a;have o1:=ok.1;have o2:=ok.2.1;have o3:=ok.2.2;obtain⟨h',v',k1,k2,k3⟩:=yE e o1 (by omega) h2 h3;exact⟨h',k1,k3.dX k2 hp hv,k3.mod hp hv⟩
theorem JS(a:L4 D h m p rest code ZH)(ok:Yp m (.r rest code ZH))(h1:lo<=value code ZH)(h2:value code ZH<hi)(h3:hi<=32768):
   ∃h',KW 154 [.ptr p 0,.int .u32 lo,.int .u32 hi] h=some (.ret (.int .i64 0),h')/\L4 D h' (m+1) p (take rest code ZH lo hi).1 (take rest code ZH lo hi).2.1 (take rest code ZH lo hi).2.2/\Mod D h h':=by
  obtain⟨at_,e,hm,hp⟩:=a;have o3:=ok.2.2;obtain⟨h',Ma,k1,k0,k2,k3⟩:=BJ e (by omega) ok.1 h1 h2 h3;exact⟨h',k1,⟨Ma,k2,by omega,hp⟩,k3.mod hp⟩
end own
def XU(D:Nat->Prop)(h:H)(m:Nat)(vo vi:V):YX->Prop
  |.w out low ZH=>∃e,vo=.ptr e 0/\vi=.Zh/\Pv D h e 184 out low (.int .u64 ZH)
  |.r rest code ZH=>∃e,vo=.Zh/\vi=.ptr e 0/\L4 D h m e rest code ZH
variable{m:Nat}{vo vi:V}{sd:YX}
theorem XU.keep(a:XU D h m vo vi sd)(hk:∀b,D b->b<h.n->h'.get b=h.get b):XU D h' m vo vi sd:=by
  cases sd with
  |w out low ZH=>obtain⟨e,h1,h2,h3⟩:=a;exact⟨e,h1,h2,h3.keep hk⟩
  |r rest code ZH=>obtain⟨e,h1,h2,h3⟩:=a;exact⟨e,h1,h2,h3.keep hk⟩
theorem XU.mono{E:Nat->Prop}(a:XU D h m vo vi sd)(hd:∀b,b<h.n->D b->E b):XU E h m vo vi sd:=by
  cases sd with
  |w out low ZH=>obtain⟨e,h1,h2,h3⟩:=a;exact⟨e,h1,h2,h3.mono hd⟩
  |r rest code ZH=>obtain⟨e,h1,h2,h3⟩:=a;exact⟨e,h1,h2,h3.mono hd⟩
open Go.Zf (ZS)
open Go.Zf (ZS)
open Go.Zf (ZS)
open Go.Zf (ZS)
open Go.Zf (ZS)
open Go.Zf (ZS)
variable{st:St}
theorem yU(a:Zy D h p m st):RT (λw h'=>∃v,w=.Zt [.agg [v],.int .i64 0]/\WD (λb=>h.n<=b) h' v st.S/\Ext h h') (KW 22 [.ptr p 0] h):=by
  obtain⟨vo,vi,vs,Ds,Dw,h1,h2,h3,h4,h5,h6,h7,h8,h9⟩:=a;obtain⟨g,hg⟩:∃g,g=h.new (.cells [.ZO] 30 false):=⟨_,rfl⟩
  have x:Ext h g:=by rw[hg];exact (Ext.refl h).new _
  have gn:g.n=h.n+1:=by rw[hg,H.ZP]
  have r0:g.get h.n=some (.cells [.ZO] 30 false):=by rw[hg,ZY]
  have hp:g.get p=_:=(x.get _ (H.ZW h1)).trans h1;have Bz:=TJ hp (h3.ext x);obtain⟨w,g2,OU,v',rfl,W,x2⟩:=(Ou (h5.ext x).OB h6.small).elim;have r2:g2.get h.n=_:=(x2.get _ (H.ZW r0)).trans r0;obtain⟨g3,HA⟩:∃y,y=g2.put h.n (.cells [v'] 30 false):=⟨_,rfl⟩
  have r3:g3.get h.n=some (.cells [v'] 30 false):=by rw[HA,ZV (H.ZW r2)]
  rw[W1 r22,s22];simp[nw,<-hg,Bz,ZU (o:=2) (n:=1) hp (by simp),OU,ZF (o:=0) r2,splice,<-HA,ZU (o:=0) (n:=1) r3 (by simp)];refine⟨v',rfl,?_,(x.trans x2).put (Nat.le_refl _) _ |> λy=>by rw[HA];exact y⟩;have W2:=(W.EU h6.full).keep (h':=g3) λb hb _=>by rw[HA,ZX];have hb:g.n<=b:=hb;omega
  exact W2.mono λb _ hb=>by have hb:g.n<=b:=hb;show h.n<=b;omega
open Go.Zf (ZS)
open Go.Zf (ZS)
open Go.Zf (ZS)
def Zu(D:Nat->Prop)(h:H)(p m:Nat)(st:St):Prop :=
  ∃vo vi vs Ds Dw,h.get p=some (.cells [vo,vi,vs,.bool st.ad,.int .i64 st.n] 72 false)/\D p/\XU Ds h m vo vi st.sd/\Yp m st.sd/\WD Dw h vs st.S/\Yw st.S/\(0<=st.n/\st.n<=100*m) /\
   (∀b,Ds b->D b/\b≠p/\b<h.n)/\(∀b,Dw b->D b/\b≠p/\b<h.n/\¬Ds b)
theorem Zu.keep(a:Zu D h p m st)(hn:h.n<=h'.n)(hk:∀b,D b->b<h.n->h'.get b=h.get b):Zu D h' p m st:=by
  obtain⟨vo,vi,vs,Ds,Dw,h1,h2,h3,h4,h5,h6,h7,h8,h9⟩:=a;exact⟨vo,vi,vs,Ds,Dw,by rw[hk p h2 (H.ZW h1),h1],h2,h3.keep λb hb Yv=>hk b (h8 b hb).1 Yv,h4,h5.keep λb hb Yv=>hk b (h9 b hb).1 Yv,h6,h7,
   λb hb=>by have:=h8 b hb;exact⟨this.1,this.2.1,by omega⟩,λb hb=>by have:=h9 b hb;exact⟨this.1,this.2.1,by omega,this.2.2.2⟩⟩
theorem Zu.mono{E:Nat->Prop}(a:Zu D h p m st)(hd:∀b,b<h.n->D b->E b):Zu E h p m st:=by
  obtain⟨vo,vi,vs,Ds,Dw,h1,h2,h3,h4,h5,h6,h7,h8,h9⟩:=a;exact⟨vo,vi,vs,Ds,Dw,h1,hd p (H.ZW h1) h2,h3,h4,h5,h6,h7,
   λb hb=>by have:=h8 b hb;exact⟨hd b this.2.2 this.1,this.2.1,this.2.2⟩,λb hb=>by have:=h9 b hb;exact⟨hd b this.2.2.1 this.1,this.2.1,this.2.2.1,this.2.2.2⟩⟩
theorem Zu.ext(a:Zu D h p m st)(x:Ext h h'):Zu D h' p m st:=a.keep x.n λb _ hb=>x.get b hb
theorem Zu.under(a:Zu D h p m st):Zu (λb=>D b/\b<h.n) h p m st:=a.mono λb hb hd=>⟨hd,hb⟩
theorem Zu.mod{E:Nat->Prop}(a:Zu D h p m st)(x:Mod E h h')(hd:∀b,D b->b<h.n->¬E b):Zu D h' p m st :=
  a.keep x.n λb hb Yv=>x.get b Yv (hd b hb Yv)
theorem Zu.ok(a:Zu D h p m st):Yw st.S/\Yp m st.sd/\0<=st.n/\st.n<=100*m:=by
  obtain⟨vo,vi,vs,Ds,Dw,h1,h2,h3,h4,h5,h6,h7,h8,h9⟩:=a;exact⟨h6,h4,h7.1,h7.2⟩
theorem XU.ext(a:XU D h m vo vi sd)(x:Ext h h'):XU D h' m vo vi sd:=a.keep λb _ hb=>x.get b hb
open Go.Zf (ZS)
variable{Ds:Nat->Prop}
theorem yk{e:Nat}(E1:Pv Ds g e 184 out low (.int .u64 ZH))(so:Yp m (.w out low ZH))(u:VE D2 g vc t.c)(ok:YP t)(hs:s<t.c.length):
   ∃g2 g3,KW 150 [.agg [vc,.int .i64 t.n],.int .i64 s] g=some (.ret (.Zt [.int .u32 (pt t s:Nat),.int .u32 (pt t (s+1):Nat),.int .i64 0]),g2)/\Ext g g2 /\
    KW 151 [.ptr e 0,.int .u32 (pt t s:Nat),.int .u32 (pt t (s+1):Nat)] g2=some (.ret (.int .i64 0),g3)/\XU (grow Ds g g3) g3 (m+1) (.ptr e 0) .Zh ((YX.w out low ZH).code (pt t s) (pt t (s+1)))/\Mod Ds g g3/\Mod Ds g2 g3:=by
  obtain⟨w,g2,yj,rfl,x2⟩:=(NL u ok hs).elim;have E2:=E1.keep (h':=g2) λb _ hb=>x2.get b hb;obtain⟨g3,jQ,E3,M3⟩:=GL E2 so (yi ok hs) (NM ok (by omega));refine⟨g2,g3,yj,x2,jQ,⟨e,rfl,rfl,E3.mono λb hb hd=>?_⟩,(Mod.of x2).tr M3,M3⟩;rcases hd with hd|⟨Fs,oD⟩
  .exact .inl hd
  .exact .inr ⟨by have:=x2.n;omega,oD⟩
theorem yh{e:Nat}(E1:L4 Ds g m e rest code ZH)(so:Yp m (.r rest code ZH))(u:VE D2 g vc t.c)(ok:YP t):
   ∃g2 g3 g4,KW 152 [.ptr e 0] g=some (.ret (.Zt [.int .u32 (value code ZH:Nat),.int .i64 0]),g)/\KW 153 [.agg [vc,.int .i64 t.n],.int .u32 (value code ZH:Nat)] g=some (.ret (.Zt [.int .i64 (VX t (value code ZH):Nat),.int .i64 0]),g2)/\Ext g g2 /\
    KW 150 [.agg [vc,.int .i64 t.n],.int .i64 (VX t (value code ZH):Nat)] g2=some (.ret (.Zt [.int .u32 (pt t (VX t (value code ZH)):Nat),.int .u32 (pt t (VX t (value code ZH)+1):Nat),.int .i64 0]),g3)/\Ext g2 g3 /\
    KW 154 [.ptr e 0,.int .u32 (pt t (VX t (value code ZH)):Nat),.int .u32 (pt t (VX t (value code ZH)+1):Nat)] g3=some (.ret (.int .i64 0),g4)/\XU (grow Ds g g4) g4 (m+1) .Zh (.ptr e 0) ((YX.r rest code ZH).code (pt t (VX t (value code ZH))) (pt t (VX t (value code ZH)+1)))/\Mod Ds g g4/\Mod Ds g3 g4:=by
  have hf:=GK ok (Sl code ZH);have hE:=E1;obtain⟨at_,ra,_,_⟩:=E1;have e71:=Qz ra so.1;obtain⟨w,g2,dW,rfl,x2⟩:=(BH u ok (Sl code ZH)).elim;obtain⟨w,g3,yj,rfl,x3⟩:=(NL (u.ext x2) ok hf.1).elim;have E3:=hE.keep (h':=g3) λb _ hb=>(x2.trans x3).get b hb;obtain⟨g4,dV,E4,M4⟩:=JS E3 so hf.2.1 hf.2.2 (NM ok (by have:=hf.1;omega));exact⟨g2,g3,g4,e71,dW,x2,yj,x3,dV,⟨e,rfl,rfl,E4.mono λb hb hd=>.inl hd⟩,(Mod.of (x2.trans x3)).tr M4,M4⟩
open Go.Zf (ZS)
variable{m':Nat}
theorem XU.more(a:XU D h m vo vi sd)(hm:m<=m'):XU D h m' vo vi sd:=by
  cases sd with
  |w o l r=>exact a
  |r o l r =>
   obtain⟨e,h1,h2,at_,h3,h4,h5⟩:=a;exact⟨e,h1,h2,at_,h3,by omega,h5⟩
variable{c:Nat}{vs:V}
theorem qa{Dw:Nat->Prop}{g1 g3:H}{vr:V}{sd':YX}{bO oO bb:Nat}{cells:List V}{ad:Bool}{v:Int}
   (x1:Ext h g1) (hp:h.get p=some (.cells [vo,vi,vs,.bool st.ad,.int .i64 st.n] 72 false)) (KR:D p) (h5:WD Dw h vs st.S) (h6:Yw st.S) (h7:0<=st.n/\st.n<=100*m) (hm:m+1<100000000)
   (h8:∀b,Ds b->D b/\b≠p/\b<h.n) (h9:∀b,Dw b->D b/\b≠p/\b<h.n/\¬Ds b)
   (hk:k<32) (hc:c<cx k) (hr:st.S[k]?=some r) (ht:r[c]?=some t) (tok:YP t) (tl:t.c.length=vl k) (hsl:s<t.c.length)
   (hB:h.n<=B) (b3:g3.get B=some (.cells [vc,.int .i64 t.n] 101 false)) (U:VE Dw h vc t.c)
   (s3:XU (grow Ds g1 g3) g3 (m+1) vo vi sd') (so3:Yp (m+1) sd') (M3:Mod Ds g1 g3)
   (t1:PY 1 vs (.int .i64 k)=some (.ptr bO oO)) (t2:h.Zp bO oO=some vr) (t3:Dw bO) (t4:bO<h.n) (t5:PY 2 vr (.int .i64 c)=some (.ptr bb (c*2))) (t6:h.get bb=some (.cells cells 101 false)) (t7:c*2+2<=cells.length) (t10:Dw bb)
   (t11:∀(h1:H) (E:Nat->Prop) (SK:V) (t':Tb),(∀b,Dw b->b<h.n->h1.get b=h.get b)->h.n<=h1.n->(∀b,Dw b->b<h.n->E b)->VE E h1 SK t'.c->WD E (h1.put bb (.cells (splice cells (c*2) [SK,.int .i64 t'.n]) 101 false)) vs (st.S.set k (r.set c t')))
   (VN:st.sym k c v=⟨sd',if st.ad then st.S.set k ((st.S.getD k []).set c (YE t s))else st.S,st.ad,st.n+1⟩) :
   (st.ad=false->∃g5,g3.Zp p 4=some (.int .i64 st.n)/\g3.WO p 4 (.int .i64 (st.n+1))=some g5/\Zu (grow D h g5) g5 p (m+1) (st.sym k c v)/\Mod D h g5) /\
   (st.ad=true->∃SK g4 g5 g6 g7,KW 155 [.agg [vc,.int .i64 t.n],.int .i64 s] g3=some (.ret (.Zt [.agg [SK,.int .i64 (YE t s).n],.int .i64 0]),g4)/\(g4.new (.cells [.ZO,.int .i64 0] 101 false)).X4 g4.n 0 [SK,.int .i64 (YE t s).n]=some g5/\g5.Ze g4.n 0 2=some [SK,.int .i64 (YE t s).n]/\g5.Zp p 2=some vs/\g5.Zp bO oO=some vr/\g5.X4 bb (c*2) [SK,.int .i64 (YE t s).n]=some g6/\g6.Zp p 4=some (.int .i64 st.n)/\g6.WO p 4 (.int .i64 (st.n+1))=some g7/\V.cells SK=some [SK]/\V.same SK SK=true/\V.same vs vs=true/\V.same vr vr=true/\Zu (grow D h g7) g7 p (m+1) (st.sym k c v)/\Mod D h g7):=by
  have Rw:=H.ZW hp;have x1n:=x1.n;have M3n:=M3.n;have EP:¬Ds p:=λhb=>(h8 p hb).2.1 rfl;have Dh:∀b,b<h.n->¬Ds b->g3.get b=h.get b:=λb hb hd=>by rw[M3.get b (by omega) hd,x1.get b hb]
  have NP:g3.get p=_:=(Dh p Rw EP).trans hp;have yg:∀b,Dw b->b<h.n->g3.get b=h.get b:=λb hb Yv=>Dh b Yv (h9 b hb).2.2.2;constructor
  .intro had
   obtain⟨g5,UR⟩:∃x,x=g3.put p (.cells [vo,vi,vs,.bool st.ad,.int .i64 (st.n+1)] 72 false):=⟨_,rfl⟩
   have By:g3.WO p 4 (.int .i64 (st.n+1))=some g5:=by rw[Zw NP (by simp),UR];rfl
   have hn5:g5.n=g3.n:=by rw[UR,H.ZJ]
   refine⟨g5,by rw[ZZ NP];rfl,By,⟨vo,vi,vs,grow Ds g1 g3,Dw,?_,.inl KR,?_,?_,?_,?_,?_,λb hb=>?_,λb hb=>?_⟩,⟨by omega,λd hd Sk=>?_⟩⟩
   .rw[UR,ZV (H.ZW NP),VN]
   .rw[VN]
    exact s3.keep λb hb Yv=>by
      rw[UR,ZX];rintro rfl;rcases hb with hb|hb
      .exact EP hb
      .omega
   .rw[VN];exact so3
   .rw[VN,had]
    exact h5.keep λb hb Yv=>by rw[UR,ZX (h9 b hb).2.1,yg b hb Yv]
   .rw[VN,had];exact h6
   .rw[VN];show 0<=st.n+1/\st.n+1<=100*((m+1:Nat):Int);omega
   .rcases hb with hb|hb
    . have:=h8 b hb;exact⟨.inl this.1,this.2.1,by omega⟩
    . exact⟨.inr ⟨by omega,by omega⟩,by omega,by omega⟩
   .have:=h9 b hb
    refine⟨.inl this.1,this.2.1,by omega,?_⟩;rintro (h|h)
    . exact this.2.2.2 h
    . omega
   .rw[UR,ZX (λe=>Sk (by rw[e];exact KR)),Dh d hd (λhb=>Sk (h8 d hb).1)]
  .intro had
   have U3:VE Dw g3 vc t.c:=U.keep λb x hb hx=>yg b hb (H.ZW hx);obtain⟨w,g4,e74,vt,rfl,⟨SK,rfl,U4⟩,x4⟩:=(EX U3 tok hsl).elim;have dU:=x4.n;obtain⟨g5,UR⟩:∃z,z=(g4.new (.cells [.ZO,.int .i64 0] 101 false)).put g4.n (.cells [SK,.int .i64 (YE t s).n] 101 false):=⟨_,rfl⟩
   have x5:Ext g4 g5:=by rw[UR];exact ((Ext.refl g4).new _).put (Nat.le_refl _) _
   have n5:g5.n=g4.n+1:=by rw[UR,H.ZJ,H.ZP]
   have k5:g5.get g4.n=some (.cells [SK,.int .i64 (YE t s).n] 101 false):=by rw[UR,ZV (by rw[H.ZP];omega)]
   have WY:(g4.new (.cells [.ZO,.int .i64 0] 101 false)).X4 g4.n 0 [SK,.int .i64 (YE t s).n]=some g5:=by
    rw[ZF (o:=0) ZY (by simp),UR];rfl
   have JR:∀b,b<g3.n->g5.get b=g3.get b:=λb hb=>by rw[x5.get b (by omega),x4.get b hb]
   have kq0:=H.ZW t6;have bb5:g5.get bb=some (.cells cells 101 false):=by rw[JR bb (by omega),yg bb t10 kq0,t6]
   have hp5:g5.get p=_:=(JR p (by omega)).trans NP;have qi:bb≠p:=(h9 bb t10).2.1;obtain⟨g6,jP⟩:∃x,x=g5.put bb (.cells (splice cells (c*2) [SK,.int .i64 (YE t s).n]) 101 false):=⟨_,rfl⟩
   have hw6:g5.X4 bb (c*2) [SK,.int .i64 (YE t s).n]=some g6:=by rw[ZF bb5 (by simp;omega),jP]
   have hp6:g6.get p=_:=(show g6.get p=g5.get p by rw[jP,ZX (λe=>qi e.symm)]).trans hp5;have W6:WD (λb=>Dw b\/(g3.n<=b/\b<g4.n)) g6 vs (st.S.set k (r.set c (YE t s))):=by
    rw[jP];exact t11 g5 _ SK (YE t s) (λb hb Yv=>by rw[JR b (by omega),yg b hb Yv]) (by omega) (λb hb _=>.inl hb) ((U4.mono λb hb hd=>.inr ⟨hd,hb⟩).ext x5)
   obtain⟨g7,jO⟩:∃x,x=g6.put p (.cells [vo,vi,vs,.bool st.ad,.int .i64 (st.n+1)] 72 false):=⟨_,rfl⟩
   have hw7:g6.WO p 4 (.int .i64 (st.n+1))=some g7:=by rw[Zw hp6 (by simp),jO];rfl
   have hn6:g6.n=g5.n:=by rw[jP,H.ZJ]
   have hn7:g7.n=g5.n:=by rw[jO,H.ZJ,hn6]
   have hgr:st.S.getD k []=r:=by simp[hr]
   have bo5:g5.Zp bO oO=some vr:=by
    unfold H.Zp at t2 ⊢;rw[JR bO (by omega),yg bO t3 t4];exact t2
   refine⟨SK,g4,g5,g6,g7,e74,WY,by rw[ZU (o:=0) (n:=2) k5 (by simp)];simp,by rw[ZZ hp5];rfl,bo5,hw6,by rw[ZZ hp6];rfl,hw7,U4.1.cells,U4.1.same,by obtain⟨_,k3,_⟩:=h5.OB;exact k3.same,?_,⟨vo,vi,vs,grow Ds g1 g3,λb=>Dw b\/(g3.n<=b/\b<g4.n),?_,.inl KR,?_,?_,?_,?_,?_,λb hb=>?_,λb hb=>?_⟩,⟨by omega,λd hd Sk=>?_⟩⟩
   .obtain⟨_,_,vr',k1,k2,⟨_,k3,_⟩,_,_⟩:=h5.OB.row hr
    rw[t1]at k1;cases k1;rw[t2]at k2;cases k2;exact k3.same
   .rw[jO,ZV (H.ZW hp6),VN]
   .rw[VN]
    exact s3.keep λb hb Yv=>by
      have mZ:b≠p:=by
       rintro rfl;rcases hb with hb|hb
       .exact EP hb
       .omega
      have KA:b≠bb:=by
       rintro rfl;rcases hb with hb|hb
       .exact (h9 b t10).2.2.2 hb
       .have:=(h9 b t10).2.2.1;omega
      rw[jO,ZX mZ,jP,ZX KA,JR b Yv]
   .rw[VN];exact so3
   .rw[VN,if_pos had,hgr]
    exact W6.keep λb hb Yv=>by
      rw[jO,ZX];rintro rfl;rcases hb with hb|hb
      .exact (h9 b hb).2.1 rfl
      .omega
   .rw[VN,if_pos had];exact h6.set hk (Ot tok s) (by rw[Yh,tl])
   .rw[VN];show 0<=st.n+1/\st.n+1<=100*((m+1:Nat):Int);omega
   .rcases hb with hb|hb
    . have:=h8 b hb;exact⟨.inl this.1,this.2.1,by omega⟩
    . exact⟨.inr ⟨by omega,by omega⟩,by omega,by omega⟩
   .rcases hb with hb|hb
    . have:=h9 b hb
      refine⟨.inl this.1,this.2.1,by omega,?_⟩;rintro (h|h)
      .exact this.2.2.2 h
      .omega
    . refine⟨.inr ⟨by omega,by omega⟩,by omega,by omega,?_⟩
      rintro (h|h)
      .have:=(h8 b h).2.2;omega
      .omega
   .rw[jO,ZX (λe=>Sk (by rw[e];exact KR)),jP,ZX (λe=>Sk (by rw[e];exact (h9 bb t10).1)),JR d (by omega),Dh d hd (λhb=>Sk (h8 d hb).1)]
theorem N3{v:Int}(a:Zu D h p m st)(hm:m+1<100000000)(hk:k<32)(hc:c<cx k)(hv:st.sd.writes=true->0<=v/\v<vl k):
   RT (λw h'=>w=.Zt [.int .i64 (st.ZC k c v:Nat),.int .i64 0]/\Zu (grow D h h') h' p (m+1) (st.sym k c v)/\Mod D h h') (KW 117 [.ptr p 0,.int .i64 k,.int .i64 c,.int .i64 v] h):=by
  obtain⟨vo,vi,vs,Ds,Dw,h1,h2,h3,h4,h5,h6,h7,h8,h9⟩:=a;obtain⟨w,g,dT,rfl,x⟩:=(EV k h).elim;rw[if_pos ⟨by omega,by omega⟩,Int.toNat_natCast]at dT;have xn:=x.n;have hp:g.get p=_:=(x.get _ (H.ZW h1)).trans h1;obtain⟨r,hr,ht,tok,tl⟩:=h6.get hk hc;have jZ:=L5 hk;obtain⟨t,mY⟩:∃t,t=Ua st.S k c:=⟨_,rfl⟩
  rw[<-mY]at ht tok tl;obtain⟨bO,oO,vr,bb,cells,vc,t1,t2,t3,t4,t5,t6,t7,t8,t9,t10,t11⟩:=h5.tab hr ht;have Ip:st.sd.writes=true->0<=v/\v<t.c.length:=by rw[tl];exact hv
  obtain⟨g1,SG⟩:∃z,z=(g.new (.cells [.ZO,.int .i64 0] 101 false)).put g.n (.cells [vc,.int .i64 t.n] 101 false):=⟨_,rfl⟩
  have x1:Ext g g1:=by rw[SG];exact ((Ext.refl g).new _).put (Nat.le_refl _) _
  have n1:g1.n=g.n+1:=by rw[SG,H.ZJ,H.ZP]
  have k1:g1.get g.n=some (.cells [vc,.int .i64 t.n] 101 false):=by rw[SG,ZV (by rw[H.ZP];omega)]
  have WY:(g.new (.cells [.ZO,.int .i64 0] 101 false)).X4 g.n 0 [vc,.int .i64 t.n]=some g1:=by
   rw[ZF (o:=0) ZY (by simp),SG];rfl
  have X1:=x.trans x1;have US:g1.get p=_:=(x1.get _ (H.ZW hp)).trans hp;have g2r:g.Zp bO oO=some vr:=MQ x t4 t2;have g8r:g.Ze bb (c*2) 2=some [vc,.int .i64 t.n]:=by rw[<-t8];unfold H.Ze;rw[x.get _ (H.ZW t6)]
  have GJ:V.cells vc=some [vc]:=t9.1.cells;obtain⟨hsl,Ta⟩:=YX.MY tok Ip;have uq:=YX.Pu h4 hm Ta;obtain⟨s,hs⟩:∃s,s=st.sd.val t v:=⟨_,rfl⟩
  have uz:st.ZC k c v=s:=by rw[hs,mY];rfl
  rw[<-hs]at hsl uq;rw[uz];have VN:st.sym k c v=⟨st.sd.code (pt t s) (pt t (s+1)),if st.ad then st.S.set k ((st.S.getD k []).set c (YE t s))else st.S,st.ad,st.n+1⟩:=by
   rw[St.sym,<-mY,<-hs]
  have zn:IntKind.i64.wrap (st.n+1)=st.n+1:=ZS (by omega) (by omega);have dS:=ZU (o:=0) (n:=2) k1 (by simp);simp at dS;have dR:∀b,Ds b->b<h.n:=λb hb=>(h8 b hb).2.2;cases OW:st.sd with
  |w out low ZH =>
   rw[OW]at h3 h4 hs;have sH:=hv (by rw[OW];rfl);have sG:(s:Int)=v:=by rw[hs];simp[YX.val];omega
   obtain⟨e,rfl,rfl,E⟩:=h3;obtain⟨g2,g3,yj,x2,jQ,s3,M3,M23⟩:=yk (s:=s) (E.keep λb _ hb=>X1.get b hb) h4 (t9.ext X1) tok hsl;have gZ:=x2.n;have q2:g2.get p=_:=(x2.get _ (H.ZW US)).trans US;have EP:¬Ds p:=λhb=>(h8 p hb).2.1 rfl;have q3:g3.get p=_:=(M23.get p (H.ZW q2) EP).trans q2;have k2:g2.get g.n=_:=(x2.get _ (H.ZW k1)).trans k1;have k3:g3.get g.n=_:=(M23.get g.n (H.ZW k2) (λhb=>by have:=dR _ hb;omega)).trans k2;have k3r:=ZU (o:=0) (n:=2) k3 (by simp);simp at k3r;rw[sG]at yj;obtain⟨p0,p1⟩:=qa X1 h1 h2 h5 h6 h7 hm h8 h9 hk hc hr ht tok tl hsl (B:=g.n) (by omega) k3 t9 s3 (by rw[<-OW];exact uq) M3 t1 t2 t3 t4 t5 t6 t7 t10 t11 (v:=v) (ad:=true) (by rw[VN,OW]);rw[W4 gC,oc];cases had:st.ad with
   |false =>
    obtain⟨g5,c1,c2,c3,c4⟩:=p0 had;rw[had]at q3;simp[dT,show ¬(c:Int)<0 by omega,show ¬(cx k:Int)<=c by omega,show ¬cx k<=c by omega,Vt,ZZ hp,show ¬v<0 by omega,show ¬(vl k:Int)<=v by omega,t1,g2r,t5,g8r,nw,GJ,WY,ZZ US,dS,yj,ZZ q2,jQ,ZZ q3,zn,c1,c2];exact⟨by rw[sG],c3,c4⟩
   |true =>
    obtain⟨SK,g4,g5,g6,g7,c1,c2,c3,c4,c5,c6,c7,c8,c9,kA,c11,c12,Tq,c14⟩:=p1 had;rw[had]at q3;rw[sG]at c1;simp[dT,show ¬(c:Int)<0 by omega,show ¬(cx k:Int)<=c by omega,show ¬cx k<=c by omega,Vt,ZZ hp,show ¬v<0 by omega,show ¬(vl k:Int)<=v by omega,t1,g2r,t5,g8r,nw,GJ,WY,ZZ US,dS,yj,ZZ q2,jQ,ZZ q3,k3r,zn,c1,c2,c3,c4,c5,c6,c7,c8,c9,kA,c11,c12,ck,V.same,V.Xm];exact⟨by rw[sG],Tq,c14⟩
  |r rest code ZH =>
   rw[OW]at h3 h4 hs;obtain⟨e,rfl,rfl,E⟩:=h3;obtain⟨g2,g3,g4,e71,dW,x2,yj,x3,dV,s3,M4,M34⟩:=yh (E.keep λb _ hb=>X1.get b hb) h4 (t9.ext X1) tok;have Hs:VX t (value code ZH)=s:=hs.symm;rw[Hs]at dW yj dV s3;have gZ:=x2.n;have x3n:=x3.n;have q2:g2.get p=_:=(x2.get _ (H.ZW US)).trans US;have q3:g3.get p=_:=(x3.get _ (H.ZW q2)).trans q2;have EP:¬Ds p:=λhb=>(h8 p hb).2.1 rfl;have q4:g4.get p=_:=(M34.get p (H.ZW q3) EP).trans q3;have k2:g2.get g.n=_:=(x2.get _ (H.ZW k1)).trans k1;have k3:g3.get g.n=_:=(x3.get _ (H.ZW k2)).trans k2;have k4:g4.get g.n=_:=(M34.get g.n (H.ZW k3) (λhb=>by have:=dR _ hb;omega)).trans k3;have k2r:=ZU (o:=0) (n:=2) k2 (by simp);have k4r:=ZU (o:=0) (n:=2) k4 (by simp);simp at k2r k4r;obtain⟨p0,p1⟩:=qa X1 h1 h2 h5 h6 h7 hm h8 h9 hk hc hr ht tok tl hsl (B:=g.n) (by omega) k4 t9 s3 (by rw[<-OW];exact uq) M4 t1 t2 t3 t4 t5 t6 t7 t10 t11 (v:=v) (ad:=true) (by rw[VN,OW]);rw[W4 gC,oc];cases had:st.ad with
   |false =>
    obtain⟨g5,c1,c2,c3,c4⟩:=p0 had;rw[had]at q4;simp[dT,show ¬(c:Int)<0 by omega,show ¬(cx k:Int)<=c by omega,show ¬cx k<=c by omega,Vt,ZZ hp,t1,g2r,t5,g8r,nw,GJ,WY,ZZ US,dS,e71,dW,k2r,yj,ZZ q3,dV,ZZ q4,zn,c1,c2];exact⟨rfl,c3,c4⟩
   |true =>
    obtain⟨SK,g5,g6,g7,g8,c1,c2,c3,c4,c5,c6,c7,c8,c9,kA,c11,c12,Tq,c14⟩:=p1 had;rw[had]at q4;simp[dT,show ¬(c:Int)<0 by omega,show ¬(cx k:Int)<=c by omega,show ¬cx k<=c by omega,Vt,ZZ hp,t1,g2r,t5,g8r,nw,GJ,WY,ZZ US,dS,e71,dW,k2r,yj,ZZ q3,dV,ZZ q4,k4r,zn,c1,c2,c3,c4,c5,c6,c7,c8,c9,kA,c11,c12,ck,V.same,V.Xm];exact⟨rfl,Tq,c14⟩
open Go.Zf (ZS)
structure dQ(h0:H)(Ds:Nat->Prop)(p m n:Nat)(v:Int)(vo vi:V)(dO:YX)(j:Nat)(e:E)(g:H):Prop where
  hj:j<=n
  md:Mod Ds h0 g
  q:∃sd out,XU (grow Ds h0 g) g (m+(n-j)) vo vi sd/\Yp (m+(n-j)) sd/\sd.writes=dO.writes/\out<pw (n-j)/\bits j v.toNat out sd=bits n v.toNat 0 dO/\e.s [0,1,2,6,7,8,9,10,11] 8=.int .i64 (out:Nat)
  e0:e.s [0,1,2,6,7,8,9,10,11] 0=.ptr p 0
  e1:e.s [0,1,2,6,7,8,9,10,11] 1=.int .i64 n
  e2:e.s [0,1,2,6,7,8,9,10,11] 2=.int .i64 v
  e9:e.s [0,1,2,6,7,8,9,10,11] 9=.int .i64 ((j:Int)-1)
theorem mX{v:Int}{ba bn:V}{Af:YX}(hp:h.get p=some (.cells [vo,vi,vs,ba,bn] 72 false))(KR:¬Ds p)(hn:n<=30)(hm:m+n<100000000)(hv:Af.writes=true->0<=v)(hi:dQ h Ds p m n v vo vi Af n e g):
   ∃e' g',ZI (Oq KW ZI) e g=some ⟨.ex 0,e',g'⟩/\dQ h Ds p m n v vo vi Af 0 e' g':=by
  have loop:=Zd (body:=Oq KW ZI) (dQ h Ds p m n v vo vi Af) (λs=>s.x=.ex 0/\dQ h Ds p m n v vo vi Af 0 s.e s.h)
   (λj e g hi=>by
    obtain⟨hj,md,⟨sd,out,q1,q2,q3,q4,q5,e8⟩,e0,e1,e2,e9⟩:=hi;have Rw:=H.ZW hp;have hpg:g.get p=_:=(md.get p Rw KR).trans hp;have dN:=md.n;cases j with
    |zero =>
      simp[Oq,e9];exact⟨rfl,hj,md,⟨sd,out,q1,q2,q3,q4,q5,by simp[e8]⟩,by simp[e0],by simp[e1],by simp[e2],by simp[e9]⟩
    |succ j =>
      obtain⟨i,hi⟩:∃i,i=n-(j+1):=⟨_,rfl⟩
      have Tw:n-j=i+1:=by omega
      rw[<-hi]at q1 q2 q4;have e9':e.s [0,1,2,6,7,8,9,10,11] 9=.int .i64 (j:Nat):=by rw[e9];simp
      have Ae:=YX.MP (v:=v.toNat/2^j%2) (by omega) sd;have sF:pw i<=pw 30:=Nat.pow_le_pow_right (by decide) (by omega);have mW:pw (i+1)=2*pw i:=by simp[pw,Nat.pow_succ,Nat.mul_comm]
      have kqZ:pw 30=1073741824:=by decide
      have TK:min j IntKind.i64.bits=j:=Nat.min_eq_left (by rw[show IntKind.i64.bits=64 from rfl];omega);obtain⟨b,KQ⟩:∃b,b=sd.bit (v.toNat/2^j%2):=⟨_,rfl⟩
      rw[<-KQ]at Ae;have z4:IntKind.i64.wrap ((out:Int)*2)=out*2:=ZS (by omega) (by omega);have z5:IntKind.i64.wrap ((out:Int)*2+b)=((2*out+b:Nat):Int):=by rw[ZS (by omega) (by omega)];omega
      have z6:IntKind.i64.wrap ((j:Int)-1)=(j:Int)-1:=ZS (by omega) (by omega);have z7:IntKind.u32.wrap (b:Int)=b:=Sp (by omega) (by omega);have z8:IntKind.u32.wrap ((b:Int)*16384)=b*16384:=Sp (by omega) (by omega);have z9:IntKind.i64.wrap ((b:Int)+1)=b+1:=ZS (by omega) (by omega);have z10:IntKind.u32.wrap ((b:Int)+1)=b+1:=Sp (by omega) (by omega);have z11:IntKind.u32.wrap (((b:Int)+1)*16384)=b*16384+16384:=by rw[Sp (by omega) (by omega)];omega
      have fin:∀(g1:H) (e':E),XU (grow (grow Ds h g) g g1) g1 (m+i+1) vo vi (sd.code (b*16384) (b*16384+16384))->Mod (grow Ds h g) g g1->e'.s [0,1,2,6,7,8,9,10,11] 0=.ptr p 0->e'.s [0,1,2,6,7,8,9,10,11] 1=.int .i64 n->e'.s [0,1,2,6,7,8,9,10,11] 2=.int .i64 v->e'.s [0,1,2,6,7,8,9,10,11] 8=.int .i64 ((2*out+b:Nat):Int)->e'.s [0,1,2,6,7,8,9,10,11] 9=.int .i64 ((j:Int)-1)->dQ h Ds p m n v vo vi Af j e' g1:=by
       intro g1 e' s1 M1 b0 b1 b2 b8 b9;have M2:Mod Ds h g1:=md.trans M1;have jf:=M1.n;refine⟨by omega,M2,⟨_,2*out+b,(s1.mono λd hd Sk=>?_).more (by omega),?_,by rw[YX.Wt];exact q3,by rw[Tw,mW];omega,?_,b8⟩,b0,b1,b2,b9⟩
       .rcases Sk with (Fs|Fs)|Fs
        .exact .inl Fs
        .exact .inr ⟨Fs.1,hd⟩
        .exact .inr ⟨by omega,hd⟩
       .rw[Tw,<-Nat.add_assoc];exact YX.Pu q2 (by omega) Ae.2
       .rw[<-q5,bits,<-KQ]
      cases sd with
      |w o lo r =>
       obtain⟨jQ,rfl,rfl,E1⟩:=q1;have Df:=hv (by rw[<-q3];rfl);obtain⟨nv,rfl⟩:∃nv:Nat,v=nv:=⟨v.toNat,by omega⟩
       have hbv:b=nv/2^j%2:=by rw[KQ,Int.toNat_natCast];rfl
       have hfd:((nv:Int).fdiv (2^j))=((nv/2^j:Nat):Int):=by
        rw[Int.fdiv_eq_ediv_of_nonneg _ (Int.pow_nonneg (by decide))];simp
       obtain⟨qq,hqq⟩:∃qq,qq=nv/2^j:=⟨_,rfl⟩
       rw[<-hqq]at hfd hbv;have hmd:(qq:Int).tmod 2=(b:Nat):=by rw[hbv];exact Int.ofNat_tmod qq 2
       obtain⟨g1,a70,s1,M1⟩:=GL E1 q2 Ae.2.1 Ae.2.2;simp at a70;simp[Oq,e9',show ¬(j:Int)<0 by omega,e0,e1,e2,e8,ZZ hpg,TK,hfd,hmd,z7,z8,z9,z10,z11,a70,z4,z5,z6];exact⟨j,Nat.lt_succ_self j,fin g1 _ ⟨_,rfl,rfl,s1⟩ M1 (by simp[e0]) (by simp[e1]) (by simp[e2]) (by simp[z4,z5]) (by simp[z6])⟩
      |r o lo r =>
       obtain⟨jQ,rfl,rfl,E1⟩:=q1;have hE:=E1;obtain⟨at_,ra,_,_⟩:=E1;have a71:=Qz ra q2.1;obtain⟨g1,a73,s1,M1⟩:=JS hE q2 Ae.2.1 Ae.2.2.1 Ae.2.2.2;have hbv:b=value lo r/16384:=by rw[KQ];rfl
       have hd:((value lo r:Nat):Int).tdiv 16384=(b:Int):=by rw[Int.tdiv_eq_ediv_of_nonneg (by omega),hbv];simp
       have zb:IntKind.i64.wrap (b:Int)=b:=ZS (by omega) (by omega);simp at a73;simp[Oq,e9',show ¬(j:Int)<0 by omega,e0,e1,e2,e8,ZZ hpg,a71,hd,zb,z7,z8,z9,z10,z11,a73,z4,z5,z6];exact⟨j,Nat.lt_succ_self j,fin g1 _ ⟨_,rfl,rfl,s1.mono λb hb hd=>.inl hd⟩ M1 (by simp[e0]) (by simp[e1]) (by simp[e2]) (by simp[z4,z5]) (by simp[z6])⟩)
  obtain⟨⟨x,e',g'⟩,r1,r2,r3⟩:=loop n e g hi;simp only at r2 r3;subst r2;exact⟨e',g',r1,r3⟩
theorem Cf{v:Int}(a:Zu D h p m st)(hn:n<=30)(hm:m+n<100000000)(hv:st.sd.writes=true->0<=v/\v<pw n):
   RT (λw h'=>w=.Zt [.int .i64 (st.WG n v.toNat:Nat),.int .i64 0]/\Zu (grow D h h') h' p (m+n) (st.num n v.toNat)/\Mod D h h') (KW 176 [.ptr p 0,.int .i64 n,.int .i64 v] h):=by
  obtain⟨vo,vi,vs,Ds,Dw,h1,h2,h3,h4,h5,h6,h7,h8,h9⟩:=a;have Rw:=H.ZW h1;have KR:¬Ds p:=λhb=>(h8 p hb).2.1 rfl;obtain⟨e',g',r1,I⟩:=mX (v:=v) (n:=n) (m:=m) h1 KR hn hm (λhw=>(hv hw).1)
   (e:=⟨[.ptr p 0,.int .i64 n,.int .i64 v,.int .i64 0,.int .i64 0,.int .i64 0,.int .i64 ((n:Int)-1),.Zt [],.Zt []],9,.int .i64 ((n:Int)-1)⟩) (g:=h)
   ⟨Nat.le_refl _,Mod.refl _ _,⟨st.sd,0,by rw[Nat.sub_self];exact h3.mono λb _ hb=>.inl hb,by rw[Nat.sub_self];exact h4,rfl,by rw[Nat.sub_self];decide,rfl,by simp⟩,by simp,by simp,by simp,by simp⟩
  obtain⟨_,md,⟨sd,out,q1,q2,q3,q4,q5,e8⟩,e0,e1,e2,e9⟩:=I;have dM:(out,sd)=bits n v.toNat 0 st.sd:=q5;have yf:out=st.WG n v.toNat:=by rw[St.WG,<-dM]
  have OW:sd=(st.num n v.toNat).sd:=by rw[St.num,<-dM]
  rw[Nat.sub_zero]at q1 q2;have mn:=md.n;have JQ:g'.get p=_:=(md.get p Rw KR).trans h1;obtain⟨g5,UR⟩:∃x,x=g'.put p (.cells [vo,vi,vs,.bool st.ad,.int .i64 (st.n+n)] 72 false):=⟨_,rfl⟩
  have By:g'.WO p 4 (.int .i64 (st.n+n))=some g5:=by rw[Zw JQ (by simp),UR];rfl
  have zn:IntKind.i64.wrap (st.n+n)=st.n+n:=ZS (by omega) (by omega);have z1:IntKind.i64.wrap ((n:Int)-1)=(n:Int)-1:=ZS (by omega) (by omega);have S9:Zu (grow D h g5) g5 p (m+n) (st.num n v.toNat)/\Mod D h g5:=by
   have hn5:g5.n=g'.n:=by rw[UR,H.ZJ]
   refine⟨⟨vo,vi,vs,grow Ds h g',Dw,?_,.inl h2,?_,?_,?_,h6,?_,λb hb=>?_,λb hb=>?_⟩,⟨by omega,λd hd Sk=>?_⟩⟩
   .rw[UR,ZV (H.ZW JQ)];rfl
   .rw[<-OW]
    exact q1.keep λb hb Yv=>by
      rw[UR,ZX];rintro rfl;rcases hb with hb|hb
      .exact KR hb
      .omega
   .rw[<-OW];exact q2
   .exact h5.keep λb hb Yv=>by rw[UR,ZX (h9 b hb).2.1,md.get b Yv (h9 b hb).2.2.2]
   .show 0<=st.n+n/\st.n+n<=100*((m+n:Nat):Int);omega
   .rcases hb with hb|hb
    . have:=h8 b hb;exact⟨.inl this.1,this.2.1,by omega⟩
    . exact⟨.inr ⟨by omega,by omega⟩,by omega,by omega⟩
   .have:=h9 b hb
    refine⟨.inl this.1,this.2.1,by omega,?_⟩;rintro (h|h)
    . exact this.2.2.2 h
    . omega
   .rw[UR,ZX (λe=>Sk (by rw[e];exact h2)),md.get d hd (λhb=>Sk (h8 d hb).1)]
  rw[<-yf];rw[W3 kqY,dL];cases mV:st.sd with
  |r o lo rr =>
   rw[mV]at h3;obtain⟨e,rfl,rfl,_⟩:=h3;simp[show ¬(n:Int)<0 by omega,show ¬(30:Int)<n by omega,show ¬30<n by omega,ZZ h1,Vt,z1,r1,e0,ZZ JQ,e1,zn,By,e8];exact⟨rfl,S9⟩
  |w o lo rr =>
   rw[mV]at h3;obtain⟨e,rfl,rfl,_⟩:=h3;have HC:=hv (by rw[mV];rfl);have TK:min n IntKind.i64.bits=n:=Nat.min_eq_left (by rw[show IntKind.i64.bits=64 from rfl];omega);have dK:pw n<=1073741824:=by rw[show 1073741824=pw 30 from rfl];exact Nat.pow_le_pow_right (by decide) hn
   obtain⟨P,hP⟩:∃P,P=pw n:=⟨_,rfl⟩
   have sF:(2:Int)^n=P:=by rw[hP,pw];simp
   rw[<-hP]at HC dK;have zp:IntKind.i64.wrap (P:Int)=P:=ZS (by omega) (by omega);simp[show ¬(n:Int)<0 by omega,show ¬(30:Int)<n by omega,show ¬30<n by omega,ZZ h1,show ¬v<0 by omega,TK,sF,zp,show ¬(P:Int)<=v by omega,Vt,z1,r1,e0,ZZ JQ,e1,zn,By,e8];exact⟨rfl,S9⟩
open Go.Zf (ZS)
theorem BI(u:Xe D h v S)(ok:Yw S)(ad:Bool):
   RT (λw h'=>∃p,w=.Zt [.ptr p 0,.int .i64 0]/\Zu (λb=>h.n<=b) h' p 0 (rX S ad)/\Ext h h') (KW 24 [.agg [v],.bool ad] h):=by
  obtain⟨h1,b1,x1,g1,n1,u1⟩:=Pw u;obtain⟨w,h2,sE,rfl,x2⟩:=(ET u1 ok.small).elim;rw[if_pos ok]at sE;obtain⟨h3,C0,E3,m3,f3⟩:=wqR h2;have x3:Ext h2 h3:=⟨by omega,f3⟩
  have gZ:=x2.n;obtain⟨w,h4,Vn,v',rfl,W,x4⟩:=(BE ((u1.ext x2).ext x3) ok.small).elim;have g2:h2.get h.n=_:=(x2.get _ (H.ZW g1)).trans g1;have g3:h3.get h.n=_:=(x3.get _ (H.ZW g2)).trans g2;have g4:h4.get h.n=_:=(x4.get _ (H.ZW g3)).trans g3;obtain⟨h5,Vv⟩:∃g,g=h4.new (.cells [.ptr h2.n 0,.Zh,v',.bool ad,.int .i64 0] 72 false):=⟨_,rfl⟩
  have x5:Ext h4 h5:=by rw[Vv];exact (Ext.refl h4).new _
  have n5:h5.n=h4.n+1:=by rw[Vv,H.ZP]
  have r5:h5.get h4.n=some (.cells [.ptr h2.n 0,.Zh,v',.bool ad,.int .i64 0] 72 false):=by rw[Vv,ZY]
  have dU:=x4.n;have B7:bx h4 72 (.agg [.ptr h2.n 0,.Zh,v',.bool ad,.int .i64 0])=some (.ptr h4.n 0,h5):=by rw[Vv];rfl
  have dH:V.cells v'=some [v']:=by
   obtain⟨cs,k1,k2⟩:=W.OB;exact k1.cells
  rw[W2 r24,s24];simp[b1,ZU (o:=0) (n:=1) g1 (by simp),sE,C0,ZU (o:=0) (n:=1) g2 (by simp),ZU (o:=0) (n:=1) g3 (by simp),ZU (o:=0) (n:=1) g4 (by simp),Vn,bl,YD,splice,dH,B7,ck,V.same,V.Xm,u.Tl];have Oo:=u.Tl (some ());simp[ck]at Oo;simp[Oo];refine⟨h4.n,rfl,⟨.ptr h2.n 0,.Zh,v',λb=>b=h2.n,λb=>h3.n<=b/\b<h4.n,r5,(show h.n<=h4.n by omega),⟨h2.n,rfl,rfl,.ZO,?_,rfl,λc o n k e=>by cases e⟩,⟨⟨by decide,by decide,by decide⟩,by simp,by decide⟩,?_,ok,⟨Int.le_refl _,Int.le_refl _⟩,λb hb=>?_,λb hb=>?_⟩,?_⟩
  .exact⟨by rw[x5.get _ (by omega),x4.get _ (by omega)];exact E3.cell,.inl ⟨rfl,rfl⟩,E3.byte,E3.NN⟩
  .exact (W.mono λb hb hd=>⟨hd,hb⟩).ext x5
  .have hb:b=h2.n:=hb
   exact⟨(show h.n<=b by omega),by omega,by omega⟩
  .exact⟨(show h.n<=b by omega),by omega,by omega,(show ¬b=h2.n by omega)⟩
  .exact (((x1.trans x2).trans x3).trans x4).trans x5
theorem I8{bv:V}(sb:Jd h bv l)(hl:l.length<140737488355329)(hb:∀x∈l,x<256)(u:Xe D h v S)(ok:Yw S)(ad:Bool):
   RT (λw h'=>∃p,w=.Zt [.ptr p 0,.int .i64 0]/\Zu (λb=>h.n<=b) h' p 0 (E9 l S ad)/\Ext h h') (KW 18 [bv,.agg [v],.bool ad] h):=by
  obtain⟨h1,b1,x1,g1,n1,u1⟩:=Pw u;obtain⟨w,h2,sE,rfl,x2⟩:=(ET u1 ok.small).elim;rw[if_pos ok]at sE;have gZ:=x2.n;obtain⟨h3,q,v3,e52,ye,q0,q1,q2,f3⟩:=tI ((sb.keep x1.get).keep x2.get) hl hb;have dI:h2.n<=h3.n:=by omega
  have x3:Ext h2 h3:=⟨dI,f3⟩
  have E3:=ye (λc=>c=q\/¬(h2.n<=c/\c<h3.n)) (.inl rfl) (λc c1 c2 c3=>by rintro (e|e);exact c3 e;exact e ⟨c1,c2⟩);obtain⟨w,h4,Vn,v',rfl,W,x4⟩:=(BE ((u1.ext x2).ext x3) ok.small).elim;have g2:h2.get h.n=_:=(x2.get _ (H.ZW g1)).trans g1;have g3:h3.get h.n=_:=(x3.get _ (H.ZW g2)).trans g2;obtain⟨h5,Vv⟩:∃g,g=h4.new (.cells [.Zh,.ptr q 0,v',.bool ad,.int .i64 0] 72 false):=⟨_,rfl⟩
  have x5:Ext h4 h5:=by rw[Vv];exact (Ext.refl h4).new _
  have n5:h5.n=h4.n+1:=by rw[Vv,H.ZP]
  have r5:h5.get h4.n=some (.cells [.Zh,.ptr q 0,v',.bool ad,.int .i64 0] 72 false):=by rw[Vv,ZY]
  have dU:=x4.n;have B7:bx h4 72 (.agg [.Zh,.ptr q 0,v',.bool ad,.int .i64 0])=some (.ptr h4.n 0,h5):=by rw[Vv];rfl
  have dH:V.cells v'=some [v']:=by
   obtain⟨cs,k1,k2⟩:=W.OB;exact k1.cells
  have dG:=JO hb;have Oo:=u.Tl (some ());simp[ck]at Oo;rw[W3 r18,s18];simp[b1,ZU (o:=0) (n:=1) g1 (by simp),sE,e52,ZU (o:=0) (n:=1) g2 (by simp),ZU (o:=0) (n:=1) g3 (by simp),Vn,bl,YD,splice,dH,B7,ck,V.same,V.Xm,Oo];have hE3:L4 (λc=>h2.n<=c/\c<h3.n) h3 0 q (VK l).1 (VK l).2 4294967295:=⟨v3,E3,by omega,⟨q1,q2⟩⟩
  refine⟨h4.n,rfl,⟨.Zh,.ptr q 0,v',λb=>h2.n<=b/\b<h3.n,λb=>h3.n<=b/\b<h4.n,r5,(show h.n<=h4.n by omega),⟨q,rfl,rfl,hE3.keep λb hb Yv=>by rw[x5.get _ (by omega),x4.get _ Yv]⟩,⟨dG.1,dG.2,by decide⟩,?_,ok,⟨Int.le_refl _,Int.le_refl _⟩,λb hb=>?_,λb hb=>?_⟩,?_⟩
  .exact (W.mono λb hb hd=>⟨hd,hb⟩).ext x5
  .exact⟨(show h.n<=b by omega),by omega,by omega⟩
  .exact⟨(show h.n<=b by omega),by omega,by omega,λh=>by omega⟩
  .exact (((x1.trans x2).trans x3).trans x4).trans x5
theorem sT(a:Zu D h p m st)(hs:st.sd=.w out low ZH):
   RT (λw h'=>∃v,w=.Zt [v,.int .i64 0]/\Wr h' h.n v (bytes out low)/\Ext h h') (KW 26 [.ptr p 0] h):=by
  obtain⟨vo,vi,vs,Ds,Dw,h1,h2,h3,h4,h5,h6,h7,h8,h9⟩:=a;rw[hs]at h3 h4;obtain⟨e,rfl,rfl,v,ea,_⟩:=h3;obtain⟨h',v',k1,k2,k3,k4⟩:=sX ea h4.1 (by have:=h4.2.1;have:=h4.2.2;omega);rw[W1 r26,s26];simp[ZZ h1,k1];exact⟨v',rfl,k2,k3,k4⟩
theorem Zu.set(a:Zu D h p m st):∃vs,h.Ze p 2 1=some [vs]/\WD D h vs st.S/\h.Zp p 4=some (.int .i64 st.n):=by
  obtain⟨vo,vi,vs,Ds,Dw,h1,h2,h3,h4,h5,h6,h7,h8,h9⟩:=a;exact⟨vs,by rw[ZU h1 (by simp)];rfl,h5.mono λb _ hb=>(h9 b hb).1,by rw[ZZ h1];rfl⟩
open Go.Zf (ZS)
theorem Zu.more(a:Zu D g p m st)(h1:m<=m')(h2:m'<100000000):Zu D g p m' st:=by
  obtain⟨vo,vi,vs,Ds,Dw,a1,a2,a3,a4,a5,a6,a7,a8,a9⟩:=a;refine⟨vo,vi,vs,Ds,Dw,a1,a2,a3.more h1,?_,a5,a6,⟨a7.1,by omega⟩,a8,a9⟩;cases hs:st.sd with
  |w o lo r=>rw[hs]at a4;exact⟨a4.1,by have:=a4.2.1;omega,h2⟩
  |r o lo r=>rw[hs]at a4;exact⟨a4.1,a4.2.1,h2⟩
end Go.Proofs.YtbkmdnmncaakdaaGreat
