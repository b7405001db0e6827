import Derived.Test.YtbkmdnmncaakdaaGreatPfMrb
import Derived.Test.YtbkmdnmncaakdaaGreatPfHg
set_option linter.unusedVariables false
set_option linter.unusedSimpArgs false
set_option maxRecDepth 20000
namespace Go.Proofs.YtbkmdnmncaakdaaGreat
open Go Go.Zf
def hasB(b:Bk)(x y:Int):Prop:=b.x<=x/\x<b.x+b.w/\b.y<=y/\y<b.y+b.h
instance(b:Bk)(x y:Int):Decidable (hasB b x y):=inferInstanceAs (Decidable (_/\_))
def VM:List Bk->Int->Int->Option Bk
 |[],_,_=>none
 |b::l,x,y=>if hasB b x y then some b else VM l x y
def At(a b:Bk):Prop:=a.x<b.x+b.w/\b.x<a.x+a.w/\a.y<b.y+b.h/\b.y<a.y+a.h
instance(a b:Bk):Decidable (At a b):=inferInstanceAs (Decidable (_/\_))
theorem LC:∀{l:List Bk} {x y:Int} {b:Bk},VM l x y=some b->b∈l/\hasB b x y
 |[],_,_,_,h=>by cases h
 |c::l,x,y,b,h=>by
  unfold VM at h;split at h
  .cases h;exact⟨List.mem_cons_self ..,by assumption⟩
  .obtain⟨h1,h2⟩:=LC h;exact⟨List.mem_cons_of_mem _ h1,h2⟩
theorem LB:∀{l:List Bk} {x y:Int},VM l x y=none->∀b∈l,¬hasB b x y
 |[],_,_,_,b,hb=>by cases hb
 |c::l,x,y,h,b,hb=>by
  unfold VM at h;split at h
  .cases h
  .rcases List.mem_cons.1 hb with rfl|hb
   .assumption
   .exact LB h b hb
theorem Jv:∀(l:List Bk) (b:Bk) (x y:Int),VM (l++[b]) x y=if VM l x y=none then (if hasB b x y then some b else none)else VM l x y
 |[],b,x,y=>by simp[VM]
 |c::l,b,x,y=>by
  have ih:=Jv l b x y;rw[List.cons_append];unfold VM;split
  .simp
  .rw[ih]
structure il(G:Gr):Prop where
 al:∀b∈G.bs,As b
 at_:∀x y,G.at x y=VM G.bs x y
theorem iI:il Nk:=⟨by simp[Nk],λx y=>by unfold Gr.at;split<;>rfl⟩
variable{b:Bk}{x y:Int}
theorem Pf(ib:As b):(x/8,y/8)∈Xf b↔hasB b x y:=by
 obtain⟨X,Y,c,r,bx,HK,bw,bh,dx,dy,dw,dh,l1,l2,l3,l4⟩:=ib.MB;unfold Xf hasB;rw[Pm,dx,dy,dw,dh];constructor
 .rintro⟨i,j,hi,hj,e⟩
  simp only[Prod.mk.injEq]at e;omega
 .rintro⟨h1,h2,h3,h4⟩
  exact⟨(x/8-X).toNat,(y/8-Y).toNat,by omega,by omega,by simp only[Prod.mk.injEq];omega⟩
theorem wP(ib:As b)(h:hasB b x y):Vd x y:=by
 obtain⟨X,Y,c,r,bx,HK,bw,bh,dx,dy,dw,dh,l1,l2,l3,l4⟩:=ib.MB;unfold hasB at h;unfold Vd;omega
def bj(L:List Bk)(b:Bk):List Bk×Int:=if Vd b.x b.y/\Vd (b.x+b.w-1) (b.y+b.h-1)then (if ∀a∈L,¬At a b then (L++[b],0)else (L,2))else (L,2)
variable{G:Gr}
theorem Mz(ok:I7 G)(R:il G)(ib:As b):(∀q∈Xf b,XW q G.cs=none)↔∀a∈G.bs,¬At a b:=by
 constructor
 .intro h a ha ov
  have ia:=R.al a ha;obtain⟨x,hx⟩:∃x,x=max a.x b.x:=⟨_,rfl⟩
  obtain⟨y,hy⟩:∃y,y=max a.y b.y:=⟨_,rfl⟩
  unfold At at ov;have pa:0<a.w/\0<a.h/\0<b.w/\0<b.h:=by
   obtain⟨X,Y,c,r,_,_,bw,bh,_,_,_,_,_,_,l3,l4⟩:=ib.MB;obtain⟨X',Y',c',r',_,_,bw',bh',_,_,_,_,_,_,l3',l4'⟩:=ia.MB;omega
  have h1:hasB a x y:=by unfold hasB;omega
  have h2:hasB b x y:=by unfold hasB;omega
  have h3:=h _ ((Pf ib).2 h2);have h4:=R.at_ x y;unfold Gr.at at h4;rw[if_pos (wP ib h2),h3]at h4;exact LB h4.symm a ha h1
 .intro h q hq
  obtain⟨X,Y,c,r,bx,HK,bw,bh,dx,dy,dw,dh,l1,l2,l3,l4⟩:=ib.MB;have pO:=hq;unfold Xf at pO;rw[Pm,dx,dy,dw,dh]at pO;obtain⟨i,j,hi,hj,rfl⟩:=pO;obtain⟨x,hx⟩:∃x:Int,x=8*(X+i):=⟨_,rfl⟩
  obtain⟨y,hy⟩:∃y:Int,y=8*(Y+j):=⟨_,rfl⟩
  have e1:(X:Int)+i=x/8:=by omega
  have e2:(Y:Int)+j=y/8:=by omega
  rw[e1,e2]at hq ⊢;have hb:=(Pf ib).1 hq;cases hf:XW (x/8,y/8) G.cs with
  |none=>rfl
  |some n =>
   have hn:=ok.lt _ (Rp hf);have h4:=R.at_ x y;unfold Gr.at at h4;rw[if_pos (wP ib hb),hf]at h4;simp only[Option.bind_some,List.getElem?_eq_getElem hn]at h4;obtain⟨m1,m2⟩:=LC h4.symm;refine (h _ m1 ?_).elim;unfold hasB at m2 hb;unfold At;omega
theorem tF(ok:I7 G)(R:il G)(sh:YR b):((VH G b).1.bs,(VH G b).2)=bj G.bs b/\il (VH G b).1:=by
 unfold VH bj;by_cases c:Vd b.x b.y/\Vd (b.x+b.w-1) (b.y+b.h-1)
 .rw[if_pos c,if_pos c]
  have ib:As b:=⟨sh,c.1,c.2⟩
  have fi:=Mz ok R ib;by_cases f:∀a∈G.bs,¬At a b
  .rw[if_pos f,if_pos (fi.2 f)]
   refine⟨rfl,⟨λa ha=>?_,λx y=>?_⟩⟩
   .rcases List.mem_append.1 ha with h|h
    .exact R.al a h
    .rw[List.mem_singleton.1 h];exact ib
   .rw[Jv]
    have h4:=R.at_ x y;unfold Gr.at at h4 ⊢;by_cases t:Vd x y
    .rw[if_pos t]at h4 ⊢
     simp only[S2];cases hf:XW (x/8,y/8) G.cs with
     |some n =>
      have hn:=ok.lt _ (Rp hf);rw[hf]at h4;simp only[Option.bind_some,List.getElem?_eq_getElem hn]at h4;rw[<-h4];simp[List.getElem?_append_left hn]
     |none =>
      rw[hf]at h4;have h4:none=VM G.bs x y:=h4;rw[<-h4,if_pos rfl];by_cases hb:hasB b x y
      .rw[if_pos hb]
       have hm:=(Pf ib).2 hb;have:XW (x/8,y/8) ((Xf b).map λp=>(p,G.bs.length))=some G.bs.length:=by
        have aux:∀l:List (Int×Int),(x/8,y/8)∈l->XW (x/8,y/8) (l.map λp=>(p,G.bs.length))=some G.bs.length:=by
         intro l
         induction l with
         |nil=>intro h;cases h
         |cons a l ih =>
          intro h;simp only[List.map_cons,XW];split
          .rfl
          .rcases List.mem_cons.1 h with h|h
           .contradiction
           .exact ih h
        exact aux _ hm
       simp[this]
      .rw[if_neg hb]
       have:XW (x/8,y/8) ((Xf b).map λp=>(p,G.bs.length))=none:=Qq λe he=>by
        obtain⟨q,hq,rfl⟩:=List.mem_map.1 he;rintro rfl;exact hb ((Pf ib).1 hq)
       simp[this]
    .rw[if_neg t]at h4 ⊢
     rw[<-h4,if_pos rfl,if_neg λhb=>t (wP ib hb)]
  .rw[if_neg f,if_neg λh=>f (fi.1 h)]
   exact⟨rfl,R⟩
 .rw[if_neg c,if_neg c]
  exact⟨rfl,R⟩
end Go.Proofs.YtbkmdnmncaakdaaGreat
set_option linter.unusedVariables false
set_option linter.unusedSimpArgs false
set_option maxRecDepth 20000
namespace Go.Proofs.YtbkmdnmncaakdaaGreat
open Go Go.Zf
open Go.Zf (ZS)
structure YY(D:Nat->Prop)(h:H)(g:Nat)(G:Gr):Prop where
 at_:∃vb,h.get g=some (.cells [.int .i64 0,.int .i64 0,.int .i64 64,.int .i64 64,vb] 134 false)/\Zv 0 h vb 42 23 (G.bs.flatMap Bk.cs) G.bs.length/\D g/\(∀c o n k,vb=.sl c o n k->D c/\c≠g)
 ok:I7 G
 R:il G
 hD:∀b,D b->b<h.n
variable{D:Nat->Prop}{h h':H}{g:Nat}{G:Gr}
theorem YY.keep(a:YY D h g G)(hn:h.n<=h'.n)(hk:∀b,D b->h'.get b=h.get b):YY D h' g G:=by
 obtain⟨⟨vb,h1,h3,h4,h7⟩,ok,R,hD⟩:=a;exact⟨⟨vb,by rw[hk g h4,h1],h3.keep λc o n k e=>hk c (h7 c o n k e).1,h4,h7⟩,ok,R,λb hb=>by have:=hD b hb;omega⟩
theorem YY.ext(a:YY D h g G)(x:Ext h h'):YY D h' g G:=a.keep x.n λb hb=>x.get b (a.hD b hb)
theorem MA(a:YY D h g G)(x y:Int):KW 127 [.ptr g 0,.int .i64 x,.int .i64 y] h=some (.ret (.bool (decide (Vd x y))),h):=by
 obtain⟨⟨vb,h1,_⟩,_⟩:=a;have r0:=ZZ (o:=0) h1;have r1:=ZZ (o:=1) h1;have r2:=ZZ (o:=2) h1;have r3:=ZZ (o:=3) h1;have z:IntKind.i64.wrap 64=64:=rfl;have e:decide (Vd x y)=(decide (0<=x)&&(decide (0<=y)&&(decide (x<64)&&decide (y<64)))):=by
  rw[Bool.eq_iff_iff];simp only[decide_eq_true_eq,Bool.and_eq_true];unfold Vd;omega
 rw[W3 WqU,ik,e];by_cases c1:0<=x
 .by_cases c2:0<=y
  .by_cases c3:x<64
   .simp[r0,r1,r2,r3,z,c1,c2,c3]
   .simp[r0,r1,r2,r3,z,c1,c2,c3]
  .simp[r0,r1,r2,r3,z,c1,c2]
 .simp[r0,r1,r2,r3,z,c1]
theorem Hr(n:Int)(h:H):KW 126 [.int .i64 n] h=some (.ret (.bool (decide (X6 n))),h):=by
 have e:decide (X6 n)=(decide (n=8)||(decide (n=16)||(decide (n=32)||decide (n=64)))):=by
  rw[Bool.eq_iff_iff];simp only[decide_eq_true_eq,Bool.or_eq_true];exact Iff.rfl
 rw[W1 WqT,ij,e];by_cases c1:n=8
 .simp[c1]
 .by_cases c2:n=16
  .simp[c2]
  .by_cases c3:n=32
   .simp[c3]
   .simp[c1,c2,c3]
abbrev OM:List Nat:=[0,1,2,6,7,8,9]
structure oj(g0:H)(g p:Nat)(x y:Int)(L:List Bk)(i:Nat)(e:E)(h:H):Prop where
 xx:Ext g0 h
 no:VM (L.drop i) x y=VM L x y
 e0:e.s OM 0=.ptr g 0
 e1:e.s OM 1=.int .i64 x
 e2:e.s OM 2=.int .i64 y
 e6:e.s OM 6=.ptr p 0
 e8:e.s OM 8=.int .i64 (i:Nat)
variable{g0:H}{p:Nat}{x y:Int}
theorem tw(a:YY D g0 g G)(hp:g0.get p=some (.cells YC.cs 42 false)):
  ∀m e h,(m<=G.bs.length/\oj g0 g p x y G.bs (G.bs.length-m) e h)->LS (λm e h=>m<=G.bs.length/\oj g0 g p x y G.bs (G.bs.length-m) e h)
   (λs=>(s.x=.ex 0/\VM G.bs x y=none/\Ext g0 s.h/\s.e.s OM 6=.ptr p 0)\/(s.x=.rt/\∃b,VM G.bs x y=some b/\s.e.s OM 6=.ptr p 0/\s.e.s OM 7=.bool true/\s.h.get p=some (.cells b.cs 42 false)/\g0.n<=s.h.n/\∀c,c<g0.n->c≠p->s.h.get c=g0.get c)) m (SC KW ZI e h):=by
 rintro m e h ⟨hm,xx,no,e0,e1,e2,e6,e8⟩;obtain⟨i,hi⟩:∃i,i=G.bs.length-m:=⟨_,rfl⟩
 rw[<-hi]at no e8;obtain⟨⟨vb,g1,g3,g4,g7⟩,ok,R,hD⟩:=a.ext xx;have r4:=ZZ (o:=4) g1;have ln:=g3.len;have len:=ok.len;by_cases c:i=G.bs.length
 .have:¬(i:Int)<(G.bs.length:Int):=by omega
  simp[SC,e0,r4,ln,e8,this];refine .inl ⟨rfl,?_,xx,by simp[e6]⟩;rw[<-no,c,List.drop_length];rfl
 have TW:i<G.bs.length:=by omega
 have h1:(i:Int)<(G.bs.length:Int):=by omega
 obtain⟨b,hb⟩:∃b,G.bs[i]?=some b:=⟨_,List.getElem?_eq_getElem TW⟩
 obtain⟨cc,o,i1,i2,_⟩:=PI g3 hb;have ib:=R.al b (List.mem_of_getElem? hb);obtain⟨X,Y,cw,ch,bx_,HK,bw,bh,_,_,_,_,l1,l2,l3,l4⟩:=ib.MB;obtain⟨h2,Zq⟩:∃z,z=h.new (.cells b.cs 42 false):=⟨_,rfl⟩
 have zw:(h.new (.cells YC.cs 42 false)).X4 h.n 0 b.cs=some h2:=by rw[Zq];exact YO _ _ _ _ rfl
 have q2:h2.get h.n=some (.cells b.cs 42 false):=by rw[Zq,ZY]
 have rd:∀o,h2.Zp h.n o=b.cs[o]?:=λo=>ZZ q2;have rN:h2.Ze h.n 0 23=some b.cs:=by rw[ZU q2 (by simp)];rfl
 have x2:Ext g0 h2:=by rw[Zq];exact xx.new _
 have z1:IntKind.i64.wrap (b.x+b.w)=b.x+b.w:=ZS (by omega) (by omega);have z2:IntKind.i64.wrap (b.y+b.h)=b.y+b.h:=ZS (by omega) (by omega);have zi:IntKind.i64.wrap ((i:Int)+1)=((i+1:Nat):Int):=by rw[ZS (by omega) (by omega)];omega
 have oi:G.bs.drop i=b::G.bs.drop (i+1):=by
  rw[List.drop_eq_getElem_cons TW];rw[List.getElem?_eq_getElem TW]at hb;rw[Option.some.inj hb]
 have ki:G.bs.length-(m-1)=i+1:=by omega
 rw[oi]at no;have no:(if hasB b x y then some b else VM (G.bs.drop (i+1)) x y)=VM G.bs x y:=no;by_cases hs:hasB b x y
 .rw[if_pos hs]at no
  have Hs:=hs;unfold hasB at Hs;have qp:h2.get p=_:=(x2.get p (H.ZW hp)).trans hp;have wp:h2.X4 p 0 b.cs=some (h2.put p (.cells b.cs 42 false)):=by
   rw[ZF qp (by simp)];have:splice YC.cs 0 b.cs=b.cs:=by simp[splice]
   rw[this]
  simp[SC,e0,r4,ln,e8,h1,TW,i1,i2,nw,zw,rd,z1,z2,e1,e2,Hs.1,Hs.2.1,Hs.2.2.1,Hs.2.2.2,rN,e6,wp];exact .inr ⟨rfl,b,no.symm,by simp[e6],by simp,ZV (H.ZW qp),by rw[H.ZJ];exact x2.n,λc hc uI=>by rw[ZX uI,x2.get c hc]⟩
 .rw[if_neg hs]at no
  have go:∀e',e'.s OM 0=.ptr g 0->e'.s OM 1=.int .i64 x->e'.s OM 2=.int .i64 y->e'.s OM 6=.ptr p 0->e'.s OM 8=.int .i64 ((i+1:Nat):Int)->∃k,k<m/\k<=G.bs.length/\oj g0 g p x y G.bs (G.bs.length-k) e' h2:=λe' q0 q1 q2 q6 q8 =>
   ⟨m-1,by omega,by omega,by rw[ki];exact⟨x2,no,q0,q1,q2,q6,q8⟩⟩
  by_cases c1:b.x<=x
  .by_cases c2:x<b.x+b.w
   .by_cases c3:b.y<=y
    .have c4:¬y<b.y+b.h:=λh=>hs ⟨c1,c2,c3,h⟩
     simp[SC,e0,r4,ln,e8,h1,TW,i1,i2,nw,zw,rd,z1,z2,e1,e2,c1,c2,c3,c4,zi,-Int.natCast_add];exact go _ (by simp[e0]) (by simp[e1]) (by simp[e2]) (by simp[e6]) (by simp)
    .simp[SC,e0,r4,ln,e8,h1,TW,i1,i2,nw,zw,rd,z1,z2,e1,e2,c1,c2,c3,zi,-Int.natCast_add]
     exact go _ (by simp[e0]) (by simp[e1]) (by simp[e2]) (by simp[e6]) (by simp)
   .simp[SC,e0,r4,ln,e8,h1,TW,i1,i2,nw,zw,rd,z1,z2,e1,e2,c1,c2,zi,-Int.natCast_add]
    exact go _ (by simp[e0]) (by simp[e1]) (by simp[e2]) (by simp[e6]) (by simp)
  .simp[SC,e0,r4,ln,e8,h1,TW,i1,i2,nw,zw,rd,z1,z2,e1,e2,c1,zi,-Int.natCast_add]
   exact go _ (by simp[e0]) (by simp[e1]) (by simp[e2]) (by simp[e6]) (by simp)
theorem My(a:YY D h g G)(x y:Int):RT (λw h'=>w=RD (G.at x y)/\Ext h h') (KW 148 [.ptr g 0,.int .i64 x,.int .i64 y] h):=by
 obtain⟨h1,ZL⟩:∃z,z=h.new (.cells YC.cs 42 false):=⟨_,rfl⟩
 have x1:Ext h h1:=by rw[ZL];exact (Ext.refl h).new _
 have n1:h1.n=h.n+1:=by rw[ZL,H.ZP]
 have g1:h1.get h.n=some (.cells YC.cs 42 false):=by rw[ZL,ZY]
 rw[a.R.at_ x y,W3 WqS,ie];simp[nw,<-ZL];refine XV (C:=λo=>RT _ (fin Tryz.prog _ _ (sq (Y9 0 o) _))) _ _ (tw (a.ext x1) g1 (x:=x) (y:=y)) G.bs.length ⟨Nat.le_refl _,Ext.refl _,by simp,by simp,by simp,by simp,by simp,by simp⟩ ?_;rintro⟨sx,se,sh⟩ (⟨s1,no,xx,e6⟩|⟨s1,b,hb,e6,e7,gp,hn,hk⟩)
 .simp only at s1 xx e6
  subst s1;have qp:sh.get h.n=_:=(xx.get _ (H.ZW g1)).trans g1;have wp:sh.X4 h.n 0 YC.cs=some (sh.put h.n (.cells YC.cs 42 false)):=by rw[ZF qp (by simp)];rfl
  have rp:(sh.put h.n (.cells YC.cs 42 false)).Ze h.n 0 23=some YC.cs:=by rw[ZU (ZV (H.ZW qp)) (by simp)];rfl
  rw[no];simp[e6,wp,rp];exact⟨rfl,(x1.trans xx).put (Nat.le_refl _) _⟩
 .simp only at s1 e6 e7 gp hn hk
  subst s1;have rp:sh.Ze h.n 0 23=some b.cs:=by rw[ZU gp (by simp)];rfl
  rw[hb];simp[e6,e7,rp];exact⟨rfl,⟨by omega,λc hc=>by rw[hk c (by omega) (by omega),x1.get c hc]⟩⟩
theorem zu(a:YY D h g G){s:Int}(hx:Vw x)(hy:Vw y):
  RT (λw h'=>w=.Zt (if ME x y s then [.int .i64 (MF G x y s:Nat),.int .i64 0]else [.int .i64 0,.int .i64 2])/\Ext h h') (KW 114 [.ptr g 0,.int .i64 x,.int .i64 y,.int .i64 s] h):=by
 have PX:=MA a x y;rw[W4 WqR,hO];by_cases hs:s=64\/s=32\/s=16
 .have nz:s≠0:=by omega
  by_cases c:x.tmod s=0/\y.tmod s=0/\Vd x y
  .obtain⟨t1,t2,c3⟩:=c
   rw[if_pos ⟨hs,t1,t2,c3⟩];have cx:=c3;unfold Vd at cx;have z1:IntKind.i64.wrap (x-1)=x-1:=ZS (by omega) (by omega);have z2:IntKind.i64.wrap (y-1)=y-1:=ZS (by omega) (by omega);obtain⟨Q,hQ⟩:∃Q:V->H->Prop,Q=λw h'=>w=.Zt [.int .i64 (MF G x y s:Nat),.int .i64 0]/\Ext h h':=⟨_,rfl⟩
   rw[<-hQ];obtain⟨n1,Uo⟩:∃n,n=KU (λb=>decide (b.w<s)) (G.at x (y-1)):=⟨_,rfl⟩
   obtain⟨n2,U0⟩:∃n,n=KU (λb=>decide (b.h<s)) (G.at (x-1) y):=⟨_,rfl⟩
   have l1:n1<=1:=by rw[Uo];exact QG _ _
   have hN:MF G x y s=n1+2*n2:=by rw[Uo,U0];rfl
   rw[hN]at hQ;have fi:∀e h',E41 h g x y s (n1+2*n2) e h'->Q (.Zt [.int .i64 ((n1+2*n2:Nat):Int),.int .i64 0]) h':=λe h' he=>by rw[hQ];exact⟨rfl,he.xx⟩
   obtain⟨P1,Hn⟩:∃P:Nat->E->H->Prop,∀n e h',P n e h'↔E41 h g x y s n e h':=⟨_,λ_ _ _=>Iff.rfl⟩
   rcases hs with rfl|rfl|rfl <;>
   .simp[PX,t1,t2,c3]
    refine Ym (C:=λo=>RT Q (Zf.fin Tryz.prog _ _ o)) (P1 n1) ?_ ?_
    .obtain⟨_,h1,a1,rfl,x1⟩:=(My a x (y-1)).elim
     cases ho:G.at x (y-1)with
     |none =>
      rw[ho]at a1 Uo;have hn:n1=0:=Uo;subst hn;simp[z2,a1,RD,nw,XG];exact (Hn _ _ _).2 ⟨x1.new _,by simp,by simp,by simp,by simp,by simp⟩
     |some b =>
      rw[ho]at a1 Uo;obtain⟨h2,Zq⟩:∃z,z=h1.new (.cells b.cs 42 false):=⟨_,rfl⟩
      have zw:(h1.new (.cells YC.cs 42 false)).X4 h1.n 0 b.cs=some h2:=by rw[Zq];exact YO _ _ _ _ (by simp)
      have rb:∀o,h2.Zp h1.n o=b.cs[o]?:=λo=>ZZ (by rw[Zq,ZY]);have x2:Ext h h2:=by rw[Zq];exact x1.new _
      simp only[KU,decide_eq_true_eq]at Uo;split at Uo
      .rename_i hb
       subst Uo;simp[z2,a1,RD,nw,zw,rb,hb,XG,show IntKind.i64.wrap 1=1 from rfl];exact (Hn _ _ _).2 ⟨x2,by simp,by simp,by simp,by simp,by simp⟩
      .rename_i hb
       subst Uo;simp[z2,a1,RD,nw,zw,rb,hb,XG];exact (Hn _ _ _).2 ⟨x2,by simp,by simp,by simp,by simp,by simp⟩
    rintro e h1 FG;obtain⟨x1,e0,e1,e2,e3,Yu⟩:=(Hn _ _ _).1 FG;refine Ym (C:=λo=>RT Q (Zf.fin Tryz.prog _ _ o)) (P1 (n1+2*n2)) ?_ ?_
    .obtain⟨_,h2,a2,rfl,x2⟩:=(My (a.ext x1) (x-1) y).elim
     cases ho:G.at (x-1) y with
     |none =>
      rw[ho]at a2 U0;have hn:n2=0:=U0;subst hn;simp[e0,e1,e2,e3,z1,a2,RD,nw,XG];exact (Hn _ _ _).2 ⟨(x1.trans x2).new _,by simp[e0],by simp[e1],by simp[e2],by simp[e3],by simp[Yu]⟩
     |some b =>
      rw[ho]at a2 U0;obtain⟨h3,Zc⟩:∃z,z=h2.new (.cells b.cs 42 false):=⟨_,rfl⟩
      have zw:(h2.new (.cells YC.cs 42 false)).X4 h2.n 0 b.cs=some h3:=by rw[Zc];exact YO _ _ _ _ (by simp)
      have rb:∀o,h3.Zp h2.n o=b.cs[o]?:=λo=>ZZ (by rw[Zc,ZY]);have x3:Ext h h3:=by rw[Zc];exact (x1.trans x2).new _
      simp only[KU,decide_eq_true_eq]at U0;split at U0
      .rename_i hb
       subst U0;have z3:IntKind.i64.wrap ((n1:Int)+2)=((n1+2*1:Nat):Int):=by rw[ZS (by omega) (by omega)];omega
       simp[e0,e1,e2,e3,z1,a2,RD,nw,zw,rb,hb,XG,Yu,z3,-Int.natCast_add];exact (Hn _ _ _).2 ⟨x3,by simp[e0],by simp[e1],by simp[e2],by simp[e3],by simp⟩
      .rename_i hb
       subst U0;simp[e0,e1,e2,e3,z1,a2,RD,nw,zw,rb,hb,XG];exact (Hn _ _ _).2 ⟨x3,by simp[e0],by simp[e1],by simp[e2],by simp[e3],by simp[Yu]⟩
    rintro e h2 Fk;have he:=(Hn _ _ _).1 Fk;have q:=fi e h2 he;simp[he.Yu,-Int.natCast_add];exact q
  .rw[if_neg λp=>c p.2]
   by_cases t1:x.tmod s=0
   .by_cases t2:y.tmod s=0
    .have c3:¬Vd x y:=λh=>c ⟨t1,t2,h⟩
     rcases hs with rfl|rfl|rfl<;>(simp[PX,t1,t2,c3];exact⟨rfl,Ext.refl _⟩)
    .rcases hs with rfl|rfl|rfl<;>(simp[t1,t2];exact⟨rfl,Ext.refl _⟩)
   .rcases hs with rfl|rfl|rfl<;>(simp[t1];exact⟨rfl,Ext.refl _⟩)
 .rw[if_neg λp=>hs p.1]
  have c1:s≠64:=by omega
  have c2:s≠32:=by omega
  have c3:s≠16:=by omega
  simp[c1,c2,c3];exact⟨rfl,Ext.refl _⟩
end Go.Proofs.YtbkmdnmncaakdaaGreat
set_option linter.unusedVariables false
set_option linter.unusedSimpArgs false
set_option maxRecDepth 20000
namespace Go.Proofs.YtbkmdnmncaakdaaGreat
open Go Go.Zf
open Go.Zf (ZS)
instance(x y:Int):Decidable (XA x y):=inferInstanceAs (Decidable (_/\_))
variable{h:H}{o n:Nat}
theorem CN{b k:Nat}{l:List V}{x:V}(hr:h.Ze b o n=some l)(hk:k<n)(hx:l[k]?=some x):h.Zp b (o+k)=some x:=by
 unfold H.Ze at hr;unfold H.Zp;cases hg:h.get b with
 |none=>rw[hg]at hr;cases hr
 |some y =>
  rw[hg]at hr;cases y with
  |map m=>cases hr
  |dead=>cases hr
  |cells c t ro =>
   simp only at hr ⊢;split at hr
   .cases hr
    rw[List.getElem?_take_of_lt hk,List.getElem?_drop]at hx;exact hx
   .cases hr
variable{p:Nat}{v:V}{l:List Bk}
theorem zx(gv:Zv p h v 42 23 (l.flatMap Bk.cs) l.length)(hp:p<=h.n)(b:Bk)(hn:l.length<200000):
  ∃v' h',Vk 42 23 176 (h.new (.cells b.cs 42 false)) v (.sl h.n 0 1 (.ex 1))=some (v',h')/\Zv p h' v' 42 23 ((l++[b]).flatMap Bk.cs) (l++[b]).length/\h.n<=h'.n/\(∀c,c<h.n->(∀o n k,v≠.sl c o n k)->h'.get c=h.get c)/\(∀c o n k,v'=.sl c o n k->v=.sl c o n k\/h.n<=c):=by
 obtain⟨v',h',e,gv',rG,k4,k5⟩:=Vq (bytes:=176) (gv.ext ((Ext.refl h).new (.cells b.cs 42 false))) (by rw[H.ZP];omega) (y:=.sl h.n 0 1 (.ex 1)) (m:=1) (new:=b.cs) rfl (Ic ZY rfl) rfl (by omega);rw[H.ZP]at rG;refine⟨v',h',e,by simpa [List.flatMap_append]using gv',by omega,λc hc hv=>?_,λc o n k eq=>?_⟩
 .rw[k4 c (by rw[H.ZP];omega) hv,ZR hc]
 .rcases k5 with ⟨rfl,_⟩|k5
  .exact .inl eq
  .have:=k5 c o n k eq
   rw[H.ZP]at this;exact .inr (by omega)
theorem wq{t z:Nat}{cs:List V}(a:Zv p h v t z cs n){c m:Nat}{k:J5}(e:v=.sl c o m k):p<=c:=by
 rcases a with ⟨rfl,_⟩|⟨b,rfl,_,_,hb⟩
 .cases e
 .cases e;exact hb
abbrev wm:List Nat:=[0,1,2,6,7,8,9,10,11,12]
structure aD(g0:H)(g:Nat)(x y:Int)(l:List Bk)(e:E)(h:H):Prop where
 xx:Ext g0 h
 gv:Zv g0.n h (e.s wm 8) 42 23 (l.flatMap Bk.cs) l.length
 e0:e.s wm 0=.ptr g 0
 e1:e.s wm 1=.int .i64 x
 e2:e.s wm 2=.int .i64 y
def Ob(G:Gr)(x y:Int):List Bk:=(G.at (x-1) y).toList++(G.at x (y-1)).toList
variable{D:Nat->Prop}{g:Nat}{G:Gr}{x y:Int}
theorem CM(a:YY D h g G)(hx:Vw x)(hy:Vw y):
  RT (λw h'=>(∃v e,w=.Zt [v,.int .i64 e]/\(XA x y->e=0/\Zv h.n h' v 42 23 ((Ob G x y).flatMap Bk.cs) (Ob G x y).length)/\(¬XA x y->e=2/\v=.ZO))/\Ext h h') (KW 156 [.ptr g 0,.int .i64 x,.int .i64 y] h):=by
 have PX:=MA a x y;rw[W3 Wqc,fC];by_cases t1:x.tmod 8=0;rotate_left
 .simp[t1]
  exact⟨⟨_,_,rfl,λc=>(t1 c.1).elim,λ_=>⟨rfl,rfl⟩⟩,Ext.refl _⟩
 by_cases t2:y.tmod 8=0;rotate_left
 .simp[t1,t2]
  exact⟨⟨_,_,rfl,λc=>(t2 c.2.1).elim,λ_=>⟨rfl,rfl⟩⟩,Ext.refl _⟩
 by_cases c3:Vd x y;rotate_left
 .simp[t1,t2,PX,c3]
  exact⟨⟨_,_,rfl,λc=>(c3 c.2.2).elim,λ_=>⟨rfl,rfl⟩⟩,Ext.refl _⟩
 have cx:=c3;unfold Vd at cx;have z1:IntKind.i64.wrap (x-1)=x-1:=ZS (by omega) (by omega);have z2:IntKind.i64.wrap (y-1)=y-1:=ZS (by omega) (by omega);obtain⟨Q,hQ⟩:∃Q:V->H->Prop,Q=λw h'=>(∃v e,w=.Zt [v,.int .i64 e]/\(XA x y->e=0/\Zv h.n h' v 42 23 ((Ob G x y).flatMap Bk.cs) (Ob G x y).length)/\(¬XA x y->e=2/\v=.ZO))/\Ext h h':=⟨_,rfl⟩
 rw[<-hQ];simp[t1,t2,PX,c3];refine Ym (C:=λo=>RT Q (fin Tryz.prog _ _ o)) (aD h g x y (G.at (x-1) y).toList) ?_ ?_
 .obtain⟨_,h1,a1,rfl,x1⟩:=(My a (x-1) y).elim
  cases ho:G.at (x-1) y with
  |none =>
   rw[ho]at a1;simp[z1,a1,RD,nw,XG];exact⟨x1.new _,by simp;exact Zv.nil _ _ _ _,by simp,by simp,by simp⟩
  |some b =>
   rw[ho]at a1;obtain⟨h2,Zq⟩:∃z,z=h1.new (.cells b.cs 42 false):=⟨_,rfl⟩
   have zw:(h1.new (.cells YC.cs 42 false)).X4 h1.n 0 b.cs=some h2:=by rw[Zq];exact YO _ _ _ _ rfl
   have rb:h2.Ze h1.n 0 23=some b.cs:=by rw[Zq];exact VZ _ _ _ _ _ _ (by simp)
   have x2:Ext h h2:=by rw[Zq];exact x1.new _
   obtain⟨v',h3,ap,gv,hn,hk,_⟩:=zx (p:=h.n) (h:=h2) (v:=.ZO) (l:=[]) (Zv.nil _ _ _ _) x2.n b (by decide);have x3:Ext h h3:=⟨by have:=x2.n;omega,λc hc=>by rw[hk c (by have:=x2.n;omega) (λo n k e=>by cases e),x2.get c hc]⟩
   simp[z1,a1,RD,nw,zw,rb,ap,XG];exact⟨x3,by simpa using gv,by simp,by simp,by simp⟩
 rintro e h1 ⟨x1,gv1,e0,e1,e2⟩;obtain⟨v1,HC⟩:∃z,z=e.s wm 8:=⟨_,rfl⟩
 rw[<-HC]at gv1;have l1:(G.at (x-1) y).toList.length<=1:=by cases G.at (x-1) y<;>simp
 refine Ym (C:=λo=>RT Q (fin Tryz.prog _ _ o)) (aD h g x y (Ob G x y)) ?_ ?_
 .obtain⟨_,h2,a2,rfl,x2⟩:=(My (a.ext x1) x (y-1)).elim
  cases ho:G.at x (y-1)with
  |none =>
   rw[ho]at a2;simp[e0,e1,e2,z2,a2,RD,nw,XG];refine⟨(x1.trans x2).new _,?_,by simp[e0],by simp[e1],by simp[e2]⟩;simp[<-HC,Ob,ho];exact gv1.ext (x2.new _)
  |some b =>
   rw[ho]at a2;obtain⟨h3,Zc⟩:∃z,z=h2.new (.cells b.cs 42 false):=⟨_,rfl⟩
   have zw:(h2.new (.cells YC.cs 42 false)).X4 h2.n 0 b.cs=some h3:=by rw[Zc];exact YO _ _ _ _ rfl
   have rb:h3.Ze h2.n 0 23=some b.cs:=by rw[Zc];exact VZ _ _ _ _ _ _ (by simp)
   have x3:Ext h1 h3:=by rw[Zc];exact x2.new _
   have PN:=x1.trans x3;obtain⟨v',h4,ap,gv,hn,hk,_⟩:=zx (gv1.ext x3) PN.n b (by omega);have x4:Ext h h4:=⟨by have:=PN.n;omega,λc hc=>by rw[hk c (by have:=PN.n;omega) (λo n k e=>by have:=wq gv1 e;omega),PN.get c hc]⟩
   simp[e0,e1,e2,z2,a2,RD,nw,zw,rb,<-HC,ap,XG];refine⟨x4,?_,by simp[e0],by simp[e1],by simp[e2]⟩;simp[Ob,ho];simpa using gv
 rintro e h2 ⟨x2,gv2,e0,e1,e2⟩;rw[hQ];simp;exact⟨⟨_,_,rfl,λ_=>⟨rfl,gv2⟩,λnc=>(nc ⟨t1,t2,c3⟩).elim⟩,x2⟩
theorem CK(is:Bk->Bool)(G:Gr)(x y:Int):((Ob G x y).filter is).length=Wd is G x y:=by
 unfold Ob Wd;rw[List.filter_append,List.length_append];have:∀o:Option Bk,(o.toList.filter is).length=KU is o:=λo=>by
  cases o with
  |none=>rfl
  |some b=>cases h:is b<;>simp[KU,h]
 rw[this,this]
abbrev rF:List Nat:=[0,1,2,6,7,8,9,10,11]
structure AZ(g0:H)(v:V)(er:Int)(is:Bk->Bool)(l:List Bk)(i:Nat)(e:E)(h:H):Prop where
 hh:h=g0
 e8:e.s rF 8=v
 e9:e.s rF 9=.int .i64 er
 Yu:e.s rF 10=.int .i64 (((l.take i).filter is).length:Nat)
 Vn:e.s rF 11=.int .i64 (i:Nat)
variable{g0:H}{er:Int}
theorem rE(gv:Zv p g0 v 42 23 (l.flatMap Bk.cs) l.length)(hl:l.length<=2):
  ∀m e h,(m<=l.length/\AZ g0 v er Bk.skip l (l.length-m) e h)->LS (λm e h=>m<=l.length/\AZ g0 v er Bk.skip l (l.length-m) e h) (λs=>s.x=.ex 0/\AZ g0 v er Bk.skip l l.length s.e s.h) m (Mn KW ZI e h):=by
 rintro m e h ⟨hm,rfl,e8,e9,Yu,Vn⟩;obtain⟨i,hi⟩:∃i,i=l.length-m:=⟨_,rfl⟩
 rw[<-hi]at Yu Vn;have ln:=gv.len;by_cases c:i=l.length
 .have:¬(i:Int)<(l.length:Int):=by omega
  simp[Mn,e8,ln,Vn,this];rw[<-c];exact⟨rfl,rfl,by simp[e8],by simp[e9],by simp[Yu],by simp[Vn]⟩
 have TW:i<l.length:=by omega
 have h1:(i:Int)<(l.length:Int):=by omega
 obtain⟨b,hb⟩:∃b,l[i]?=some b:=⟨_,List.getElem?_eq_getElem TW⟩
 obtain⟨cc,o,i1,i2,_⟩:=PI gv hb;have r4:=CN i2 (k:=4) (x:=.bool b.skip) (by decide) rfl;have zi:IntKind.i64.wrap ((i:Int)+1)=((i+1:Nat):Int):=by rw[ZS (by omega) (by omega)];omega
 have ki:l.length-(m-1)=i+1:=by omega
 have Ai:l.take (i+1)=l.take i++[b]:=by rw[List.take_add_one,hb];rfl
 have hlen:((l.take i).filter Bk.skip).length<=2:=Nat.le_trans (List.length_filter_le _ _) (by rw[List.length_take];omega);obtain⟨n,hn⟩:∃n,n=((l.take i).filter Bk.skip).length:=⟨_,rfl⟩
 rw[<-hn]at Yu hlen;have zn:IntKind.i64.wrap ((n:Int)+1)=((n+1:Nat):Int):=by rw[ZS (by omega) (by omega)];omega
 cases hs:b.skip with
 |true =>
  have hc:((l.take (i+1)).filter Bk.skip).length=n+1:=by rw[Ai,List.filter_append,List.length_append,<-hn];simp[hs]
  rw[hs]at r4;simp[Mn,e8,ln,Vn,h1,i1,r4,Yu,zn,zi,-Int.natCast_add];refine⟨m-1,by omega,by omega,?_⟩;rw[ki];exact⟨rfl,by simp[e8],by simp[e9],by rw[hc];simp,by simp⟩
 |false =>
  have hc:((l.take (i+1)).filter Bk.skip).length=n:=by rw[Ai,List.filter_append,List.length_append,<-hn];simp[hs]
  rw[hs]at r4;simp[Mn,e8,ln,Vn,h1,i1,r4,zi,-Int.natCast_add];refine⟨m-1,by omega,by omega,?_⟩;rw[ki];exact⟨rfl,by simp[e8],by simp[e9],by rw[hc];simp[Yu],by simp⟩
theorem Gc(a:YY D h g G)(hx:Vw x)(hy:Vw y):
  RT (λw h'=>(∃n:Nat,w=.Zt [.int .i64 n,.int .i64 (if XA x y then 0 else 2)]/\(XA x y->n=Wd Bk.skip G x y))/\Ext h h') (KW 118 [.ptr g 0,.int .i64 x,.int .i64 y] h):=by
 obtain⟨_,h1,a1,⟨v,er,rfl,p1,p2⟩,x1⟩:=(CM a hx hy).elim;obtain⟨l,gv,l2,her,hc⟩:∃l:List Bk,Zv 0 h1 v 42 23 (l.flatMap Bk.cs) l.length/\l.length<=2/\er=(if XA x y then 0 else 2)/\(XA x y->(l.filter Bk.skip).length=Wd Bk.skip G x y):=by
  by_cases c:XA x y
  .obtain⟨q1,q2⟩:=p1 c
   refine⟨Ob G x y,?_,?_,by rw[if_pos c];exact q1,λ_=>CK _ _ _ _⟩
   .rcases q2 with q|⟨b,q1,q2,q3,_⟩
    .exact .inl q
    .exact .inr ⟨b,q1,q2,q3,Nat.zero_le _⟩
   .unfold Ob;rw[List.length_append];cases G.at (x-1) y<;>cases G.at x (y-1)<;>simp
  .obtain⟨q1,rfl⟩:=p2 c
   exact⟨[],Zv.nil _ _ _ _,by decide,by rw[if_neg c];exact q1,λh=>(c h).elim⟩
 rw[W3 WqD,gu];simp[a1];refine XV (C:=λo=>RT _ (fin Tryz.prog _ _ (sq (Y9 0 o) _))) _ _ (rE gv l2 (er:=er)) l.length ⟨Nat.le_refl _,rfl,by simp,by simp,by simp,by simp⟩ ?_;rintro⟨sx,se,sh⟩ ⟨s1,hh,e8,e9,Yu,Vn⟩;simp only at s1 hh e9 Yu;subst s1 hh;rw[List.take_length]at Yu;simp[e9,Yu];exact⟨⟨_,by rw[her],hc⟩,x1⟩
theorem rD(gv:Zv p g0 v 42 23 (l.flatMap Bk.cs) l.length)(hl:l.length<=2):
  ∀m e h,(m<=l.length/\AZ g0 v er Bk.inter l (l.length-m) e h)->LS (λm e h=>m<=l.length/\AZ g0 v er Bk.inter l (l.length-m) e h) (λs=>s.x=.ex 0/\AZ g0 v er Bk.inter l l.length s.e s.h) m (Mm KW ZI e h):=by
 rintro m e h ⟨hm,rfl,e8,e9,Yu,Vn⟩;obtain⟨i,hi⟩:∃i,i=l.length-m:=⟨_,rfl⟩
 rw[<-hi]at Yu Vn;have ln:=gv.len;by_cases c:i=l.length
 .have:¬(i:Int)<(l.length:Int):=by omega
  simp[Mm,e8,ln,Vn,this];rw[<-c];exact⟨rfl,rfl,by simp[e8],by simp[e9],by simp[Yu],by simp[Vn]⟩
 have TW:i<l.length:=by omega
 have h1:(i:Int)<(l.length:Int):=by omega
 obtain⟨b,hb⟩:∃b,l[i]?=some b:=⟨_,List.getElem?_eq_getElem TW⟩
 obtain⟨cc,o,i1,i2,_⟩:=PI gv hb;have r4:=CN i2 (k:=5) (x:=.bool b.inter) (by decide) rfl;have zi:IntKind.i64.wrap ((i:Int)+1)=((i+1:Nat):Int):=by rw[ZS (by omega) (by omega)];omega
 have ki:l.length-(m-1)=i+1:=by omega
 have Ai:l.take (i+1)=l.take i++[b]:=by rw[List.take_add_one,hb];rfl
 have hlen:((l.take i).filter Bk.inter).length<=2:=Nat.le_trans (List.length_filter_le _ _) (by rw[List.length_take];omega);obtain⟨n,hn⟩:∃n,n=((l.take i).filter Bk.inter).length:=⟨_,rfl⟩
 rw[<-hn]at Yu hlen;have zn:IntKind.i64.wrap ((n:Int)+1)=((n+1:Nat):Int):=by rw[ZS (by omega) (by omega)];omega
 cases hs:b.inter with
 |true =>
  have hc:((l.take (i+1)).filter Bk.inter).length=n+1:=by rw[Ai,List.filter_append,List.length_append,<-hn];simp[hs]
  rw[hs]at r4;simp[Mm,e8,ln,Vn,h1,i1,r4,Yu,zn,zi,-Int.natCast_add];refine⟨m-1,by omega,by omega,?_⟩;rw[ki];exact⟨rfl,by simp[e8],by simp[e9],by rw[hc];simp,by simp⟩
 |false =>
  have hc:((l.take (i+1)).filter Bk.inter).length=n:=by rw[Ai,List.filter_append,List.length_append,<-hn];simp[hs]
  rw[hs]at r4;simp[Mm,e8,ln,Vn,h1,i1,r4,zi,-Int.natCast_add];refine⟨m-1,by omega,by omega,?_⟩;rw[ki];exact⟨rfl,by simp[e8],by simp[e9],by rw[hc];simp[Yu],by simp⟩
theorem AY(a:YY D h g G)(hx:Vw x)(hy:Vw y):
  RT (λw h'=>(∃n:Nat,w=.Zt [.int .i64 n,.int .i64 (if XA x y then 0 else 2)]/\(XA x y->n=Wd Bk.inter G x y))/\Ext h h') (KW 122 [.ptr g 0,.int .i64 x,.int .i64 y] h):=by
 obtain⟨_,h1,a1,⟨v,er,rfl,p1,p2⟩,x1⟩:=(CM a hx hy).elim;obtain⟨l,gv,l2,her,hc⟩:∃l:List Bk,Zv 0 h1 v 42 23 (l.flatMap Bk.cs) l.length/\l.length<=2/\er=(if XA x y then 0 else 2)/\(XA x y->(l.filter Bk.inter).length=Wd Bk.inter G x y):=by
  by_cases c:XA x y
  .obtain⟨q1,q2⟩:=p1 c
   refine⟨Ob G x y,?_,?_,by rw[if_pos c];exact q1,λ_=>CK _ _ _ _⟩
   .rcases q2 with q|⟨b,q1,q2,q3,_⟩
    .exact .inl q
    .exact .inr ⟨b,q1,q2,q3,Nat.zero_le _⟩
   .unfold Ob;rw[List.length_append];cases G.at (x-1) y<;>cases G.at x (y-1)<;>simp
  .obtain⟨q1,rfl⟩:=p2 c
   exact⟨[],Zv.nil _ _ _ _,by decide,by rw[if_neg c];exact q1,λh=>(c h).elim⟩
 rw[W3 WqC,gq];simp[a1];refine XV (C:=λo=>RT _ (fin Tryz.prog _ _ (sq (Y9 0 o) _))) _ _ (rD gv l2 (er:=er)) l.length ⟨Nat.le_refl _,rfl,by simp,by simp,by simp,by simp⟩ ?_;rintro⟨sx,se,sh⟩ ⟨s1,hh,e8,e9,Yu,Vn⟩;simp only at s1 hh e9 Yu;subst s1 hh;rw[List.take_length]at Yu;simp[e9,Yu];exact⟨⟨_,by rw[her],hc⟩,x1⟩
end Go.Proofs.YtbkmdnmncaakdaaGreat
set_option linter.unusedVariables false
set_option linter.unusedSimpArgs false
set_option maxRecDepth 20000
namespace Go.Proofs.YtbkmdnmncaakdaaGreat
open Go Go.Zf
open Go.Zf (ZS)
theorem iJ:bl [.int .i64 0,.int .i64 0,.int .i64 0,.int .i64 0,.ZO] [(some (0,4),.agg [.int .i64 0,.int .i64 0,.int .i64 64,.int .i64 64])]=some (.agg [.int .i64 0,.int .i64 0,.int .i64 64,.int .i64 64,.ZO]):=id rfl
theorem tH(h:H):RT (λw h'=>∃g,w=.Zt [.ptr g 0,.int .i64 0]/\YY (λb=>h.n<=b/\b<h'.n) h' g Nk/\Ext h h') (KW 20 [.agg [.int .i64 0,.int .i64 0,.int .i64 64,.int .i64 64]] h):=by
 obtain⟨h1,ZL⟩:∃z,z=h.new (.cells [.int .i64 0,.int .i64 0,.int .i64 64,.int .i64 64] 36 false):=⟨_,rfl⟩
 have n1:h1.n=h.n+1:=by rw[ZL,H.ZP]
 have g1:h1.get h.n=some (.cells [.int .i64 0,.int .i64 0,.int .i64 64,.int .i64 64] 36 false):=by rw[ZL,ZY]
 have r0:=ZZ (o:=0) g1;have r1:=ZZ (o:=1) g1;have r2:=ZZ (o:=2) g1;have r3:=ZZ (o:=3) g1;have rn:h1.Ze h.n 0 4=some [.int .i64 0,.int .i64 0,.int .i64 64,.int .i64 64]:=by rw[ZU g1 (by simp)];rfl
 obtain⟨h3,Zc⟩:∃z,z=h1.new (.cells [.int .i64 0,.int .i64 0,.int .i64 64,.int .i64 64,.ZO] 134 false):=⟨_,rfl⟩
 have n3:h3.n=h1.n+1:=by rw[Zc,H.ZP]
 have x3:Ext h h3:=by rw[Zc,ZL];exact ((Ext.refl h).new _).new _
 have z:(0:Int).tmod 64=0/\(64:Int).tmod 8=0/\IntKind.i64.wrap 64=64:=⟨rfl,rfl,rfl⟩
 rw[W1 r20,s20];simp[bx,<-ZL,r0,r1,r2,r3,z,rn,iJ,<-Zc];exact⟨h1.n,rfl,⟨⟨.ZO,by rw[Zc,ZY],Zv.nil _ _ _ _,⟨by omega,by omega⟩,λc o n k e=>by cases e⟩,⟨by simp[Nk],by simp[Nk],by simp[Nk]⟩,iI,λb hb=>hb.2⟩,x3⟩
abbrev oA:List Nat:=[0,1,3,4,5,6]
structure I72(g0:H)(g p:Nat)(b:Bk)(L:List Bk)(i:Nat)(e:E)(h:H):Prop where
 xx:Ext g0 h
 no:∀a∈L.take i,¬At a b
 e0:e.s oA 0=.ptr g 0
 e3:e.s oA 3=.ptr p 0
 e5:e.s oA 5=.int .i64 (i:Nat)
variable{D:Nat->Prop}{g0:H}{g p:Nat}{G:Gr}{b:Bk}
theorem oz(a:YY D g0 g G)(hp:g0.get p=some (.cells b.cs 42 false))(ib:As b):
  ∀m e h,(m<=G.bs.length/\I72 g0 g p b G.bs (G.bs.length-m) e h)->LS (λm e h=>m<=G.bs.length/\I72 g0 g p b G.bs (G.bs.length-m) e h)
   (λs=>(s.x=.ex 0/\I72 g0 g p b G.bs G.bs.length s.e s.h)\/(s.x=.rt/\s.e.s oA 4=.int .i64 2/\Ext g0 s.h/\∃a∈G.bs,At a b)) m (NY KW ZI e h):=by
 rintro m e h ⟨hm,xx,no,e0,e3,e5⟩;obtain⟨i,hi⟩:∃i,i=G.bs.length-m:=⟨_,rfl⟩
 rw[<-hi]at no e5;obtain⟨⟨vb,g1,g3,g4,g7⟩,ok,R,hD⟩:=a.ext xx;have r4:=ZZ (o:=4) g1;have ln:=g3.len;have len:=ok.len;by_cases c:i=G.bs.length
 .have:¬(i:Int)<(G.bs.length:Int):=by omega
  simp[NY,e0,r4,ln,e5,this];refine .inl ⟨rfl,?_⟩;rw[<-c];exact⟨xx,no,by simp[e0],by simp[e3],by simp[e5]⟩
 have TW:i<G.bs.length:=by omega
 have h1:(i:Int)<(G.bs.length:Int):=by omega
 obtain⟨q,hq⟩:∃q,G.bs[i]?=some q:=⟨_,List.getElem?_eq_getElem TW⟩
 obtain⟨cc,o,i1,i2,_⟩:=PI g3 hq;have UI:=List.mem_of_getElem? hq;obtain⟨_,_,_,_,_,_,_,_,_,_,_,_,_,_,_,_⟩:=ib.MB;obtain⟨_,_,_,_,_,_,_,_,_,_,_,_,_,_,_,_⟩:=(R.al q UI).MB;obtain⟨h2,Zq⟩:∃z,z=h.new (.cells q.cs 42 false):=⟨_,rfl⟩
 have zw:(h.new (.cells YC.cs 42 false)).X4 h.n 0 q.cs=some h2:=by rw[Zq];exact YO _ _ _ _ rfl
 have rq:∀o,h2.Zp h.n o=q.cs[o]?:=λo=>ZZ (by rw[Zq,ZY]);have x2:Ext g0 h2:=by rw[Zq];exact xx.new _
 have rb:∀o,h2.Zp p o=b.cs[o]?:=λo=>ZZ ((x2.get p (H.ZW hp)).trans hp);have z1:IntKind.i64.wrap (b.x+b.w)=b.x+b.w:=ZS (by omega) (by omega);have z2:IntKind.i64.wrap (b.y+b.h)=b.y+b.h:=ZS (by omega) (by omega);have z3:IntKind.i64.wrap (q.x+q.w)=q.x+q.w:=ZS (by omega) (by omega);have z4:IntKind.i64.wrap (q.y+q.h)=q.y+q.h:=ZS (by omega) (by omega);have zi:IntKind.i64.wrap ((i:Int)+1)=((i+1:Nat):Int):=by rw[ZS (by omega) (by omega)];omega
 have ki:G.bs.length-(m-1)=i+1:=by omega
 by_cases hs:At q b
 .have Hs:=hs
  unfold At at Hs;simp[NY,e0,r4,ln,e5,h1,TW,i1,i2,nw,zw,rq,rb,z1,z2,z3,z4,e3,Hs.1,Hs.2.1,Hs.2.2.1,Hs.2.2.2];exact .inr ⟨rfl,by simp,x2,q,UI,hs⟩
 .have uK:∀a∈G.bs.take (i+1),¬At a b:=by
   rw[List.take_add_one,hq];intro a ha;rcases List.mem_append.1 ha with ha|ha
   .exact no a ha
   .have ha:a=q:=by simpa using ha
    rw[ha];exact hs
  have go:∀e',e'.s oA 0=.ptr g 0->e'.s oA 3=.ptr p 0->e'.s oA 5=.int .i64 ((i+1:Nat):Int)->∃k,k<m/\k<=G.bs.length/\I72 g0 g p b G.bs (G.bs.length-k) e' h2:=λe' q0 q3 q5 =>
   ⟨m-1,by omega,by omega,by rw[ki];exact⟨x2,uK,q0,q3,q5⟩⟩
  by_cases c1:q.x<b.x+b.w
  .by_cases c2:b.x<q.x+q.w
   .by_cases c3:q.y<b.y+b.h
    .have c4:¬b.y<q.y+q.h:=λh=>hs ⟨c1,c2,c3,h⟩
     simp[NY,e0,r4,ln,e5,h1,TW,i1,i2,nw,zw,rq,rb,z1,z2,z3,z4,e3,c1,c2,c3,c4,zi,-Int.natCast_add];exact go _ (by simp[e0]) (by simp[e3]) (by simp)
    .simp[NY,e0,r4,ln,e5,h1,TW,i1,i2,nw,zw,rq,rb,z1,z2,z3,z4,e3,c1,c2,c3,zi,-Int.natCast_add]
     exact go _ (by simp[e0]) (by simp[e3]) (by simp)
   .simp[NY,e0,r4,ln,e5,h1,TW,i1,i2,nw,zw,rq,rb,z1,z2,z3,z4,e3,c1,c2,zi,-Int.natCast_add]
    exact go _ (by simp[e0]) (by simp[e3]) (by simp)
  .simp[NY,e0,r4,ln,e5,h1,TW,i1,i2,nw,zw,rq,rb,z1,z2,z3,z4,e3,c1,zi,-Int.natCast_add]
   exact go _ (by simp[e0]) (by simp[e3]) (by simp)
theorem Cc(ok:I7 G)(hv:Y5 b.m0/\Y5 b.m1)(hn:G.bs.length<100000):I7 (VH G b).1:=by
 unfold VH;split
 .split
  .refine⟨λe he=>?_,λb' RG=>?_,by rw[List.length_append,List.length_singleton];omega⟩
   .rw[List.length_append,List.length_singleton]
    rcases List.mem_append.1 he with he|he
    .have:=ok.lt e he;omega
    .obtain⟨q,_,rfl⟩:=List.mem_map.1 he
     simp
   .rcases List.mem_append.1 RG with RG|RG
    .exact ok.vec b' RG
    .rw[List.mem_singleton.1 RG];exact hv
  .exact ok
 .exact ok
variable{h:H}
theorem tG(a:YY D h g G)(sh:YR b)(hv:Y5 b.m0/\Y5 b.m1)(hn:G.bs.length<100000):
  RT (λw h'=>w=.int .i64 (VH G b).2/\YY (grow D h h') h' g (VH G b).1/\Mod D h h') (KW 72 [.ptr g 0,b.v] h):=by
 obtain⟨h1,ZL⟩:∃z,z=h.new (.cells b.cs 42 false):=⟨_,rfl⟩
 have x1:Ext h h1:=by rw[ZL];exact (Ext.refl h).new _
 have n1:h1.n=h.n+1:=by rw[ZL,H.ZP]
 have g1:h1.get h.n=some (.cells b.cs 42 false):=by rw[ZL,ZY]
 have rd:∀o,h1.Zp h.n o=b.cs[o]?:=λo=>ZZ g1;have a1:=a.ext x1;obtain⟨eP,eR⟩:=tF a.ok a.R sh;have PX:=MA a1 b.x b.y;have zA:=MA a1 (b.x+b.w-1) (b.y+b.h-1);have DN:=sh;obtain⟨⟨px0,px1,iH⟩,⟨py0,py1,iG⟩,sw,MC,smx⟩:=sh;have bw:8<=b.w/\b.w<=64:=by unfold X6 at sw;omega
 have bh:8<=b.h/\b.h<=64:=by unfold X6 at MC;omega
 have t1:=Uf px0 iH;have t2:=Uf py0 iG;have s1:=Hr b.w h1;have s2:=Hr b.h h1;simp only[sw,MC,decide_true]at s1 s2;have z1:IntKind.i64.wrap (b.x+b.w)=b.x+b.w:=ZS (by omega) (by omega);have z2:IntKind.i64.wrap (b.x+b.w-1)=b.x+b.w-1:=ZS (by omega) (by omega);have z3:IntKind.i64.wrap (b.y+b.h)=b.y+b.h:=ZS (by omega) (by omega);have z4:IntKind.i64.wrap (b.y+b.h-1)=b.y+b.h-1:=ZS (by omega) (by omega);have Ue:∀{h':H},Ext h h'->YY (grow D h h') h' g G:=λ{h'} x=>by
  obtain⟨⟨vb,k1,k3,k4,k7⟩,ok,R,hD⟩:=a;have xn:=x.n;exact⟨⟨vb,by rw[x.get g (hD g k4),k1],k3.ext x,.inl k4,λc o n k e=>⟨.inl (k7 c o n k e).1,(k7 c o n k e).2⟩⟩,ok,R,λb hb=>by
   rcases hb with hb|hb
   .have:=hD b hb;omega
   .exact hb.2⟩
 have same:¬((Vd b.x b.y/\Vd (b.x+b.w-1) (b.y+b.h-1))/\∀a∈G.bs,¬At a b)->VH G b=(G,2):=λno=>by
  unfold VH;by_cases c:Vd b.x b.y/\Vd (b.x+b.w-1) (b.y+b.h-1)
  .rw[if_pos c,if_neg λf=>no ⟨c,(Mz a.ok a.R ⟨DN,c.1,c.2⟩).1 f⟩]
  .rw[if_neg c]
 rw[W2 r72,s72];by_cases c1:Vd b.x b.y;rotate_left
 .rw[same λh=>c1 h.1.1]
  simp[bx,<-ZL,rd,t1,t2,s1,s2,PX,c1];exact⟨rfl,Ue x1,Mod.of x1⟩
 by_cases c2:Vd (b.x+b.w-1) (b.y+b.h-1);rotate_left
 .rw[same λh=>c2 h.1.2]
  simp[bx,<-ZL,rd,t1,t2,s1,s2,PX,c1,z1,z2,z3,z4,zA,c2];exact⟨rfl,Ue x1,Mod.of x1⟩
 have ib:As b:=⟨DN,c1,c2⟩
 simp[bx,<-ZL,rd,t1,t2,s1,s2,PX,c1,z1,z2,z3,z4,zA,c2];refine XV (C:=λo=>RT _ (fin Tryz.prog _ _ (sq (Y9 0 o) _))) _ _ (oz a1 g1 ib) G.bs.length ⟨Nat.le_refl _,Ext.refl _,by simp,by simp,by simp,by simp⟩ ?_;rintro⟨sx,se,th⟩ (⟨u1,xx,no,e0,e3,e5⟩|⟨u1,e4,xx,q,hq,hov⟩);rotate_left
 .simp only at u1 e4 xx
  subst u1;rw[same λh=>h.2 q hq hov];simp[e4];exact⟨rfl,Ue (x1.trans xx),Mod.of (x1.trans xx)⟩
 simp only at u1 xx e0 e3;subst u1;rw[List.take_length]at no;have fr:=(Mz a.ok a.R ib).2 no;have ep:VH G b=(⟨G.bs++[b],G.cs++(Xf b).map λp=>(p,G.bs.length)⟩,0):=by unfold VH;rw[if_pos ⟨c1,c2⟩,if_pos fr]
 have x0:=x1.trans xx;have asx:=a.ext x0;rw[ep]at eR ⊢;obtain⟨⟨vb,k1,k3,k4,k7⟩,ok,R,hD⟩:=asx;have hDg:=a.hD g k4;have x0n:=x0.n;have q4:=ZZ (o:=4) k1;have gb:th.get h.n=_:=(xx.get _ (by omega)).trans g1;have rb:th.Ze h.n 0 23=some b.cs:=by rw[ZU gb (by simp)];rfl
 obtain⟨v',h5,ap,Dr,n5,qv,kv⟩:=zx k3 (Nat.zero_le _) b (by omega);have Ca:∀o n k,vb≠.sl g o n k:=λo n k e=>(k7 g o n k e).2 rfl;have g5:h5.get g=_:=(qv g (by omega) Ca).trans k1;obtain⟨h6,OP⟩:∃z,z=h5.put g (.cells [.int .i64 0,.int .i64 0,.int .i64 64,.int .i64 64,v'] 134 false):=⟨_,rfl⟩
 have w6:h5.WO g 4 v'=some h6:=by rw[Zw g5 (by simp),OP];rfl
 have T1:=Dr.Zx h5 g 4;rw[w6]at T1;have n6:h6.n=h5.n:=by rw[OP,H.ZJ]
 have Tl:∀{β:Type} (z:Option β),ck (some vb) vb z=z:=λz=>Kk z rfl k3.same;simp[e0,q4,e3,rb,ap,T1,Tl];refine⟨rfl,⟨⟨v',by rw[OP,ZV (H.ZW g5)],?_,.inl k4,?_⟩,?_,eR,?_⟩,⟨by omega,λc hc hd=>?_⟩⟩
 .have:=Dr.put (c:=g) (y:=.cells [.int .i64 0,.int .i64 0,.int .i64 64,.int .i64 64,v'] 134 false) (λo n k e=>by
   rcases kv g o n k e with e|e
   .exact Ca o n k e
   .omega)
  rw[<-OP]at this;exact this
 .intro c o n k e
  have iF:=Dr.under c o n k e;rcases kv c o n k e with e|h0
  .exact⟨.inl (k7 c o n k e).1,(k7 c o n k e).2⟩
  .exact⟨.inr ⟨by omega,by omega⟩,by omega⟩
 .have:=Cc a.ok hv hn
  rw[ep]at this;exact this
 .rintro c (hc|hc)
  .have:=a.hD c hc;omega
  .omega
 .have hcg:c≠g:=by rintro rfl;exact hd k4
  rw[OP,ZX hcg,qv c (by omega) (λo n k e=>hd (k7 c o n k e).1),x0.get c hc]
abbrev Rc:List Nat:=[0,1,2,4,6,7,8,9,10,11,12,13,14,15,16]
def Vl(l:List Vc):List V:=[.int .i64 (l.getD 0 (0,0)).1,.int .i64 (l.getD 0 (0,0)).2,.int .i64 (l.getD 1 (0,0)).1,.int .i64 (l.getD 1 (0,0)).2]
structure tE(g0:H)(g p6 p9 bx HK:Nat)(ref:Int)(acc:List Vc)(i:Nat)(e:E)(h:H):Prop where
 n:g0.n<=h.n
 get:∀c,c<g0.n->c≠p9->h.get c=g0.get c
 ou:h.get p9=some (.cells (Vl acc) 40 false)
 le:acc.length<=2
 e0:e.s Rc 0=.ptr g 0
 e2:e.s Rc 2=.int .i64 ref
 e6:e.s Rc 6=.ptr p6 0
 e9:e.s Rc 9=.ptr p9 0
 Yu:e.s Rc 10=.sl bx 0 4 (.ex 4)
 Vn:e.s Rc 11=.sl HK 0 4 (.ex 4)
 TT:e.s Rc 12=.int .i64 (acc.length:Nat)
 TS:e.s Rc 13=.int .i64 (i:Nat)
variable{x y ref:Int}
theorem tD{p6 p9 bx HK:Nat}(a:YY D g0 g G)(hp9:¬D p9/\p9<g0.n){w:Int}
  (B7:bx≠p9/\g0.get bx=some (.cells [.int .i64 (x-1),.int .i64 x,.int .i64 (x+w),.int .i64 (x-1)] 3 false)) (Hq:HK≠p9/\g0.get HK=some (.cells [.int .i64 y,.int .i64 (y-1),.int .i64 (y-1),.int .i64 (y-1)] 3 false)) :
  ∀m e h,(m<=4/\tE g0 g p6 p9 bx HK ref (XJ G x y w ref (4-m)) (4-m) e h)->LS (λm e h=>m<=4/\tE g0 g p6 p9 bx HK ref (XJ G x y w ref (4-m)) (4-m) e h)
   (λs=>s.x=.ex 0/\tE g0 g p6 p9 bx HK ref (XJ G x y w ref 4) 4 s.e s.h) m (Wx KW ZI e h):=by
 rintro m e h ⟨hm,n0,get,ou,le,e0,e2,e6,e9,Yu,Vn,TT,TS⟩;obtain⟨i,hi⟩:∃i,i=4-m:=⟨_,rfl⟩
 rw[<-hi]at ou le TT TS;by_cases c4:i=4
 .subst c4
  simp[Wx,TS];exact⟨rfl,n0,get,ou,le,by simp[e0],by simp[e2],by simp[e6],by simp[e9],by simp[Yu],by simp[Vn],by simp[TT],by simp[TS]⟩
 have i4:i<4:=by omega
 have Ar:(i:Int)<4:=by omega
 obtain⟨⟨px,py⟩,B5⟩:∃p:Int×Int,(Hp x y w)[i]?=some p:=⟨_,List.getElem?_eq_getElem (show i<(Hp x y w).length from i4)⟩
 have NX:=Kj G x y w ref B5;obtain⟨acc,zv⟩:∃l,l=XJ G x y w ref i:=⟨_,rfl⟩
 rw[<-zv]at ou le TT NX;simp only at NX;have rx:h.Zp bx i=some (.int .i64 px):=by
  rw[ZZ ((get bx (H.ZW B7.2) B7.1).trans B7.2)];rcases (by omega:i=0\/i=1\/i=2\/i=3)with rfl|rfl|rfl|rfl<;>cases B5<;>rfl
 have ry:h.Zp HK i=some (.int .i64 py):=by
  rw[ZZ ((get HK (H.ZW Hq.2) Hq.1).trans Hq.2)];rcases (by omega:i=0\/i=1\/i=2\/i=3)with rfl|rfl|rfl|rfl<;>cases B5<;>rfl
 have ga:YY D h g G:=a.keep n0 λb hb=>get b (a.hD b hb) (by rintro rfl;exact hp9.1 hb);obtain⟨_,h1,a1,rfl,x1⟩:=(My ga px py).elim;have x1n:=x1.n;have zi:IntKind.i64.wrap ((i:Int)+1)=((i+1:Nat):Int):=by rw[ZS (by omega) (by omega)];omega
 have ki:4-(m-1)=i+1:=by omega
 have next:∀{e':E} {h':H} {l:List Vc},XJ G x y w ref (i+1)=l->h1.n<=h'.n->(∀c,c<h1.n->c≠p9->h'.get c=h1.get c)->h'.get p9=some (.cells (Vl l) 40 false)->l.length<=2 ->
   e'.s Rc 0=.ptr g 0->e'.s Rc 2=.int .i64 ref->e'.s Rc 6=.ptr p6 0->e'.s Rc 9=.ptr p9 0->e'.s Rc 10=.sl bx 0 4 (.ex 4)->e'.s Rc 11=.sl HK 0 4 (.ex 4)->e'.s Rc 12=.int .i64 (l.length:Nat)->e'.s Rc 13=.int .i64 ((i+1:Nat):Int) ->
   ∃k,k<m/\k<=4/\tE g0 g p6 p9 bx HK ref (XJ G x y w ref (4-k)) (4-k) e' h':=λ{e' h' l} hl hn hk ho hle q0 q2 q6 q9 DM tC uJ iE =>
  ⟨m-1,by omega,by omega,by rw[ki,hl];exact⟨by omega,λc hc uI=>by rw[hk c (by omega) uI,x1.get c (by omega),get c hc uI],ho,hle,q0,q2,q6,q9,DM,tC,uJ,iE⟩⟩
 have ou1:h1.get p9=some (.cells (Vl acc) 40 false):=(x1.get p9 (by omega)).trans ou;cases ho:G.at px py with
 |none =>
  rw[ho]at a1 NX;have hv:XJ G x y w ref (i+1)=acc:=NX;simp[Wx,TS,i4,Ar,Yu,rx,Vn,ry,e0,a1,RD,nw,zi,-Int.natCast_add];exact next hv (by simp only[H.ZP];omega) (λc hc _=>ZR hc) ((ZR (by omega)).trans ou1) le (by simp[e0]) (by simp[e2]) (by simp[e6]) (by simp[e9]) (by simp[Yu]) (by simp[Vn]) (by simp[TT]) (by simp)
 |some b =>
  rw[ho]at a1 NX;obtain⟨h2,Zq⟩:∃z,z=h1.new (.cells b.cs 42 false):=⟨_,rfl⟩
  have n2:h2.n=h1.n+1:=by rw[Zq,H.ZP]
  have zw:(h1.new (.cells YC.cs 42 false)).X4 h1.n 0 b.cs=some h2:=by rw[Zq];exact YO _ _ _ _ rfl
  have g2:h2.get h1.n=some (.cells b.cs 42 false):=by rw[Zq,ZY]
  have k2:∀c,c<h1.n->h2.get c=h1.get c:=λc hc=>by rw[Zq,ZR hc]
  have ou2:=(k2 p9 (by omega)).trans ou1;have rd:∀o,h2.Zp h1.n o=b.cs[o]?:=λo=>ZZ g2;obtain⟨h3,Zc⟩:∃z,z=h2.new (.cells [.int .i64 b.m0.1,.int .i64 b.m0.2] 39 false):=⟨_,rfl⟩
  have n3:h3.n=h2.n+1:=by rw[Zc,H.ZP]
  have HJ:(h2.new (.cells [.int .i64 0,.int .i64 0] 39 false)).X4 h2.n 0 [.int .i64 b.m0.1,.int .i64 b.m0.2]=some h3:=by rw[Zc];exact YO _ _ _ _ rfl
  have g3:h3.get h1.n=some (.cells b.cs 42 false):=by rw[Zc,ZR (by omega),g2]
  have g3v:h3.get h2.n=some (.cells [.int .i64 b.m0.1,.int .i64 b.m0.2] 39 false):=by rw[Zc,ZY]
  have k3:∀c,c<h1.n->h3.get c=h1.get c:=λc hc=>by rw[Zc,ZR (by omega),k2 c hc]
  have ou3:=(k3 p9 (by omega)).trans ou1;have RC:∀o,h3.Zp h1.n o=b.cs[o]?:=λo=>ZZ g3;have I3:h2.Ze h1.n 17 2=some [.int .i64 b.m0.1,.int .i64 b.m0.2]:=by rw[ZU g2 (by simp)];rfl
  have Aq:h3.Ze h1.n 19 2=some [.int .i64 b.m1.1,.int .i64 b.m1.2]:=by rw[ZU g3 (by simp)];rfl
  cases Rf:b.inter with
  |false =>
   have hv:XJ G x y w ref (i+1)=acc:=by rw[NX];simp[TR,OO,Rf]
   simp[Wx,TS,i4,Ar,Yu,rx,Vn,ry,e0,a1,RD,nw,zw,rd,Rf,zi,-Int.natCast_add];exact next hv (by omega) (λc hc _=>k2 c hc) ou2 le (by simp[e0]) (by simp[e2]) (by simp[e6]) (by simp[e9]) (by simp[Yu]) (by simp[Vn]) (by simp[TT]) (by simp)
  |true =>
   by_cases no:b.r0≠ref/\¬(b.comp=true/\b.r1=ref)
   .have hv:XJ G x y w ref (i+1)=acc:=by
     rw[NX];have:OO b ref=none:=by unfold OO;rw[if_pos Rf,if_neg no.1,if_neg no.2]
     simp[TR,this]
    have ne:=no.1;cases hc:b.comp with
    |false =>
     simp[Wx,TS,i4,Ar,Yu,rx,Vn,ry,e0,a1,RD,nw,zw,rd,Rf,I3,HJ,RC,e2,ne,hc,zi,-Int.natCast_add];exact next hv (by omega) (λc hc _=>k3 c hc) ou3 le (by simp[e0]) (by simp[e2]) (by simp[e6]) (by simp[e9]) (by simp[Yu]) (by simp[Vn]) (by simp[TT]) (by simp)
    |true =>
     have n1:¬b.r1=ref:=λh=>no.2 ⟨hc,h⟩;simp[Wx,TS,i4,Ar,Yu,rx,Vn,ry,e0,a1,RD,nw,zw,rd,Rf,I3,HJ,RC,e2,ne,hc,n1,zi,-Int.natCast_add];exact next hv (by omega) (λc hc _=>k3 c hc) ou3 le (by simp[e0]) (by simp[e2]) (by simp[e6]) (by simp[e9]) (by simp[Yu]) (by simp[Vn]) (by simp[TT]) (by simp)
   .obtain⟨v,hvp,sel⟩:∃v,OO b ref=some v/\((b.r0=ref/\v=b.m0)\/(¬b.r0=ref/\b.comp=true/\b.r1=ref/\v=b.m1)):=by
     by_cases e:b.r0=ref
     .exact⟨b.m0,by unfold OO;rw[if_pos Rf,if_pos e],.inl ⟨e,rfl⟩⟩
     .have hc:b.comp=true/\b.r1=ref:=Classical.byContradiction λh=>no ⟨e,h⟩
      exact⟨b.m1,by unfold OO;rw[if_pos Rf,if_neg e,if_pos hc],.inr ⟨e,hc.1,hc.2,rfl⟩⟩
    have RA:XJ G x y w ref (i+1)=if acc.length<2/\¬v∈acc then acc++[v]else acc:=by rw[NX];simp[TR,hvp]
    obtain⟨h4,Xs⟩:∃z,z=h3.put h2.n (.cells [.int .i64 b.m1.1,.int .i64 b.m1.2] 39 false):=⟨_,rfl⟩
    have wm1:h3.X4 h2.n 0 [.int .i64 b.m1.1,.int .i64 b.m1.2]=some h4:=by rw[ZF g3v (by simp),Xs];rfl
    have n4:h4.n=h3.n:=by rw[Xs,H.ZJ]
    have g4v:h4.get h2.n=some (.cells [.int .i64 b.m1.1,.int .i64 b.m1.2] 39 false):=by rw[Xs,ZV (H.ZW g3v)]
    have k4:∀c,c<h1.n->h4.get c=h1.get c:=λc hc=>by rw[Xs,ZX (by omega),k3 c hc]
    have ou4:=(k4 p9 (by omega)).trans ou1;rcases sel with ⟨q1,rfl⟩|⟨q1,q2,q3,rfl⟩
    .have rv:h3.Ze h2.n 0 2=some [.int .i64 b.m0.1,.int .i64 b.m0.2]:=by rw[ZU g3v (by simp)];rfl
     have kp:∀y c,c<h1.n->c≠p9->(h3.put p9 y).get c=h1.get c:=λy c hc Wp=>by rw[ZX Wp,k3 c hc]
     match acc,le,RA,ou3,TT with
     |[],_,RA,ou,TT =>
      have wo:h3.X4 p9 0 [.int .i64 b.m0.1,.int .i64 b.m0.2]=some (h3.put p9 (.cells (Vl [b.m0]) 40 false)):=by rw[ZF ou (by simp[Vl])];rfl
      have hv:XJ G x y w ref (i+1)=[b.m0]:=by rw[RA];simp
      simp[Wx,TS,i4,Ar,Yu,rx,Vn,ry,e0,a1,RD,nw,zw,rd,Rf,I3,HJ,RC,e2,e9,TT,q1,rv,wo,zi,-Int.natCast_add];exact next hv (by rw[H.ZJ];omega) (kp _) (ZV (H.ZW ou)) (by simp) (by simp[e0]) (by simp[e2]) (by simp[e6]) (by simp[e9]) (by simp[Yu]) (by simp[Vn]) (by simp;rfl) (by simp)
     |[a0],_,RA,ou,TT =>
      have r9:h3.Ze p9 0 2=some [.int .i64 a0.1,.int .i64 a0.2]:=by rw[ZU ou (by simp[Vl])];rfl
      by_cases ce:b.m0=a0
      .have hv:XJ G x y w ref (i+1)=[a0]:=by rw[RA];simp[ce]
       have tB:b.m0.1=a0.1/\b.m0.2=a0.2:=by rw[ce];exact⟨rfl,rfl⟩
       simp[Wx,TS,i4,Ar,Yu,rx,Vn,ry,e0,a1,RD,nw,zw,rd,Rf,I3,HJ,RC,e2,e9,TT,q1,rv,r9,eq_true tB.1,eq_true tB.2,zi,-Int.natCast_add];exact next hv (by omega) (λc hc _=>k3 c hc) ou (by simp) (by simp[e0]) (by simp[e2]) (by simp[e6]) (by simp[e9]) (by simp[Yu]) (by simp[Vn]) (by simp[TT]) (by simp)
      .have tB:¬(b.m0.1=a0.1/\b.m0.2=a0.2):=λh=>ce (Prod.ext h.1 h.2)
       have hv:XJ G x y w ref (i+1)=[a0,b.m0]:=by rw[RA];simp[ce]
       have wo:h3.X4 p9 2 [.int .i64 b.m0.1,.int .i64 b.m0.2]=some (h3.put p9 (.cells (Vl [a0,b.m0]) 40 false)):=by rw[ZF ou (by simp[Vl])];rfl
       simp[Wx,TS,i4,Ar,Yu,rx,Vn,ry,e0,a1,RD,nw,zw,rd,Rf,I3,HJ,RC,e2,e9,TT,q1,rv,r9,tB,wo,zi,-Int.natCast_add];exact next hv (by rw[H.ZJ];omega) (kp _) (ZV (H.ZW ou)) (by simp) (by simp[e0]) (by simp[e2]) (by simp[e6]) (by simp[e9]) (by simp[Yu]) (by simp[Vn]) (by simp;rfl) (by simp)
     |[a0,c1],_,RA,ou,TT =>
      have hv:XJ G x y w ref (i+1)=[a0,c1]:=by rw[RA];simp
      simp[Wx,TS,i4,Ar,Yu,rx,Vn,ry,e0,a1,RD,nw,zw,rd,Rf,I3,HJ,RC,e2,e9,TT,q1,rv,zi,-Int.natCast_add];exact next hv (by omega) (λc hc _=>k3 c hc) ou (by simp) (by simp[e0]) (by simp[e2]) (by simp[e6]) (by simp[e9]) (by simp[Yu]) (by simp[Vn]) (by simp[TT]) (by simp)
    .have rv:h4.Ze h2.n 0 2=some [.int .i64 b.m1.1,.int .i64 b.m1.2]:=by rw[ZU g4v (by simp)];rfl
     have kp:∀y c,c<h1.n->c≠p9->(h4.put p9 y).get c=h1.get c:=λy c hc Wp=>by rw[ZX Wp,k4 c hc]
     match acc,le,RA,ou4,TT with
     |[],_,RA,ou,TT =>
      have wo:h4.X4 p9 0 [.int .i64 b.m1.1,.int .i64 b.m1.2]=some (h4.put p9 (.cells (Vl [b.m1]) 40 false)):=by rw[ZF ou (by simp[Vl])];rfl
      have hv:XJ G x y w ref (i+1)=[b.m1]:=by rw[RA];simp
      simp[Wx,TS,i4,Ar,Yu,rx,Vn,ry,e0,a1,RD,nw,zw,rd,Rf,I3,HJ,RC,e2,e9,TT,q1,q2,q3,Aq,wm1,rv,wo,zi,-Int.natCast_add];exact next hv (by rw[H.ZJ];omega) (kp _) (ZV (H.ZW ou)) (by simp) (by simp[e0]) (by simp[e2]) (by simp[e6]) (by simp[e9]) (by simp[Yu]) (by simp[Vn]) (by simp;rfl) (by simp)
     |[a0],_,RA,ou,TT =>
      have r9:h4.Ze p9 0 2=some [.int .i64 a0.1,.int .i64 a0.2]:=by rw[ZU ou (by simp[Vl])];rfl
      by_cases ce:b.m1=a0
      .have hv:XJ G x y w ref (i+1)=[a0]:=by rw[RA];simp[ce]
       have tB:b.m1.1=a0.1/\b.m1.2=a0.2:=by rw[ce];exact⟨rfl,rfl⟩
       simp[Wx,TS,i4,Ar,Yu,rx,Vn,ry,e0,a1,RD,nw,zw,rd,Rf,I3,HJ,RC,e2,e9,TT,q1,q2,q3,Aq,wm1,rv,r9,eq_true tB.1,eq_true tB.2,zi,-Int.natCast_add];exact next hv (by omega) (λc hc _=>k4 c hc) ou (by simp) (by simp[e0]) (by simp[e2]) (by simp[e6]) (by simp[e9]) (by simp[Yu]) (by simp[Vn]) (by simp[TT]) (by simp)
      .have tB:¬(b.m1.1=a0.1/\b.m1.2=a0.2):=λh=>ce (Prod.ext h.1 h.2)
       have hv:XJ G x y w ref (i+1)=[a0,b.m1]:=by rw[RA];simp[ce]
       have wo:h4.X4 p9 2 [.int .i64 b.m1.1,.int .i64 b.m1.2]=some (h4.put p9 (.cells (Vl [a0,b.m1]) 40 false)):=by rw[ZF ou (by simp[Vl])];rfl
       simp[Wx,TS,i4,Ar,Yu,rx,Vn,ry,e0,a1,RD,nw,zw,rd,Rf,I3,HJ,RC,e2,e9,TT,q1,q2,q3,Aq,wm1,rv,r9,tB,wo,zi,-Int.natCast_add];exact next hv (by rw[H.ZJ];omega) (kp _) (ZV (H.ZW ou)) (by simp) (by simp[e0]) (by simp[e2]) (by simp[e6]) (by simp[e9]) (by simp[Yu]) (by simp[Vn]) (by simp;rfl) (by simp)
     |[a0,c1],_,RA,ou,TT =>
      have hv:XJ G x y w ref (i+1)=[a0,c1]:=by rw[RA];simp
      simp[Wx,TS,i4,Ar,Yu,rx,Vn,ry,e0,a1,RD,nw,zw,rd,Rf,I3,HJ,RC,e2,e9,TT,q1,q2,q3,Aq,wm1,rv,zi,-Int.natCast_add];exact next hv (by omega) (λc hc _=>k4 c hc) ou (by simp) (by simp[e0]) (by simp[e2]) (by simp[e6]) (by simp[e9]) (by simp[Yu]) (by simp[Vn]) (by simp[TT]) (by simp)
end Go.Proofs.YtbkmdnmncaakdaaGreat
set_option linter.unusedVariables false
set_option linter.unusedSimpArgs false
set_option maxRecDepth 20000
namespace Go.Proofs.YtbkmdnmncaakdaaGreat
open Go Go.Zf
open Go.Zf (ZS)
variable{D:Nat->Prop}{h:H}{g:Nat}{G:Gr}{b:Bk}{ref:Int}
theorem Mu(a:YY D h g G)(ig:PV G b)(hr:0<=ref/\ref<=2):
  RT (λr h'=>r=.Zt [.agg [.int .i64 (Zz G b ref).1.1.1,.int .i64 (Zz G b ref).1.1.2,.int .i64 (Zz G b ref).1.2.1,.int .i64 (Zz G b ref).1.2.2],.int .i64 ((Zz G b ref).2:Nat),.int .i64 0]/\Ext h h')
   (KW 157 [.ptr g 0,.agg [.int .i64 b.x,.int .i64 b.y,.int .i64 b.w,.int .i64 b.h],.int .i64 ref] h):=by
 obtain⟨Z4,hZ4⟩:∃z:List V,z=[.int .i64 0,.int .i64 0,.int .i64 0,.int .i64 0]:=⟨_,rfl⟩
 obtain⟨h1,ZL⟩:∃z,z=h.new (.cells [.int .i64 b.x,.int .i64 b.y,.int .i64 b.w,.int .i64 b.h] 36 false):=⟨_,rfl⟩
 obtain⟨h2,Zq⟩:∃z,z=h1.new (.cells [.int .i64 0,.int .i64 0,.int .i64 0,.int .i64 0] 40 false):=⟨_,rfl⟩
 obtain⟨h3,Zc⟩:∃z,z=h2.new (.cells [.int .i64 0,.int .i64 0,.int .i64 0,.int .i64 0] 40 false):=⟨_,rfl⟩
 have n1:h1.n=h.n+1:=by rw[ZL,H.ZP]
 have n2:h2.n=h1.n+1:=by rw[Zq,H.ZP]
 have n3:h3.n=h2.n+1:=by rw[Zc,H.ZP]
 have x3:Ext h h3:=by rw[Zc,Zq,ZL];exact (((Ext.refl h).new _).new _).new _
 have g1:h3.get h.n=some (.cells [.int .i64 b.x,.int .i64 b.y,.int .i64 b.w,.int .i64 b.h] 36 false):=by rw[Zc,ZR (by omega),Zq,ZR (by omega),ZL,ZY]
 have g6:h3.get h1.n=some (.cells [.int .i64 0,.int .i64 0,.int .i64 0,.int .i64 0] 40 false):=by rw[Zc,ZR (by omega),Zq,ZY]
 have g9:h3.get h2.n=some (.cells [.int .i64 0,.int .i64 0,.int .i64 0,.int .i64 0] 40 false):=by rw[Zc,ZY]
 have r0:=ZZ (o:=0) g1;have r1:=ZZ (o:=1) g1;have r2:=ZZ (o:=2) g1;obtain⟨px1,iH,px3,py1,iG,py3⟩:=ig.pl;have sw:=ig.sh.2.2.1;have bw:8<=b.w/\b.w<=64/\b.w%8=0:=by unfold X6 at sw;omega
 have t1:=Uf px1 px3;have t2:=Uf py1 py3;have t3:=Uf (show 0<=b.w by omega) bw.2.2;have PX:=MA (a.ext x3) b.x b.y;simp only[ig.i1,decide_true]at PX;have z1:IntKind.i64.wrap (b.x-1)=b.x-1:=ZS (by omega) (by omega);have z2:IntKind.i64.wrap (b.y-1)=b.y-1:=ZS (by omega) (by omega);have z3:IntKind.i64.wrap (b.x+b.w)=b.x+b.w:=ZS (by omega) (by omega);obtain⟨h4,Xs⟩:∃z,z=h3.new (.cells [.int .i64 (b.x-1),.int .i64 b.x,.int .i64 (b.x+b.w),.int .i64 (b.x-1)] 3 false):=⟨_,rfl⟩
 obtain⟨h5,Vv⟩:∃z,z=h4.new (.cells [.int .i64 b.y,.int .i64 (b.y-1),.int .i64 (b.y-1),.int .i64 (b.y-1)] 3 false):=⟨_,rfl⟩
 have n4:h4.n=h3.n+1:=by rw[Xs,H.ZP]
 have n5:h5.n=h4.n+1:=by rw[Vv,H.ZP]
 have df:h4.get h.n=_:=(by rw[Xs,ZR (by omega)]:h4.get h.n=h3.get h.n).trans g1;have q0:=ZZ (o:=0) df;have q1:=ZZ (o:=1) df;have x5:Ext h h5:=by rw[Vv,Xs];exact (x3.new _).new _
 have gx:h5.get h3.n=some (.cells [.int .i64 (b.x-1),.int .i64 b.x,.int .i64 (b.x+b.w),.int .i64 (b.x-1)] 3 false):=by rw[Vv,ZR (by omega),Xs,ZY]
 have gy:h5.get h4.n=some (.cells [.int .i64 b.y,.int .i64 (b.y-1),.int .i64 (b.y-1),.int .i64 (b.y-1)] 3 false):=by rw[Vv,ZY]
 have g95:h5.get h2.n=_:=(by rw[Vv,ZR (by omega),Xs,ZR (by omega)]:h5.get h2.n=h3.get h2.n).trans g9;have g65:h5.get h1.n=_:=(by rw[Vv,ZR (by omega),Xs,ZR (by omega)]:h5.get h1.n=h3.get h1.n).trans g6;have l8:¬b.w<8:=by omega
 have l64:¬64<b.w:=by omega
 have lr0:¬ref<0:=by omega
 have lr2:¬2<ref:=by omega
 rw[W3 Wqb,fB];simp[bx,nw,<-ZL,<-Zq,<-Zc,r0,r1,r2,t1,t2,t3,PX,l8,l64,lr0,lr2,z1,z2,z3,<-Xs,q0,q1,<-Vv];refine XV (C:=λo=>RT _ (fin Tryz.prog _ _ (sq (Y9 0 o) _))) _ _ (tD (a.ext x5) (p6:=h1.n) (p9:=h2.n) ⟨λhd=>by have:=a.hD _ hd;omega,by omega⟩ (x:=b.x) (y:=b.y) (w:=b.w) (ref:=ref) ⟨by omega,gx⟩ ⟨by omega,gy⟩) 4
  ⟨Nat.le_refl _,Nat.le_refl _,λ_ _ _=>rfl,g95,by simp[XJ],by simp,by simp,by simp,by simp,by simp,by simp,by simp[XJ],by simp⟩ ?_
 rintro⟨sx,se,sh⟩ ⟨s1,sn,kZ,ou,le,e0,e2,e6,e9,Yu,Vn,TT,TS⟩;simp only at s1 sn kZ ou e6 e9 TT;subst s1;obtain⟨l,hl⟩:∃l,l=XJ G b.x b.y b.w ref 4:=⟨_,rfl⟩
 rw[<-hl]at ou TT;have rn:sh.Ze h2.n 0 4=some (Vl l):=by rw[ZU ou (by simp[Vl])];rfl
 have s6:sh.get h1.n=_:=(kZ _ (by omega) (by omega)).trans g65;have w6:sh.X4 h1.n 0 (Vl l)=some (sh.put h1.n (.cells (Vl l) 40 false)):=by rw[ZF s6 (by simp[Vl])];rfl
 have r6:(sh.put h1.n (.cells (Vl l) 40 false)).Ze h1.n 0 4=some (Vl l):=by rw[ZU (ZV (H.ZW s6)) (by simp[Vl])];rfl
 have Oo:Zz G b ref=((l.getD 0 (0,0),l.getD 1 (0,0)),l.length):=by rw[hl];rfl
 have hcs:(V.agg (Vl l)).cells=some (Vl l):=by simp[V.cells,Vl,V.Zr]
 rw[Oo];simp[e9,rn,e6,w6,r6,TT,hcs,show (Vl l).length=4 from rfl];refine⟨rfl,⟨by rw[H.ZJ];omega,λc hc=>?_⟩⟩;rw[ZX (by omega),kZ c (by omega) (by omega),x5.get c hc]
end Go.Proofs.YtbkmdnmncaakdaaGreat
set_option linter.unusedVariables false
set_option linter.unusedSimpArgs false
set_option maxRecDepth 20000
namespace Go.Proofs.YtbkmdnmncaakdaaGreat
open Go Go.Zf
open Go.Zf (ZS)
theorem X0(n:Int)(h:H):KW 128 [.int .i64 n] h=some (.ret (.bool (decide (X6 n))),h):=by
 have e:decide (X6 n)=(decide (n=8)||(decide (n=16)||(decide (n=32)||decide (n=64)))):=by
  rw[Bool.eq_iff_iff];simp only[decide_eq_true_eq,Bool.or_eq_true];exact Iff.rfl
 rw[W1 WqY,iA,e];by_cases c1:n=8
 .simp[c1]
 .by_cases c2:n=16
  .simp[c2]
  .by_cases c3:n=32
   .simp[c3]
   .simp[c1,c2,c3]
theorem ZB(n a b:Int)(h:H):KW 116 [.int .i64 n,.int .i64 a,.int .i64 b] h=some (.ret (.bool (decide (a<=n/\n<=b))),h):=by
 rw[W3 WqX,iz];by_cases c:a<=n<;>simp[c]
theorem X8(n:Int)(h:H):KW 130 [.int .i64 n] h=some (.ret (.bool (decide (1<=n/\n<=8))),h):=by
 rw[W1 WqW,iu];by_cases c:1<=n<;>simp[c]
theorem IZ(v:Vc)(h:H):RT (λw h'=>w=.bool (decide (Y5 v))/\Ext h h') (KW 129 [IY v] h):=by
 rw[W1 WqV,im];by_cases c : -4095<=v.1/\v.1<=4095
 .have e:decide (Y5 v)=decide (-4095<=v.2/\v.2<=4095):=by rw[decide_eq_decide];exact⟨λh=>⟨h.2.2.1,h.2.2.2⟩,λh=>⟨c.1,c.2,h.1,h.2⟩⟩
  simp[bx,ZB,c,e];exact⟨rfl,(Ext.refl h).new _⟩
 .have e:decide (Y5 v)=false:=by rw[decide_eq_false_iff_not];exact λh=>c ⟨h.1,h.2.1⟩
  simp[bx,ZB,c,e];exact⟨rfl,(Ext.refl h).new _⟩
theorem ON(b:Bk)(h:H):RT (λw h'=>w=.bool (decide (YR b))/\Ext h h') (KW 74 [b.v] h):=by
 obtain⟨h1,ZL⟩:∃z,z=h.new (.cells b.cs 42 false):=⟨_,rfl⟩
 have x1:Ext h h1:=by rw[ZL];exact (Ext.refl h).new _
 have rd:∀o,h1.Zp h.n o=b.cs[o]?:=λo=>ZZ (by rw[ZL,ZY]);have e:decide (YR b)=(decide (0<=b.x)&&(decide (b.x<=248)&&(decide (b.x.tmod 8=0)&&(decide (0<=b.y)&&(decide (b.y<=248)&&(decide (b.y.tmod 8=0)&&(decide (X6 b.w)&&(decide (X6 b.h)&&(decide (b.w<=4*b.h)&&decide (b.h<=4*b.w)))))))))):=by
  rw[Bool.eq_iff_iff];simp only[decide_eq_true_eq,Bool.and_eq_true];have m1:=Tn b.w b.h;have m2:=Fw b.w b.h;constructor
  .rintro⟨⟨p1,p2,p3⟩,⟨p4,p5,p6⟩,p7,p8,p9⟩
   exact⟨p1,p2,Uf p1 p3,p4,p5,Uf p4 p6,p7,p8,by unfold X6 at p7 p8;omega,by unfold X6 at p7 p8;omega⟩
  .rintro⟨p1,p2,p3,p4,p5,p6,p7,p8,p9,Kh⟩
   rw[Int.tmod_eq_emod_of_nonneg p1]at p3;rw[Int.tmod_eq_emod_of_nonneg p4]at p6;exact⟨⟨p1,p2,p3⟩,⟨p4,p5,p6⟩,p7,p8,by unfold X6 at p7 p8;omega⟩
 rw[e,W1 r74,s74];by_cases c1:0<=b.x;rotate_left
 .simp[bx,<-ZL,rd,X0,c1]
  exact⟨rfl,x1⟩
 by_cases c2:b.x<=248;rotate_left
 .simp[bx,<-ZL,rd,X0,c1,c2]
  exact⟨rfl,x1⟩
 by_cases c3:b.x.tmod 8=0;rotate_left
 .simp[bx,<-ZL,rd,X0,c1,c2,c3]
  exact⟨rfl,x1⟩
 by_cases c4:0<=b.y;rotate_left
 .simp[bx,<-ZL,rd,X0,c1,c2,c3,c4]
  exact⟨rfl,x1⟩
 by_cases c5:b.y<=248;rotate_left
 .simp[bx,<-ZL,rd,X0,c1,c2,c3,c4,c5]
  exact⟨rfl,x1⟩
 by_cases c6:b.y.tmod 8=0;rotate_left
 .simp[bx,<-ZL,rd,X0,c1,c2,c3,c4,c5,c6]
  exact⟨rfl,x1⟩
 by_cases c7:X6 b.w;rotate_left
 .simp[bx,<-ZL,rd,X0,c1,c2,c3,c4,c5,c6,c7]
  exact⟨rfl,x1⟩
 by_cases c8:X6 b.h;rotate_left
 .simp[bx,<-ZL,rd,X0,c1,c2,c3,c4,c5,c6,c7,c8]
  exact⟨rfl,x1⟩
 have z1:IntKind.i64.wrap (4*b.h)=4*b.h:=by have:=c8;unfold X6 at this;exact ZS (by omega) (by omega)
 have z2:IntKind.i64.wrap (4*b.w)=4*b.w:=by have:=c7;unfold X6 at this;exact ZS (by omega) (by omega)
 by_cases c9:b.w<=4*b.h;rotate_left
 .simp[bx,<-ZL,rd,X0,z1,z2,c1,c2,c3,c4,c5,c6,c7,c8,c9]
  exact⟨rfl,x1⟩
 by_cases kA:b.h<=4*b.w;rotate_left
 .simp[bx,<-ZL,rd,X0,z1,z2,c1,c2,c3,c4,c5,c6,c7,c8,c9,kA]
  exact⟨rfl,x1⟩
 simp[bx,<-ZL,rd,X0,z1,z2,c1,c2,c3,c4,c5,c6,c7,c8,c9,kA];exact⟨rfl,x1⟩
end Go.Proofs.YtbkmdnmncaakdaaGreat
set_option linter.unusedVariables false
set_option linter.unusedSimpArgs false
set_option maxRecDepth 20000
namespace Go.Proofs.YtbkmdnmncaakdaaGreat
open Go Go.Zf
open Go.Zf (ZS)
variable{b:Bk}
theorem lJ(sh:YR b)(ll:Bool)(h:H):RT (λw h'=>w=.bool (decide (VY ll b))/\Ext h h') (KW 75 [b.v,.bool ll] h):=by
 obtain⟨h1,ZL⟩:∃z,z=h.new (.cells b.cs 42 false):=⟨_,rfl⟩
 have x1:Ext h h1:=by rw[ZL];exact (Ext.refl h).new _
 have rd:∀o,h1.Zp h.n o=b.cs[o]?:=λo=>ZZ (by rw[ZL,ZY]);obtain⟨n,n3,n6,hm,_⟩:=sh.min;have mb:(Xg b.w b.h=8\/Xg b.w b.h=16\/Xg b.w b.h=32\/Xg b.w b.h=64):=by
  rw[hm];rcases (by omega:n=3\/n=4\/n=5\/n=6)with rfl|rfl|rfl|rfl<;>decide
 obtain⟨m,M5⟩:∃m,m=Xg b.w b.h:=⟨_,rfl⟩
 have q2:IntKind.i64.wrap (m.tdiv 2)=m/2:=by rw[Int.tdiv_eq_ediv_of_nonneg (by omega)];exact ZS (by omega) (by omega)
 have q4:IntKind.i64.wrap (m.tdiv 4)=m/4:=by rw[Int.tdiv_eq_ediv_of_nonneg (by omega)];exact ZS (by omega) (by omega)
 rw[W2 r75,s75];rw[<-M5]at mb;have KH:(if b.h<b.w then b.h else b.w)=m:=M5.symm;have e:decide (VY ll b)=(if ll then decide (b.tx=4)else (decide (b.tx=m)||(!(b.skip&&b.inter)&&(decide (b.tx=m/2)||(decide (16<=m)&&decide (b.tx=m/4)))))):=by
  rw[Bool.eq_iff_iff];unfold VY;cases ll with
  |true=>simp
  |false =>
   by_cases c:b.skip=true/\b.inter=true
   .simp[c.1,c.2,M5]
   .have c':(!(b.skip&&b.inter))=true:=by cases h1:b.skip<;>cases h2:b.inter<;>simp_all
    rw[c'];simp only[decide_eq_true_eq,Bool.false_eq_true,if_false,if_neg c,<-M5,Bool.true_and,Bool.or_eq_true,Bool.and_eq_true];omega
 rw[e];cases ll with
 |true=>simp[bx,<-ZL,rd,KH];exact⟨rfl,x1⟩
 |false =>
  by_cases c1:b.tx=m
  .simp[bx,<-ZL,rd,KH,c1];exact⟨rfl,x1⟩
  .cases k1:b.skip with
   |true =>
    cases k2:b.inter with
    |true=>simp[bx,<-ZL,rd,KH,c1,k1,k2];exact⟨rfl,x1⟩
    |false =>
     by_cases c3:b.tx=m/2
     .simp[bx,<-ZL,rd,KH,eq_false c1,k1,k2,q2,eq_true c3];exact⟨rfl,x1⟩
     .by_cases c4:16<=m
      .simp[bx,<-ZL,rd,KH,c1,k1,k2,q2,q4,c3,c4];exact⟨rfl,x1⟩
      .simp[bx,<-ZL,rd,KH,c1,k1,k2,q2,q4,c3,c4];exact⟨rfl,x1⟩
   |false =>
    by_cases c3:b.tx=m/2
    .simp[bx,<-ZL,rd,KH,eq_false c1,k1,q2,eq_true c3];exact⟨rfl,x1⟩
    .by_cases c4:16<=m
     .simp[bx,<-ZL,rd,KH,c1,k1,q2,q4,c3,c4];exact⟨rfl,x1⟩
     .simp[bx,<-ZL,rd,KH,c1,k1,q2,q4,c3,c4];exact⟨rfl,x1⟩
theorem wx(hi:b.inter=true)(h:H):RT (λw h'=>w=.bool (decide (XD b))/\Ext h h') (KW 76 [b.v] h):=by
 obtain⟨h1,ZL⟩:∃z,z=h.new (.cells b.cs 42 false):=⟨_,rfl⟩
 have x1:Ext h h1:=by rw[ZL];exact (Ext.refl h).new _
 have g1:h1.get h.n=some (.cells b.cs 42 false):=by rw[ZL,ZY]
 have rd:∀o,h1.Zp h.n o=b.cs[o]?:=λo=>ZZ g1;have I3:h1.Ze h.n 17 2=some [.int .i64 b.m0.1,.int .i64 b.m0.2]:=by rw[ZU g1 (by simp)];rfl
 obtain⟨_,h2,a2,rfl,y2⟩:=(IZ b.m0 h1).elim;have g2:h2.get h.n=_:=(y2.get _ (H.ZW g1)).trans g1;have QU:∀o,h2.Zp h.n o=b.cs[o]?:=λo=>ZZ g2;have Aq:h2.Ze h.n 19 2=some [.int .i64 b.m1.1,.int .i64 b.m1.2]:=by rw[ZU g2 (by simp)];rfl
 obtain⟨_,h3,a3,rfl,y3⟩:=(IZ b.m1 h2).elim;have g3:h3.get h.n=_:=(y3.get _ (H.ZW g2)).trans g2;have RC:∀o,h3.Zp h.n o=b.cs[o]?:=λo=>ZZ g3;have dz:h3.Ze h.n 19 2=some [.int .i64 b.m1.1,.int .i64 b.m1.2]:=by rw[ZU g3 (by simp)];rfl
 have x2:=x1.trans y2;have x3:=x2.trans y3;have e:decide (XD b)=((decide (b.ym=0)&&(decide (b.yd=0)&&(decide (b.um=0)&&(decide (b.ud=0)&&(decide (b.cu=0)&&(decide (b.cv=0)&&(decide (0<=b.r0/\b.r0<=2)&&(decide (0<=b.r1/\b.r1<=2)&&(decide (0<=b.mm/\b.mm<=3)&&(decide (Y5 b.m0)&&(decide (Y5 b.m1)&&decide (0<=b.fl/\b.fl<=2))))))))))))&&(if b.comp then !b.ob else (decide (b.r1=0)&&decide (b.m1=(0,0))))):=by
  rw[Bool.eq_iff_iff];unfold XD X9;simp only[decide_eq_true_eq,Bool.and_eq_true,hi,true_and];cases hc:b.comp with
  |true =>
   simp only[if_true,Bool.not_eq_true'];constructor
   .rintro⟨⟨q1,q2,q3,q4,q5,q6⟩,q7,q8,q9,DM,tC,uJ,iE⟩
    exact⟨⟨q1,q2,q3,q4,q5,q6,q7,tC,q8,q9,uJ,DM⟩,iE⟩
   .rintro⟨⟨q1,q2,q3,q4,q5,q6,q7,tC,q8,q9,uJ,DM⟩,iE⟩
    exact⟨⟨q1,q2,q3,q4,q5,q6⟩,q7,q8,q9,DM,tC,uJ,iE⟩
  |false =>
   simp only[Bool.false_eq_true,if_false,decide_eq_true_eq,Bool.and_eq_true];constructor
   .rintro⟨⟨q1,q2,q3,q4,q5,q6⟩,q7,q8,q9,DM,tC,uJ⟩
    exact⟨⟨q1,q2,q3,q4,q5,q6,q7,by omega,q8,q9,by rw[uJ];decide,DM⟩,tC,uJ⟩
   .rintro⟨⟨q1,q2,q3,q4,q5,q6,q7,_,q8,q9,_,DM⟩,tC,uJ⟩
    exact⟨⟨q1,q2,q3,q4,q5,q6⟩,q7,q8,q9,DM,tC,uJ⟩
 rw[e,W1 r76,s76];by_cases c1:b.ym=0;rotate_left
 .simp[bx,<-ZL,rd,ZB,c1]
  exact⟨rfl,x1⟩
 by_cases c2:b.yd=0;rotate_left
 .simp[bx,<-ZL,rd,ZB,c1,c2]
  exact⟨rfl,x1⟩
 by_cases c3:b.um=0;rotate_left
 .simp[bx,<-ZL,rd,ZB,c1,c2,c3]
  exact⟨rfl,x1⟩
 by_cases c4:b.ud=0;rotate_left
 .simp[bx,<-ZL,rd,ZB,c1,c2,c3,c4]
  exact⟨rfl,x1⟩
 by_cases c5:b.cu=0;rotate_left
 .simp[bx,<-ZL,rd,ZB,c1,c2,c3,c4,c5]
  exact⟨rfl,x1⟩
 by_cases c6:b.cv=0;rotate_left
 .simp[bx,<-ZL,rd,ZB,c1,c2,c3,c4,c5,c6]
  exact⟨rfl,x1⟩
 by_cases c7:0<=b.r0/\b.r0<=2;rotate_left
 .simp[bx,<-ZL,rd,ZB,c1,c2,c3,c4,c5,c6,c7]
  exact⟨rfl,x1⟩
 by_cases c8:0<=b.r1/\b.r1<=2;rotate_left
 .simp[bx,<-ZL,rd,ZB,c1,c2,c3,c4,c5,c6,c7,c8]
  exact⟨rfl,x1⟩
 by_cases c9:0<=b.mm/\b.mm<=3;rotate_left
 .simp[bx,<-ZL,rd,ZB,c1,c2,c3,c4,c5,c6,c7,c8,c9]
  exact⟨rfl,x1⟩
 by_cases d1:Y5 b.m0;rotate_left
 .simp[bx,<-ZL,rd,ZB,I3,a2,QU,c1,c2,c3,c4,c5,c6,c7,c8,c9,d1]
  exact⟨rfl,x2⟩
 by_cases d2:Y5 b.m1;rotate_left
 .simp[bx,<-ZL,rd,ZB,I3,a2,QU,Aq,a3,RC,c1,c2,c3,c4,c5,c6,c7,c8,c9,d1,d2]
  exact⟨rfl,x3⟩
 by_cases d3:0<=b.fl/\b.fl<=2;rotate_left
 .simp[bx,<-ZL,rd,ZB,I3,a2,QU,Aq,a3,RC,c1,c2,c3,c4,c5,c6,c7,c8,c9,d1,d2,d3]
  exact⟨rfl,x3⟩
 cases hc:b.comp with
 |true =>
  simp[bx,<-ZL,rd,ZB,I3,a2,QU,Aq,a3,RC,hc,c1,c2,c3,c4,c5,c6,c7,c8,c9,d1,d2,d3];exact⟨rfl,x3⟩
 |false =>
  by_cases r1:b.r1=0
  .simp[bx,<-ZL,rd,ZB,I3,a2,QU,Aq,a3,RC,dz,hc,r1,c1,c2,c3,c4,c5,c6,c7,c8,c9,d1,d2,d3]
   exact⟨by simp[Prod.ext_iff],x3⟩
  .simp[bx,<-ZL,rd,ZB,I3,a2,QU,Aq,a3,RC,hc,r1,c1,c2,c3,c4,c5,c6,c7,c8,c9,d1,d2,d3]
   exact⟨rfl,x3⟩
end Go.Proofs.YtbkmdnmncaakdaaGreat
set_option linter.unusedVariables false
set_option linter.unusedSimpArgs false
set_option maxRecDepth 20000
namespace Go.Proofs.YtbkmdnmncaakdaaGreat
open Go Go.Zf
open Go.Zf (ZS)
theorem VR(a b c d a' b' c' d':Int):VO [.i .i64,.i .i64,.i .i64,.i .i64] .neq (.agg [.int .i64 a,.int .i64 b,.int .i64 c,.int .i64 d]) (.agg [.int .i64 a',.int .i64 b',.int .i64 c',.int .i64 d'])=some (.bool (!decide (a=a'/\b=b'/\c=c'/\d=d'))):=by
 simp[VO,Yr,Ky,WX,ui,Bool.and_assoc];rfl
variable{b:Bk}
theorem wC(hi:b.inter=false)(h:H):RT (λw h'=>w=.bool (decide (Xc b))/\Ext h h') (KW 77 [b.v] h):=by
 obtain⟨h1,ZL⟩:∃z,z=h.new (.cells b.cs 42 false):=⟨_,rfl⟩
 have x1:Ext h h1:=by rw[ZL];exact (Ext.refl h).new _
 have g1:h1.get h.n=some (.cells b.cs 42 false):=by rw[ZL,ZY]
 have rd:∀o,h1.Zp h.n o=b.cs[o]?:=λo=>ZZ g1;have rr:h1.Ze h.n 14 2=some [.int .i64 b.r0,.int .i64 b.r1]:=by rw[ZU g1 (by simp)];rfl
 have rm:h1.Ze h.n 17 4=some [.int .i64 b.m0.1,.int .i64 b.m0.2,.int .i64 b.m1.1,.int .i64 b.m1.2]:=by rw[ZU g1 (by simp)];rfl
 have e:decide (Xc b)=((decide (b.comp=false)&&(decide (b.r0=0/\b.r1=0)&&(decide (b.mm=0)&&(decide (b.m0.1=0/\b.m0.2=0/\b.m1.1=0/\b.m1.2=0)&&(decide (b.fl=0)&&(decide (b.ob=false)&&(decide (0<=b.ym/\b.ym<=12)&&(decide (0<=b.um/\b.um<=13)&&(decide (-3<=b.yd/\b.yd<=3)&&(decide (-3<=b.ud/\b.ud<=3)&&(decide ((1<=b.ym/\b.ym<=8)\/b.yd=0)&&decide ((1<=b.um/\b.um<=8)\/b.ud=0))))))))))))&&(if b.um=13 then ((decide (b.w<=32)&&(decide (b.h<=32)&&(decide (-16<=b.cu/\b.cu<=16)&&decide (-16<=b.cv/\b.cv<=16))))&&(decide (b.cu≠0)||decide (b.cv≠0)))else (decide (b.cu=0)&&decide (b.cv=0)))):=by
  rw[Bool.eq_iff_iff];unfold Xc XX S3;have m1:=Tn b.w b.h;simp only[decide_eq_true_eq,Bool.and_eq_true,hi,true_and];by_cases Tq:b.um=13
  .rw[if_pos Tq,if_pos Tq]
   simp only[decide_eq_true_eq,Bool.and_eq_true,Bool.or_eq_true];constructor
   .rintro⟨⟨q1,q2,q3,q4,q5,q6,q7,q8⟩,p1,p2,p3,p4,p5,p6,p7,p8⟩
    exact⟨⟨q1,⟨q2,q3⟩,q4,⟨by rw[q5],by rw[q5],by rw[q6],by rw[q6]⟩,q7,q8,p1,p2,by omega,by omega,by omega,by omega⟩,⟨by omega,by omega,p7,p8⟩,by omega⟩
   .rintro⟨⟨q1,⟨q2,q3⟩,q4,⟨v1,v2,v3,v4⟩,q7,q8,p1,p2,p3,p4,p5,p6⟩,⟨r1,r2,r3,r4⟩,r5⟩
    exact⟨⟨q1,q2,q3,q4,Prod.ext v1 v2,Prod.ext v3 v4,q7,q8⟩,p1,p2,by omega,by omega,by omega,by omega,r3,r4⟩
  .rw[if_neg Tq,if_neg Tq]
   simp only[decide_eq_true_eq,Bool.and_eq_true];constructor
   .rintro⟨⟨q1,q2,q3,q4,q5,q6,q7,q8⟩,p1,p2,p3,p4,p5,p6⟩
    exact⟨⟨q1,⟨q2,q3⟩,q4,⟨by rw[q5],by rw[q5],by rw[q6],by rw[q6]⟩,q7,q8,p1,p2,by omega,by omega,by omega,by omega⟩,p5,p6⟩
   .rintro⟨⟨q1,⟨q2,q3⟩,q4,⟨v1,v2,v3,v4⟩,q7,q8,p1,p2,p3,p4,p5,p6⟩,r1,r2⟩
    exact⟨⟨q1,q2,q3,q4,Prod.ext v1 v2,Prod.ext v3 v4,q7,q8⟩,p1,p2,by omega,by omega,r1,r2⟩
 rw[e,W1 r77,s77];by_cases c1:b.comp=false;rotate_left
 .simp[bx,<-ZL,rd,ZB,X8,rr,rm,VR,c1]
  exact⟨rfl,x1⟩
 by_cases c2:b.r0=0/\b.r1=0;rotate_left
 .simp[bx,<-ZL,rd,ZB,X8,rr,rm,VR,c1,c2]
  exact⟨rfl,x1⟩
 by_cases c3:b.mm=0;rotate_left
 .simp[bx,<-ZL,rd,ZB,X8,rr,rm,VR,c1,c2,c3]
  exact⟨rfl,x1⟩
 by_cases c4:b.m0.1=0/\b.m0.2=0/\b.m1.1=0/\b.m1.2=0;rotate_left
 .simp[bx,<-ZL,rd,ZB,X8,rr,rm,VR,c1,c2,c3,c4]
  exact⟨rfl,x1⟩
 by_cases c5:b.fl=0;rotate_left
 .simp[bx,<-ZL,rd,ZB,X8,rr,rm,VR,c1,c2,c3,c4,c5]
  exact⟨rfl,x1⟩
 by_cases c6:b.ob=false;rotate_left
 .simp[bx,<-ZL,rd,ZB,X8,rr,rm,VR,c1,c2,c3,c4,c5,c6]
  exact⟨rfl,x1⟩
 by_cases c7:0<=b.ym/\b.ym<=12;rotate_left
 .simp[bx,<-ZL,rd,ZB,X8,rr,rm,VR,c1,c2,c3,c4,c5,c6,c7]
  exact⟨rfl,x1⟩
 by_cases c8:0<=b.um/\b.um<=13;rotate_left
 .simp[bx,<-ZL,rd,ZB,X8,rr,rm,VR,c1,c2,c3,c4,c5,c6,c7,c8]
  exact⟨rfl,x1⟩
 by_cases c9 : -3<=b.yd/\b.yd<=3;rotate_left
 .simp[bx,<-ZL,rd,ZB,X8,rr,rm,VR,c1,c2,c3,c4,c5,c6,c7,c8,c9]
  exact⟨rfl,x1⟩
 by_cases d1 : -3<=b.ud/\b.ud<=3;rotate_left
 .simp[bx,<-ZL,rd,ZB,X8,rr,rm,VR,c1,c2,c3,c4,c5,c6,c7,c8,c9,d1]
  exact⟨rfl,x1⟩
 obtain⟨R,hR⟩:∃R,R=(if b.um=13 then ((decide (b.w<=32)&&(decide (b.h<=32)&&(decide (-16<=b.cu/\b.cu<=16)&&decide (-16<=b.cv/\b.cv<=16))))&&(decide (b.cu≠0)||decide (b.cv≠0)))else (decide (b.cu=0)&&decide (b.cv=0))):=⟨_,rfl⟩
 rw[<-hR];obtain⟨A,hA⟩:∃A:Prop,A=(((1<=b.ym/\b.ym<=8)\/b.yd=0)/\((1<=b.um/\b.um<=8)\/b.ud=0)):=⟨_,rfl⟩
 obtain⟨Q,hQ⟩:∃Q:V->H->Prop,Q=λw h'=>w=.bool ((decide (b.comp=false)&&(decide (b.r0=0/\b.r1=0)&&(decide (b.mm=0)&&(decide (b.m0.1=0/\b.m0.2=0/\b.m1.1=0/\b.m1.2=0)&&(decide (b.fl=0)&&(decide (b.ob=false)&&(decide (0<=b.ym/\b.ym<=12)&&(decide (0<=b.um/\b.um<=13)&&(decide (-3<=b.yd/\b.yd<=3)&&(decide (-3<=b.ud/\b.ud<=3)&&(decide ((1<=b.ym/\b.ym<=8)\/b.yd=0)&&decide ((1<=b.um/\b.um<=8)\/b.ud=0))))))))))))&&R)/\Ext h h':=⟨_,rfl⟩
 rw[<-hQ];have no:¬A->Q (.bool false) h1:=λh=>by
  rw[hQ];refine⟨?_,x1⟩;rw[hA,Classical.not_and_iff_not_or_not]at h;rcases h with h|h<;>simp only[eq_false h,decide_false,Bool.and_false,Bool.false_and]
 have yes:A->Q (.bool R) h1:=λh=>by
  rw[hQ];refine⟨?_,x1⟩;rw[hA]at h;simp only[eq_true c1,eq_true c2,eq_true c3,eq_true c4,eq_true c5,eq_true c6,eq_true c7,eq_true c8,eq_true c9,eq_true d1,eq_true h.1,eq_true h.2,decide_true,Bool.true_and]
 clear hQ;simp[bx,<-ZL,rd,ZB,rr,rm,VR,c1,c2,c3,c4,c5,c6,c7,c8,c9,d1];refine wy (C:=λo=>RT Q (Zf.fin Tryz.prog _ _ o)) (λe g=>g=h1/\e.s [0,1,2] 1=.ptr h.n 0/\A) (λe g=>e.s [0,1,2] 2=.bool false/\g=h1/\¬A) ?_ ?_ ?_
 .rw[hA]
  by_cases p1:1<=b.ym/\b.ym<=8
  .by_cases p2:1<=b.um/\b.um<=8
   .simp[X8,rd,Ef,p1,p2]
   .by_cases z2:b.ud=0<;>simp[X8,rd,Ef,p1,p2,z2]
  .by_cases z1:b.yd=0
   .by_cases p2:1<=b.um/\b.um<=8
    .simp[X8,rd,Ef,p1,p2,z1]
    .by_cases z2:b.ud=0<;>simp[X8,rd,Ef,p1,p2,z1,z2]
   .simp[X8,rd,Ef,p1,z1]
 .rintro e g ⟨rfl,e1,a⟩
  have yes:=yes a;rw[hR]at yes;by_cases Tq:b.um=13
  .rw[if_pos Tq]at yes
   by_cases r1:b.w<=32
   .by_cases r2:b.h<=32
    .by_cases r3 : -16<=b.cu/\b.cu<=16
     .by_cases r4 : -16<=b.cv/\b.cv<=16
      .by_cases r5:b.cu=0
       .simp[e1,rd,ZB,Tq,r1,r2,r3,r4,r5]at yes ⊢
        exact yes
       .simp[e1,rd,ZB,Tq,r1,r2,r3,r4,r5]at yes ⊢
        exact yes
      .simp[e1,rd,ZB,Tq,r1,r2,r3,r4]at yes ⊢
       exact yes
     .simp[e1,rd,ZB,Tq,r1,r2,r3]at yes ⊢
      exact yes
    .simp[e1,rd,ZB,Tq,r1,r2]at yes ⊢
     exact yes
   .simp[e1,rd,ZB,Tq,r1]at yes ⊢
    exact yes
  .rw[if_neg Tq]at yes
   by_cases r5:b.cu=0
   .simp[e1,rd,ZB,Tq,r5]at yes ⊢
    exact yes
   .simp[e1,rd,ZB,Tq,r5]at yes ⊢
    exact yes
 .rintro e g ⟨e2,rfl,a⟩
  have no:=no a;simp[e2];exact no
theorem Jr(b:Bk)(key ll:Bool)(h:H):RT (λw h'=>w=.int .i64 (if WE key ll b then 0 else 2)/\Ext h h') (KW 25 [b.v,.bool key,.bool ll] h):=by
 obtain⟨h1,ZL⟩:∃z,z=h.new (.cells b.cs 42 false):=⟨_,rfl⟩
 have x1:Ext h h1:=by rw[ZL];exact (Ext.refl h).new _
 have g1:h1.get h.n=some (.cells b.cs 42 false):=by rw[ZL,ZY]
 have LH:h1.Ze h.n 0 23=some b.cs:=by rw[ZU g1 (by simp)];rfl
 obtain⟨_,h2,a2,rfl,y2⟩:=(ON b h1).elim;have x2:=x1.trans y2;have g2:h2.get h.n=_:=(y2.get _ (H.ZW g1)).trans g1;have QU:∀o,h2.Zp h.n o=b.cs[o]?:=λo=>ZZ g2;have Ql:h2.Ze h.n 0 23=some b.cs:=by rw[ZU g2 (by simp)];rfl
 rw[W3 r25,s25];by_cases c1:YR b;rotate_left
 .have e:(if WE key ll b then (0:Int)else 2)=2:=if_neg λm=>c1 m.1
  rw[e];simp[bx,<-ZL,LH,a2,c1];exact⟨rfl,x2⟩
 by_cases c2:b.inter=true/\key=true
 .have e:(if WE key ll b then (0:Int)else 2)=2:=if_neg λm=>m.2.1 c2
  rw[e];simp[bx,<-ZL,LH,a2,c1,QU,c2.1,c2.2];exact⟨rfl,x2⟩
 have jB:(key&&b.inter)=false:=by cases key<;>cases hb:b.inter<;>simp_all
 obtain⟨_,h3,a3,rfl,y3⟩:=(lJ c1 ll h2).elim;have x3:=x2.trans y3;have g3:h3.get h.n=_:=(y3.get _ (H.ZW g2)).trans g2;have RC:∀o,h3.Zp h.n o=b.cs[o]?:=λo=>ZZ g3;have rR:h3.Ze h.n 0 23=some b.cs:=by rw[ZU g3 (by simp)];rfl
 by_cases c3:VY ll b;rotate_left
 .have e:(if WE key ll b then (0:Int)else 2)=2:=if_neg λm=>c3 m.2.2.1
  cases hk:key with
  |true =>
   have hb:b.inter=false:=by rw[hk]at jB;exact jB
   rw[hk]at e;rw[e];simp[bx,<-ZL,LH,a2,c1,QU,hb,Ql,a3,c3];exact⟨rfl,x3⟩
  |false =>
   rw[hk]at e;rw[e];simp[bx,<-ZL,LH,a2,c1,QU,Ql,a3,c3];exact⟨rfl,x3⟩
 cases hi:b.inter with
 |true =>
  have hk:key=false:=by rw[hi,Bool.and_true]at jB;exact jB
  obtain⟨_,h4,a4,rfl,y4⟩:=(wx hi h3).elim;have g4:h4.get h.n=_:=(y4.get _ (H.ZW g3)).trans g3;have SB:∀o,h4.Zp h.n o=b.cs[o]?:=λo=>ZZ g4;have x4:=x3.trans y4;have e:(if WE key ll b then (0:Int)else 2)=if XD b then 0 else 2:=ite_congr (propext (by unfold WE;rw[hi,if_pos rfl];simp[c1,c3,hk])) (λ_=>rfl) λ_=>rfl;rw[e,hk];by_cases c4:XD b
  .simp[bx,<-ZL,LH,a2,c1,QU,Ql,a3,c3,RC,hi,rR,a4,c4,SB]
   exact⟨rfl,x4⟩
  .simp[bx,<-ZL,LH,a2,c1,QU,Ql,a3,c3,RC,hi,rR,a4,c4,SB]
   exact⟨rfl,x4⟩
 |false =>
  obtain⟨_,h4,a4,rfl,y4⟩:=(wC hi h3).elim;have x4:=x3.trans y4;have e:(if WE key ll b then (0:Int)else 2)=if Xc b then 0 else 2:=ite_congr (propext (by unfold WE;rw[hi,if_neg (by decide)];simp[c1,c3])) (λ_=>rfl) λ_=>rfl;rw[e];by_cases c4:Xc b
  .cases hk:key<;>simp[bx,<-ZL,LH,a2,c1,QU,Ql,a3,c3,RC,hi,rR,a4,c4]<;>exact⟨rfl,x4⟩
  .cases hk:key<;>simp[bx,<-ZL,LH,a2,c1,QU,Ql,a3,c3,RC,hi,rR,a4,c4]<;>exact⟨rfl,x4⟩
end Go.Proofs.YtbkmdnmncaakdaaGreat
