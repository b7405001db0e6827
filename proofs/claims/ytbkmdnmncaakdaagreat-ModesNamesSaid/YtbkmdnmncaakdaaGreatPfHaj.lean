import Derived.Test.YtbkmdnmncaakdaaGreatPfHai
set_option linter.unusedVariables false
set_option linter.unusedSimpArgs false
set_option maxRecDepth 20000
namespace Go.Proofs.YtbkmdnmncaakdaaGreat
open Go Go.Zf
open Go.Zf (ZS)
theorem wqK{h:H}{z A B:List V}(hz:z.length=46)(ha:A.length=23)(hb:B.length=23):bs h 42 2 z [(some (0,23),.agg A),(some (23,23),.agg B)]=some (.sl h.n 0 2 (.ex 2),h.new (.cells (A++B) 42 false)):=by
 simp[bs,YD,V.cells,splice,hz,ha,hb];rw[List.drop_eq_nil_of_le (by simp[hz,ha]),List.append_nil]
theorem wqw(b:Bk):splice YC.cs 0 b.cs=b.cs:=id rfl
variable{l:List V}
theorem wqJ{c:List V}{o:Nat}(h:o+l.length<=c.length):(splice c o l).length=c.length:=by
 simp[splice];omega
def wqI:List V->Bk
 |[.int _ a,.int _ b,.int _ c,.int _ d,.bool e,.bool f,.int _ g,.int _ i,.int _ j,.int _ k,.int _ l,.int _ m,.int _ n,.bool o,.int _ p,.int _ q,.int _ r,.int _ s,.int _ t,.int _ u,.int _ v,.int _ w,.bool x]=>⟨a,b,c,d,e,f,g,i,j,k,l,m,n,o,p,q,r,(s,t),(u,v),w,x⟩
 |_=>YC
theorem wqv(h:l=(wqI l).cs)(hx:Vw (wqI l).x)(hy:Vw (wqI l).y):∃b:Bk,.agg l=b.v/\Vw b.x/\Vw b.y:=⟨_,congrArg _ h,hx,hy⟩
set_option maxHeartbeats 4000000 in
theorem Lm(h:H)(i:Nat)(hi:i<40):RT (λw h'=>(∃b:Bk,w=b.v/\Vw b.x/\Vw b.y)/\Ext h h') (KW 32 [.int .i64 (i:Nat)] h):=by
 obtain⟨h1,ZL⟩:∃z,z=h.new (.cells YC.cs 42 false):=⟨_,rfl⟩
 have n1:h1.n=h.n+1:=by rw[ZL,H.ZP]
 have x1:Ext h h1:=by rw[ZL];exact (Ext.refl h).new _
 obtain⟨_,h2,a2,rfl,x2⟩:=(D7 h1).elim;have m2:=x2.n;obtain⟨h3,Zc⟩:∃z,z=h2.new (.cells YC.cs 42 false):=⟨_,rfl⟩
 have n3:h3.n=h2.n+1:=by rw[Zc,H.ZP]
 obtain⟨h4,Xs⟩:∃z,z=h3.new (.cells YC.cs 42 false):=⟨_,rfl⟩
 have n4:h4.n=h3.n+1:=by rw[Xs,H.ZP]
 have x4:Ext h h4:=by rw[Xs,Zc];exact (((x1.trans x2).new _).new _)
 have g1:h4.get h.n=some (.cells YC.cs 42 false):=by rw[Xs,ZR (by omega),Zc,ZR (by omega),x2.get _ (by omega),ZL,ZY]
 have g3:h4.get h2.n=some (.cells YC.cs 42 false):=by rw[Xs,ZR (by omega),Zc,ZY]
 have g4:h4.get h3.n=some (.cells YC.cs 42 false):=by rw[Xs,ZY]
 have e1:¬h3.n=h2.n:=by omega
 have e2:¬h2.n=h3.n:=by omega
 have e3:¬h.n=h2.n:=by omega
 have e4:¬h.n=h3.n:=by omega
 have c1:h2.n<h4.n:=by omega
 have c2:h3.n<h4.n:=by omega
 have c3:h.n<h4.n:=by omega
 rw[W1 r32,s32];have e5:¬h.n=h4.n:=by omega
 have m4:=x4.n;have hm:=List.mem_range.2 hi;simp only[List.range,List.range.loop,List.mem_cons,List.not_mem_nil,or_false]at hm
 repeat' (rcases hm with rfl|hm)
 all_goals try subst hm
 all_goals
  simp[nw,<-ZL,a2,<-Zc,<-Xs,H.WO,H.X4,H.Ze,H.WN,H.ZJ,g1,g3,g4,e1,e2,e3,e4,e5,c1,c2,c3,wqK,wqw,wqJ,show IntKind.i64.wrap 1=1 from rfl,show IntKind.i64.wrap 0=0 from rfl,show h.n<h4.n+1 by omega,H.Xo,H.ZP];refine⟨wqv (by kernel_rfl) (by decide +kernel) (by decide +kernel),by simp only[H.ZJ,H.ZP];omega,λc hc=>?_⟩;rw[<-x4.get c hc];simp[H.WN,H.Xo,H.ZJ,show ¬c=h.n by omega,show ¬c=h2.n by omega,show ¬c=h3.n by omega,show ¬c=h4.n by omega]
end Go.Proofs.YtbkmdnmncaakdaaGreat
