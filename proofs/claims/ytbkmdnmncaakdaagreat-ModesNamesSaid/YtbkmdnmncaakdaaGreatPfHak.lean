import Derived.Test.YtbkmdnmncaakdaaGreatPfHaj
set_option linter.unusedVariables false
set_option linter.unusedSimpArgs false
set_option maxRecDepth 20000
namespace Go.Proofs.YtbkmdnmncaakdaaGreat
open Go Go.Zf
open Go.Zf (ZS)
def LAt(p:Nat)(h:H)(v:V)(L:List Dq):Prop:=Zv p h v 44 26 (L.flatMap Dq.cs) L.length\/∃b,v=.sl b 0 2 (.ex 2)/\h.get b=some (.cells (L.flatMap Dq.cs) 44 false)/\L.length=2/\p<=b
variable{h:H}{v:V}{L:List Dq}
theorem LAt.dos{p:Nat}(a:LAt p h v L):MD h v L:=by
 rcases a with a|⟨c,rfl,h2,h3,_⟩
 .exact BqT a
 .refine⟨by rw[h3];rfl,λi d hd=>?_⟩
  have hi:i<L.length:=by
   rcases Nat.lt_or_ge i L.length with h|h
   .exact h
   .rw[List.getElem?_eq_none h]at hd;cases hd
  refine⟨c,i*26,by simp;omega,?_⟩;rw[ZU h2 (by rw[(SX L).1];omega),(SX L).2 _ _ hd]
variable{hP:H}
theorem LAt.push(x:Ext hP h)(a:LAt hP.n h v L)(d:Dq)(hn:L.length<1000):∃v' h',Vk 44 26 200 (h.new (.cells d.cs 44 false)) v (.sl h.n 0 1 (.ex 1))=some (v',h')/\Ext hP h'/\LAt hP.n h' v' (L++[d]):=by
 have m:=x.n;rcases a with a|⟨b,rfl,h2,h3,h4⟩
 .obtain⟨v',h',e,gv',rG,k4,_⟩:=Vq (bytes:=200) (a.ext ((Ext.refl h).new (.cells d.cs 44 false))) (by rw[H.ZP];omega) (y:=.sl h.n 0 1 (.ex 1)) (m:=1) (new:=d.cs) rfl (Ic ZY rfl) rfl (by omega)
  rw[H.ZP]at rG;exact⟨v',h',e,⟨by omega,λc hc=>by rw[k4 c (by rw[H.ZP];omega) (a.fresh.ne hc),ZR (by omega),x.get c hc]⟩,.inl (by simpa [List.flatMap_append]using gv')⟩
 .have hb:(h.new (.cells d.cs 44 false)).get b=_:=(ZR (H.ZW h2)).trans h2
  have hl:(L.flatMap Dq.cs).length=52:=by rw[(SX L).1,h3]
  obtain⟨h1,ZL⟩:∃z,z=h.new (.cells d.cs 44 false):=⟨_,rfl⟩
  have hf:XY h1 26 1 (.sl h.n 0 1 (.ex 1))=some d.cs:=by rw[ZL];exact Ic ZY rfl
  have n1:h1.n=h.n+1:=by rw[ZL,H.ZP]
  rw[<-ZL]at hb ⊢;refine⟨.sl h1.n 0 3 (.op 26),h1.new (.cells ((L++[d]).flatMap Dq.cs) 44 false),?_,⟨by rw[H.ZP];omega,λc hc=>by rw[ZR (by omega),ZL,ZR (by omega),x.get c hc]⟩,.inl (.inr ⟨h1.n,by simp[h3],ZY,by rw[(SX _).1],by omega⟩)⟩;simp[Vk,lenOf,hf,Iu,ZU (o:=0) (n:=52) hb (by omega),List.take_of_length_le,hl]
theorem ah(b:Bk):bl dqZ.cs [(some (0,23),.agg b.cs)]=some (.agg (⟨b,false,0,0⟩:Dq).cs):=id rfl
theorem wqF(b:Bk)(s k:Int):bl dqZ.cs [(some (0,23),.agg b.cs),(some (23,1),.bool true),(some (24,1),.int .i64 s),(some (25,1),.int .i64 k)]=some (.agg (⟨b,true,s,k⟩:Dq).cs):=id rfl
theorem wqE(s k:Int):bl dqZ.cs [(some (23,1),.bool true),(some (24,1),.int .i64 s),(some (25,1),.int .i64 k)]=some (.agg (⟨YC,true,s,k⟩:Dq).cs):=id rfl
theorem wqD(x:Int):bl YC.cs [(some (0,1),.int .i64 x)]=some (.agg ({YC with x:=x}:Bk).cs):=id rfl
theorem BqU(h:H)(d:Dq):bs h 44 1 dqZ.cs [(some (0,26),.agg d.cs)]=some (.sl h.n 0 1 (.ex 1),h.new (.cells d.cs 44 false)):=id rfl
theorem kqc{z:List V}(hz:z.length=52)(a b:Dq):bs h 44 2 z [(some (0,26),.agg a.cs),(some (26,26),.agg b.cs)]=some (.sl h.n 0 2 (.ex 2),h.new (.cells ([a,b].flatMap Dq.cs) 44 false)):=by
 simp[bs,YD,V.cells,splice,hz];rw[List.drop_eq_nil_of_le (by simp[hz]),List.append_nil]
abbrev K6:List Nat:=[0,1,3,5,6,7,8,9,10,11,12,13,14,15,16,17,18,19,20]
structure I6(hP:H)(p5 p6 n:Nat)(e:E)(h:H):Prop where
 x:Ext hP h
 e5:e.s K6 5=.ptr p5 0
 e6:e.s K6 6=.ptr p6 0
 l:∃L,LAt hP.n h (e.s K6 15) L/\L.length<=n/\∀d∈L,Vw d.b.x/\Vw d.b.y
variable{p5 p6:Nat}
theorem yqB:∀k e h,(k<=40/\I6 hP p5 p6 (42-k) e h/\e.s K6 16=.int .i64 (40-k:Nat))->LS (λk e h=>k<=40/\I6 hP p5 p6 (42-k) e h/\e.s K6 16=.int .i64 (40-k:Nat)) (λs=>s.x=.ex 0/\I6 hP p5 p6 42 s.e s.h) k (kf KW ZI e h):=by
 rintro k e h ⟨hk,⟨x,e5,e6,L,lv,hl,hI⟩,e16⟩;obtain⟨i,hi⟩:∃i,i=40-k:=⟨_,rfl⟩
 rw[<-hi]at e16;by_cases c:i<40
 .obtain⟨_,h1,a1,⟨b,rfl,ix,iy⟩,x1⟩:=(Lm h i c).elim
  obtain⟨v,hv⟩:∃v,v=e.s K6 15:=⟨_,rfl⟩
  rw[<-hv]at lv;have lv1:LAt hP.n h1 v L:=lv.imp (·.ext x1) λ⟨b,q1,q2,q3⟩=>⟨b,q1,(x1.get _ (H.ZW q2)).trans q2,q3⟩
  obtain⟨v',h',e',x',l'⟩:=lv1.push (x.trans x1) ⟨b,false,0,0⟩ (by omega);have z2:IntKind.i64.wrap ((i:Int)+1)=((i+1:Nat):Int):=by rw[ZS (by omega) (by omega)];omega
  simp[kf,e16,c,show (i:Int)<40 by omega,a1,ah,BqU,<-hv,e',z2,-Int.natCast_add];refine⟨k-1,by omega,by omega,⟨x',by simp[e5],by simp[e6],_,by simpa using l',by simp;omega,λd hd=>?_⟩,by simp;omega⟩;rcases List.mem_append.1 hd with hd|hd
  .exact hI d hd
  .simp at hd;subst hd;exact⟨ix,iy⟩
 .simp[kf,e16,show ¬(i:Int)<40 by omega]
  exact⟨rfl,x,by simp[e5],by simp[e6],L,by simpa using lv,by omega,hI⟩
theorem wqC(i:Nat)(hi:i<12):∃r s q y z:Int,(ZQ 0 .rem (.int .i64 (i:Nat)) (.int .i64 4)=some (.int .i64 r)/\ZQ 0 .shr (.int .i64 64) (.int .i64 r)=some (.int .i64 s)/\ZQ 0 .quo (.int .i64 (i:Nat)) (.int .i64 11)=some (.int .i64 q)/\ZQ 0 .mul (.int .i64 64) (.int .i64 q)=some (.int .i64 y)/\ZQ 0 .sub (.int .i64 (i:Nat)) (.int .i64 1)=some (.int .i64 z))/\Vw y:=by
 refine⟨(i%4:Nat),64/2^(i%4),(i/11:Nat),64*(i/11:Nat),(i:Int)-1,?_⟩;have hm:=List.mem_range.2 hi;simp only[List.range,List.range.loop,List.mem_cons,List.not_mem_nil,or_false]at hm
 repeat' (rcases hm with rfl|hm)
 all_goals try subst hm
 all_goals exact⟨⟨rfl,rfl,rfl,rfl,rfl⟩,by decide⟩
theorem yqA:∀k e h,(k<=12/\I6 hP p5 p6 (66-2*k) e h/\e.s K6 17=.int .i64 (12-k:Nat))->LS (λk e h=>k<=12/\I6 hP p5 p6 (66-2*k) e h/\e.s K6 17=.int .i64 (12-k:Nat)) (λs=>s.x=.ex 2/\I6 hP p5 p6 66 s.e s.h) k (iO KW ZI e h):=by
 rintro k e h ⟨hk,⟨x,e5,e6,L,lv,hl,hI⟩,EG⟩;obtain⟨i,hi⟩:∃i,i=12-k:=⟨_,rfl⟩
 rw[<-hi]at EG;by_cases c:i<12
 .obtain⟨r,s,q,y,z,⟨f1,f2,f3,f4,f5⟩,iy⟩:=wqC i c
  obtain⟨v,hv⟩:∃v,v=e.s K6 15:=⟨_,rfl⟩
  rw[<-hv]at lv;obtain⟨v',h',e',x',l'⟩:=lv.push x ⟨{YC with x:=y},true,s,(i:Nat)⟩ (by omega);obtain⟨v2,h2,e2,x2,l2⟩:=l'.push x' ⟨YC,true,s,z⟩ (by simp;omega);have z2:ZQ 0 .add (.int .i64 (i:Nat)) (.int .i64 1)=some (.int .i64 ((i+1:Nat):Int)):=by rw[bU,ZS (by omega) (by omega)];rfl
  simp[iO,EG,show (i:Int)<12 by omega,f1,f2,f3,f4,f5,-bN,-XZ,-bP,-bQ,-bS,-bU,wqD,wqF,wqE,BqU,<-hv,e',e2,z2,-Int.natCast_add];refine⟨k-1,by omega,by omega,⟨x2,by simp[e5],by simp[e6],_,by simpa using l2,by simp;omega,λd hd=>?_⟩,by simp;omega⟩;simp at hd;rcases hd with hd|rfl|rfl
  .exact hI d hd
  .exact⟨iy,show Vw 0 by decide⟩
  .exact⟨show Vw 0 by decide,show Vw 0 by decide⟩
 .simp[iO,EG,show ¬(i:Int)<12 by omega]
  exact⟨rfl,x,by simp[e5],by simp[e6],L,by simpa using lv,by omega,hI⟩
end Go.Proofs.YtbkmdnmncaakdaaGreat
