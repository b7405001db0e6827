import Derived.Test.YtbajipmhnoakeaaGreatPnHh
set_option linter.unusedVariables false
set_option linter.unusedSimpArgs false
set_option maxRecDepth 20000
namespace Go.Proofs.YtbajipmhnoakeaaGreat
open Go Go.Zf Go.RowKit Go.WideShapes
open Go.Zf (wi64)
theorem sets_same {h1 g:H} {c r m:Nat} {st:St} {D F:Nat→Prop} (P:P2 h1 g c r m st D F):∃ v15 g15 g16 vr g18 g19,KW 19 [.ptr c 0] g=some (.ret (.tup [.agg [v15],.int .i64 0]),g15)∧V.cells v15=some [v15]∧(g15.new (.cells [.nils] 29 false)).wrN g15.n 0 [v15]=some g16 ∧
  KW 21 [.agg [v15],.agg [vr]] g16=some (.ret (.bool true),g18)∧KW 22 [] g18=some (.ret (.bool true),g19)∧Ext g g19∧Ext g g16 ∧
  (∀ x:H,Ext g16 x→x.rdN g15.n 0 1=some [v15]∧x.rdN r 2 1=some [vr])∧V.same v15 v15=true∧V.same vr vr=true∧Ext g16 g18∧Ext g18 g19:=by
 obtain ⟨w,g15,a15,v15,rfl,W15,x15⟩:=(set17_ok P.C).elim
 have hc15:V.cells v15=some [v15]:=by obtain ⟨_,k3,_⟩:=W15.setR;exact k3.cells
 obtain ⟨g16,hg16⟩:∃ z,z=(g15.new (.cells [.nils] 29 false)).put g15.n (.cells [v15] 29 false):=⟨_,rfl⟩
 have x16:Ext g15 g16:=by rw [hg16];exact ((Ext.refl g15).new _).put (Nat.le_refl _) _
 have r16:g16.get g15.n=some (.cells [v15] 29 false):=by rw [hg16,get_put_same (by rw [H.n_new];omega)]
 have hst16:(g15.new (.cells [.nils] 29 false)).wrN g15.n 0 [v15]=some g16:=by rw [wrN_of (o:=0) get_new_same (by simp),hg16];rfl
 obtain ⟨vr,s17,Wr17,_⟩:=((P.R.ext x15).ext x16).set
 obtain ⟨w,g18,a18,rfl,x18⟩:=(same15_ok (W15.setR.ext x16) Wr17.setR P.C.ok.1.small).elim
 obtain ⟨w,g19,a19,rfl,x19⟩:=(awake6_ok g18).elim
 have h15:V.same v15 v15=true:=by obtain ⟨_,k3,_⟩:=W15.setR;exact k3.same
 have hvr:V.same vr vr=true:=by obtain ⟨_,k3,_⟩:=Wr17.setR;exact k3.same
 refine ⟨v15,g15,g16,vr,g18,g19,a15,hc15,hst16,a18,a19,((x15.trans x16).trans x18).trans x19,x15.trans x16,fun x hx=>⟨?_,rdN_ext hx s17⟩,h15,hvr,x18,x19⟩
 rw [rdN_of (by rw [hx.get _ (H.get_lt r16)];exact r16) (by simp)];rfl
theorem reads4_ok {h:H} {bv v:V} {bs:List Nat} {l:List Dg} (sb:SlB h bv bs) (hbl:bs.length < 140737488355329) (hb:∀ x ∈ bs,x < 256) (A:SlA h 4 v l.length fun j p=>∀ x,l[j]?=some x→DoG h p x) :
  RT (fun w h'=>w=.bool true∧Ext h h') (KW 4 [bv,v] h):=by
 obtain ⟨w,h2,a2,v2,rfl,W2,x2⟩:=(default27_ok h).elim
 obtain ⟨w,h3,a3,c,rfl,C3,x3⟩:=(reader25_ok (sb.keep x2.get) hbl hb W2.setR defS_ok true).elim
 obtain ⟨w,h4,a4,v4,rfl,W4,x4⟩:=(default24_ok h3).elim
 obtain ⟨w,h5,a5,r,rfl,R5,x5⟩:=(reader26_ok ((sb.keep x2.get).keep ((x3.trans x4)).get) hbl hb W4.setR defS_ok true).elim
 have m2:=x2.n
 have m3:=x3.n
 have m4:=x4.n
 have m5:=x5.n
 have X5:Ext h h5:=(x2.trans x3).trans (x4.trans x5)
 have P:P2 h h5 c r 0 (newR bs defS true) (fun b=>h2.n≤b∧b < h3.n) (fun b=>h4.n≤b∧b < h5.n) :=
  ⟨(C3.mono fun b q1 q2=>⟨q2,q1⟩).ext (x4.trans x5),R5.mono fun b q1 q2=>⟨q2,q1⟩,fun b hb=>⟨by omega,by omega,by omega⟩,fun b hb=>⟨by omega,hb.2⟩⟩
 rw [w4,f4,s4]
 simp [a2,a3,a4,a5,gl_t]
 generalize ho:loopZ (l4_0 KW loopZ) _ _=o
 obtain ⟨⟨sx,se,sh⟩,rfl,hx,x6,⟨m,st,D,F,P6,hm⟩,e5,e7⟩:=loop4 (c:=c) (r:=r) A ho ⟨⟨Nat.le_refl _,by omega⟩,X5,⟨0,_,_,_,P,rfl,by omega⟩,by simp,by simp,by simp,by simp⟩
 simp only at hx x6 e5 e7 P6
 subst hx
 simp only [K4] at e5 e7
 obtain ⟨v15,g15,g16,vr,g18,g19,b1,b2,b3,b4,b5,y1,y2,y3,y4,y5,y6,y7⟩:=sets_same P6
 have q16:=y3 g16 (Ext.refl _)
 have q18:=y3 g18 y6
 have q19:=y3 g19 (y6.trans y7)
 simp [e5,e7,b1,nw,b2,b3,q16.1,q16.2,b4,b5,q18.1,q18.2,q19.1,q19.2,ck,V.same,V.sames,y4,y5]
 exact ⟨rfl,x6.trans y1⟩
end Go.Proofs.YtbajipmhnoakeaaGreat
