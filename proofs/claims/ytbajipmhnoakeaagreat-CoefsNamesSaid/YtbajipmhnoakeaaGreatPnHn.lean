import Derived.Test.YtbajipmhnoakeaaGreatPnHm
set_option linter.unusedVariables false
set_option linter.unusedSimpArgs false
set_option maxRecDepth 20000
namespace Go.Proofs.YtbajipmhnoakeaaGreat
open Go Go.Zf Go.RowKit Go.WideShapes
open Go.Zf (wi64)
theorem writes3_ok {h:H} {v:V} {ad:Bool} {l:List Dg} (A:SlA h 4 v l.length fun j p=>∀ x,l[j]?=some x→DoW h p x) :
  RT (fun w h'=>w=.bool true∧Ext h h') (KW 3 [v,.bool ad] h):=by
 obtain ⟨w,h2,a2,v2,rfl,W2,x2⟩:=(default27_ok h).elim
 obtain ⟨w,h3,a3,c,rfl,C3,x3⟩:=(writer12_ok W2.setR defS_ok ad).elim
 obtain ⟨w,h4,a4,v4,rfl,W4,x4⟩:=(default24_ok h3).elim
 obtain ⟨w,h5,a5,r,rfl,R5,x5⟩:=(writer13_ok W4.setR defS_ok ad).elim
 have m2:=x2.n
 have m3:=x3.n
 have m4:=x4.n
 have m5:=x5.n
 have X5:Ext h h5:=(x2.trans x3).trans (x4.trans x5)
 have P:P2 h h5 c r 0 (newW defS ad) (fun b=>h2.n≤b∧b < h3.n) (fun b=>h4.n≤b∧b < h5.n) :=
  ⟨(C3.mono fun b q1 q2=>⟨q2,q1⟩).ext (x4.trans x5),R5.mono fun b q1 q2=>⟨q2,q1⟩,fun b hb=>⟨by omega,by omega,by omega⟩,fun b hb=>⟨by omega,hb.2⟩⟩
 rw [w3,f3,s3]
 simp [a2,a3,a4,a5,gl_t]
 generalize ho:loopZ (l3_1 KW loopZ) _ _=o
 obtain ⟨⟨sx,se,sh⟩,rfl,hx,x6,⟨m,st,D,F,P6,hw,hm⟩,e5,e7⟩:=loopW3 (c:=c) (r:=r) A ho ⟨⟨Nat.le_refl _,by omega⟩,X5,⟨0,_,_,_,P,rfl,by omega⟩,by simp,by simp,by simp,by simp⟩
 simp only at hx x6 e5 e7 P6
 subst hx
 simp only [K3] at e5 e7
 obtain ⟨out,low,rng,hsd⟩:∃ out low rng,st.sd=.w out low rng:=by
  cases hs:st.sd with
  | w o l r=>exact ⟨_,_,_,rfl⟩
  | r o l r=>rw [hs] at hw;cases hw
 obtain ⟨w,g13,a13,vb,rfl,B13,x13⟩:=(bytes19_ok P6.C hsd).elim
 obtain ⟨w,g14,a14,vb2,rfl,B14,x14⟩:=(bytes20_ok (P6.R.ext x13) hsd).elim
 have P14:=(P6.ext x13).ext x14
 obtain ⟨v15,g15,g16,vr,g18,g19,b1,b2,b3,b4,b5,y1,y2,y3,y4,y5,y6,y7⟩:=sets_same P14
 have hbl:(bytes out low).length < 9223372036854775807:=by
  have so:=P6.C.ok.2.1
  rw [hsd] at so
  have h2:out.length≤3*m:=so.2.1
  have h3:=so.2.2
  rw [bytes_len]
  have:=trimN_le (emits 4 out low).1 (out.length+4)
  omega
 have a17:=eq15_ok (((B13.slb.keep x14.get).keep y2.get)).at ((B14.slb.keep y2.get)).at hbl
 have q16:=y3 g16 (Ext.refl _)
 have q18:=y3 g18 y6
 have q19:=y3 g19 (y6.trans y7)
 simp [e5,e7,a13,a14,b1,nw,b2,b3,a17,q16.1,q16.2,b4,b5,q18.1,q18.2,q19.1,q19.2,ck,V.same,V.sames,y4,y5]
 exact ⟨rfl,x6.trans ((x13.trans x14).trans y1)⟩
end Go.Proofs.YtbajipmhnoakeaaGreat
