import Derived.Test.YtbajipmhnoakeaaGreatPnHd
set_option linter.unusedVariables false
set_option linter.unusedSimpArgs false
set_option maxRecDepth 20000
namespace Go.Proofs.YtbajipmhnoakeaaGreat
open Go Go.Zf
open Go.Zf (wi64)
noncomputable def rest12a (K:Oracle) (L:Looper) (e:E) (h:H):Out :=
 sq (bd (binK 0 .eql (e.s k12 38) (.int .i64 1)) fun t246 =>
 some ⟨.nm,ux12 e 246 t246,h⟩) fun e h =>
 br (e.s k12 246) (bd (iaS 1 (e.s k12 15) (e.s k12 37)) fun t251 =>
 bd (ld h t251) fun t252 =>
 bd (unV .neg t252) fun t253 =>
 bd (iaS 1 (e.s k12 15) (e.s k12 37)) fun t254 =>
 bf (stZ 1 h t254 t253) fun _ h1 =>
 some ⟨.nm,ux12 e 0 (e.s k12 0),h1⟩)
 (some ⟨.nm,e,h⟩)
noncomputable def rest12b (K:Oracle) (L:Looper) (e:E) (h:H):Out :=
 bd (binK 0 .add (e.s k12 36) (.int .i64 1)) fun t212 =>
 some ⟨.nm,(ux12 e 36 t212).st 26 t212,h⟩
noncomputable def l12_2h (K:Oracle) (L:Looper) (e:E) (h:H):Out :=
 sq (sq (bd (binK 0 .lss (e.s k12 36) (e.s k12 18)) fun t210 =>
 some ⟨.nm,ux12 e 210 t210,h⟩) fun e h =>
 br (e.s k12 210) (some ⟨.nm,e,h⟩)
 (some ⟨.ex 4,e,h⟩)) fun e h =>
 sq (blk 5 (sq (bd (iaS 1 (e.s k12 13) (e.s k12 36)) fun t215 =>
 bd (ld h t215) fun t216 =>
 some ⟨.nm,(ux12 e 37 t216).st 27 t216,h⟩) fun e h =>
 sq (sq (bd (iaS 1 (e.s k12 15) (e.s k12 37)) fun t219 =>
 bd (ld h t219) fun t220 =>
 bd (binK 0 .eql t220 (.int .i64 0)) fun t221 =>
 some ⟨.nm,ux12 e 221 t221,h⟩) fun e h =>
 br (e.s k12 221) (some ⟨.ex 5,e,h⟩)
 (some ⟨.nm,e,h⟩)) fun e h =>
 sq (some ⟨.nm,(ux12 e 38 (.int .i64 0)).st 28 (.int .i64 0),h⟩) fun e h =>
 sq (sq (bd (iaS 1 (e.s k12 17) (e.s k12 37)) fun t224 =>
 bd (ld h t224) fun t225 =>
 bd (binK 0 .lss t225 (.int .i64 0)) fun t226 =>
 some ⟨.nm,ux12 e 226 t226,h⟩) fun e h =>
 br (e.s k12 226) (some ⟨.nm,(ux12 e 38 (.int .i64 1)).st 28 (.int .i64 1),h⟩)
 (some ⟨.nm,e,h⟩)) fun e h =>
 sq (sq (bd (binK 0 .eql (e.s k12 37) (.int .i64 0)) fun t228 =>
 some ⟨.nm,ux12 e 228 t228,h⟩) fun e h =>
 br (e.s k12 228) (bd (binK 0 .mul (.int .i64 3) (e.s k12 16)) fun t232 =>
 bd (binK 0 .add t232 (e.s k12 3)) fun t234 =>
 bc k12 [230,231,232,233,234,235,236,229,237,238,38] e (K 48 [(e.s k12 0),(.int .i64 30),t234,(e.s k12 38)] h) fun t236 h1 =>
 bd (exV t236 0) fun t237 =>
 bd (exV t236 1) fun t238 =>
 some ⟨.nm,(ux12 e 38 t237).st 28 t237,h1⟩)
 (bc k12 [240,241,242,239,243,244,38] e (K 51 [(e.s k12 0),(.int .i64 1),(e.s k12 38)] h) fun t242 h1 =>
 bd (exV t242 0) fun t243 =>
 bd (exV t242 1) fun t244 =>
 some ⟨.nm,(ux12 e 38 t243).st 28 t243,h1⟩)) fun e h=>rest12a K L e h)) (rest12b K L)
theorem l12_2eq:l12_2=l12_2h:=by kernel_rfl
section cd
variable {D0:Nat→Prop} {h0 h h':H} {c L m:Nat} {vo vs:V} {B:BD} {st:St} {lv:List Int}
structure I12c (D0:Nat→Prop) (h0:H) (c L:Nat) (vo vs:V) (B:BD) (en M:Nat) (R:Option (List Int) × St) (j:Nat) (e:E) (g:H):Prop where
  hj:j≤en
  ex:∃ lv st,RC D0 h0 c L B g (M - j) st lv∧(sgsP B ((B.ord.take en).drop (en - j)) lv).exec st=R
  k:K0 c L vo vs B e
  e18:e.s K12 18=.int .i64 (en:Nat)
  e36:e.s K12 36=.int .i64 ((en - j:Nat):Int)
structure O12c (D0:Nat→Prop) (h0:H) (c L:Nat) (vo vs:V) (B:BD) (M:Nat) (R:Option (List Int) × St) (s:Go.Zf.St):Prop where
  ex:∃ lv,RC D0 h0 c L B s.h M R.2 lv∧s.x=.ex 4∧R.1=some lv∧K0 c L vo vs B s.e
theorem loop12_2 (S:BR D0 h0 L vo vs B) {en M:Nat} {R:Option (List Int) × St} (hen:en≤B.n*B.n) (hM:M < 100000000) (hM2:en≤M) {e:E} {g:H} {o:Out} (ho:loopZ (l12_2 KW loopZ) e g=o) (hi:I12c D0 h0 c L vo vs B en M R en e g) :
   ∃ s,o=some s∧O12c D0 h0 c L vo vs B M R s:=by
  have hnn:=S.nn
  have hol:(B.ord.take en).length=en:=by rw [List.length_take,S.ordl];omega
  have loop:=loop_run (body:=l12_2 KW loopZ) (I12c D0 h0 c L vo vs B en M R) (O12c D0 h0 c L vo vs B M R) (fun j e g hi=>by
   obtain ⟨hj,⟨lv,st,C,hR⟩,⟨e0,e1,e3,e13,e15,e16,e17⟩,e18,e36⟩:=hi
   cases j with
   | zero =>
    rw [Nat.sub_zero] at e36
    rw [Nat.sub_zero,List.drop_of_length_le (by omega)] at hR
    have hR:(some lv,st)=R:=hR
    subst hR
    simp [l12_2,e36,e18]
    exact ⟨lv,C,rfl,rfl,⟨by simp [e0],by simp [e1],by simp [e3],by simp [e13],by simp [e15],by simp [e16],by simp [e17]⟩⟩
   | succ j =>
    obtain ⟨i,hi⟩:∃ i,i=en - (j+1):=⟨_,rfl⟩
    rw [← hi] at e36 hR
    have hien:i < en:=by omega
    have hj1:en - j=i+1:=by omega
    obtain ⟨⟨b1,o1,t1,t2⟩,hat⟩:=C.o S (i:=i) (by omega)
    have hdrop:(B.ord.take en).drop i=B.ord.getD i 0 :: (B.ord.take en).drop (i+1):=by
     rw [List.drop_eq_getElem_cons (by omega)]
     congr 1
     simp [List.getD,show i < B.ord.length by rw [S.ordl];omega]
    rw [hdrop] at hR
    obtain ⟨at_,hat_⟩:∃ at_,at_=B.ord.getD i 0:=⟨_,rfl⟩
    rw [← hat_] at t2 hat hR
    have rl:=C.l.rd (i:=at_) (by rw [C.ll];exact hat)
    have lb:=C.l.bd at_
    obtain ⟨y,hy⟩:∃ y,y=lv.getD at_ 0:=⟨_,rfl⟩
    rw [← hy] at rl lb
    have hat64:(at_:Int) < ((B.n*B.n:Nat):Int):=by omega
    have zi:IntKind.i64.wrap ((i:Int)+1)=((i+1:Nat):Int):=by rw [wz (by omega) (by omega)];omega
    unfold sgsP at hR
    by_cases cy:y=0
    ·rw [if_pos (by rw [← hy];exact cy)] at hR
     rw [cy] at rl
     simp [l12_2,e36,e18,show (i:Int) < en by omega,hien,e13,t1,t2,e15,hat64,hat,rl,zi,-Int.natCast_add,-Int.natCast_mul]
     exact ⟨j,by omega,by omega,⟨lv,st,C.more (by omega) (by omega),by rw [hj1];exact hR⟩,⟨by simp [e0],by simp [e1],by simp [e3],by simp [e13],by simp [e15],by simp [e16],by simp [e17]⟩,by simp [e18],by simp [hj1]⟩
    ·rw [if_neg (by rw [← hy];exact cy),← hy] at hR
     obtain ⟨b,o,s1,s2⟩:=C.s S hat
     obtain ⟨sv,hsv⟩:∃ sv,sv=B.src.getD at_ 0:=⟨_,rfl⟩
     rw [← hsv] at s2
     obtain ⟨fl,hfl⟩:∃ fl:Nat,fl=if sv < 0 then 1 else 0:=⟨_,rfl⟩
     have hfl2:fl < 2:=by rw [hfl];split <;> omega
     have hfi:(if sv < 0 then (1:Int) else 0)=(fl:Int):=by rw [hfl];split <;> rfl
     have hcol:=S.colour
     have hsig:=S.sign
     have z1:IntKind.i64.wrap (3*(B.colour:Int))=3*(B.colour:Int):=wz (by omega) (by omega)
     have z2:IntKind.i64.wrap (3*(B.colour:Int)+B.sign)=((3*B.colour+B.sign:Nat):Int):=by rw [wz (by omega) (by omega)];omega
     have z3:IntKind.i64.wrap (-y) = -y:=wz (by omega) (by omega)
     unfold belowP at hR
     rw [← hsv,hfi] at hR
     -- behind the sign
     have last:∀ (en':E) (g1:H) (st1:St) (bl:Nat),RC D0 h0 c L B g1 (M - (j+1)+1) st1 lv→(sgsP B ((B.ord.take en).drop (i+1)) (if bl=1 then lv.set at_ (-y) else lv)).exec st1=R →
       K0 c L vo vs B en'→en'.s K12 18=.int .i64 (en:Nat)→en'.s K12 36=.int .i64 (i:Nat)→en'.s K12 37=.int .i64 (at_:Nat)→en'.s K12 38=.int .i64 (bl:Nat) →
       LS (I12c D0 h0 c L vo vs B en M R) (O12c D0 h0 c L vo vs B M R) (j+1) (sq (blk 5 (rest12a KW loopZ en' g1)) (rest12b KW loopZ)):=by
      intro en' g1 st1 bl C1 hR1 ⟨e0,e1,e3,e13,e15,e16,e17⟩ e18 e36 e37 e38
      obtain ⟨k1,C2⟩:=C1.set S (i:=at_) (v := -y) hat (by omega)
      have rl1:g1.rd1 L at_=some (.int .i64 y):=by rw [C1.l.rd (by rw [C1.ll];exact hat),hy]
      obtain ⟨g2,hg2⟩:∃ z,z=g1.put L (.cells (intsV (lv.set at_ (-y))) 3 false):=⟨_,rfl⟩
      rw [← hg2] at k1 C2
      by_cases cb:bl=1
      ·rw [if_pos cb] at hR1
       rw [cb] at e38
       simp [rest12a,rest12b,e38,e15,e37,hat64,hat,rl1,z3,k1,e36,zi,-Int.natCast_add,-Int.natCast_mul]
       exact ⟨j,by omega,by omega,⟨_,_,C2.more (by omega) (by omega),by rw [hj1];exact hR1⟩,⟨by simp [e0],by simp [e1],by simp [e3],by simp [e13],by simp [e15],by simp [e16],by simp [e17]⟩,by simp [e18],by simp [hj1]⟩
      ·rw [if_neg cb] at hR1
       simp [rest12a,rest12b,e38,show ¬ (bl:Int)=1 by omega,cb,e36,zi,-Int.natCast_add,-Int.natCast_mul]
       exact ⟨j,by omega,by omega,⟨_,_,C1.more (by omega) (by omega),by rw [hj1];exact hR1⟩,⟨by simp [e0],by simp [e1],by simp [e3],by simp [e13],by simp [e15],by simp [e16],by simp [e17]⟩,by simp [e18],by simp [hj1]⟩
     by_cases ca:at_=0
     ·rw [if_pos ca] at hR
      have hR:(sgsP B ((B.ord.take en).drop (i+1)) (if st.symV 30 (3*B.colour+B.sign) (fl:Int)=1 then lv.set at_ (-y) else lv)).exec (st.sym 30 (3*B.colour+B.sign) (fl:Int))=R:=hR
      obtain ⟨w,g1,a1,rfl,C1⟩:=(C.sym S (k:=30) (x:=3*B.colour+B.sign) (v:=(fl:Int)) (by omega) (by decide) (by show _ < 6;omega) ⟨by omega,by show (fl:Int) < 2;omega⟩).elim
      rw [show ((30:Nat):Int)=30 from rfl] at a1
      obtain ⟨bl,hbl⟩:∃ bl,bl=st.symV 30 (3*B.colour+B.sign) (fl:Int):=⟨_,rfl⟩
      rw [← hbl] at a1 hR
      have q:=fun en'=>last en' g1 _ bl C1 hR
      have ca':(at_:Int)=0:=by omega
      rw [l12_2eq]
      by_cases cs:sv < 0
      ·rw [if_pos cs] at hfl
       subst hfl
       rw [ca] at s1 rl hat64 hat
       have s1':iaS 1 vs (.int .i64 0)=some (.ptr b o):=s1
       have hat0:(0:Int) < ((B.n*B.n:Nat):Int):=hat64
       rw [show ((1:Nat):Int)=1 from rfl] at a1
       simp [l12_2h,e36,e18,show (i:Int) < en by omega,hien,e13,t1,t2,ca,e15,hat0,hat,rl,cy,e17,s1',s2,cs,e16,e3,z1,z2,e0,a1,-Int.natCast_add,-Int.natCast_mul]
       exact q _ ⟨by simp [e0],by simp [e1],by simp [e3],by simp [e13],by simp [e15],by simp [e16],by simp [e17]⟩ (by simp [e18]) (by simp [e36]) (by simp [ca]) (by simp)
      ·rw [if_neg cs] at hfl
       subst hfl
       rw [ca] at s1 rl hat64 hat
       have s1':iaS 1 vs (.int .i64 0)=some (.ptr b o):=s1
       have hat0:(0:Int) < ((B.n*B.n:Nat):Int):=hat64
       rw [show ((0:Nat):Int)=0 from rfl] at a1
       simp [l12_2h,e36,e18,show (i:Int) < en by omega,hien,e13,t1,t2,ca,e15,hat0,hat,rl,cy,e17,s1',s2,cs,e16,e3,z1,z2,e0,a1,-Int.natCast_add,-Int.natCast_mul]
       exact q _ ⟨by simp [e0],by simp [e1],by simp [e3],by simp [e13],by simp [e15],by simp [e16],by simp [e17]⟩ (by simp [e18]) (by simp [e36]) (by simp [ca]) (by simp)
     ·rw [if_neg ca] at hR
      have hR:(sgsP B ((B.ord.take en).drop (i+1)) (if st.numV 1 (fl:Int).toNat=1 then lv.set at_ (-y) else lv)).exec (st.num 1 (fl:Int).toNat)=R:=hR
      obtain ⟨w,g1,a1,rfl,C1⟩:=(C.num S (n:=1) (v:=(fl:Int)) (by omega) (by decide) (fun _=>by omega)).elim
      rw [show ((1:Nat):Int)=1 from rfl] at a1
      obtain ⟨bl,hbl⟩:∃ bl,bl=st.numV 1 (fl:Int).toNat:=⟨_,rfl⟩
      rw [← hbl] at a1 hR
      have q:=fun en'=>last en' g1 _ bl C1 hR
      rw [l12_2eq]
      by_cases cs:sv < 0
      ·rw [if_pos cs] at hfl
       subst hfl
       simp at a1
       simp [l12_2h,e36,e18,show (i:Int) < en by omega,hien,e13,t1,t2,ca,e15,hat64,hat,rl,cy,e17,s1,s2,cs,e0,a1,-Int.natCast_add,-Int.natCast_mul]
       exact q _ ⟨by simp [e0],by simp [e1],by simp [e3],by simp [e13],by simp [e15],by simp [e16],by simp [e17]⟩ (by simp [e18]) (by simp [e36]) (by simp) (by simp)
      ·rw [if_neg cs] at hfl
       subst hfl
       simp at a1
       simp [l12_2h,e36,e18,show (i:Int) < en by omega,hien,e13,t1,t2,ca,e15,hat64,hat,rl,cy,e17,s1,s2,cs,e0,a1,-Int.natCast_add,-Int.natCast_mul]
       exact q _ ⟨by simp [e0],by simp [e1],by simp [e3],by simp [e13],by simp [e15],by simp [e16],by simp [e17]⟩ (by simp [e18]) (by simp [e36]) (by simp) (by simp)) en e g hi
  obtain ⟨s,h1,h2⟩:=loop
  exact ⟨s,by rw [← ho,h1],h2⟩
end cd
end Go.Proofs.YtbajipmhnoakeaaGreat
