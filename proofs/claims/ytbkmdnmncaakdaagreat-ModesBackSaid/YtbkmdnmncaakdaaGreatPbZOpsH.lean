import Derived.Test.YtbkmdnmncaakdaaGreatPbZOpsL
import Derived.Laws.Append
import Derived.Laws.AppendOwn
import Derived.Laws.CopyRow
import Derived.MapKept
set_option linter.unusedVariables false
set_option linter.unusedSimpArgs false
namespace Go.Zf
variable {P:Program} {i:Inj} {h:H} {w:World}
theorem HRel.heap (hr:HRel i h w) {w':World} (e:w'.heap=w.heap):HRel i h w' where
 blk:=fun b x hb=>by
  have:=hr.blk b x hb
  cases x with
  | dead=>trivial
  | cells c e' ro=>simpa only [BlkRel,e] using this
  | map es=>simpa only [BlkRel,e] using this
 inj:=hr.inj
 bound:=fun b x hb=>by rw [e];exact hr.bound b x hb
def Inj.set (i:Inj) (b:Nat) (x:Ent):Inj:=fun c=>if c=b then some x else i c
theorem Inj.set_same {i:Inj} {b:Nat} {x:Ent}:i.set b x b=some x:=by simp [Inj.set]
theorem Inj.set_ne {i:Inj} {b c:Nat} {x:Ent} (h:c ≠ b):i.set b x c=i c:=by simp [Inj.set,h]
theorem Inj.le_set {i:Inj} {b:Nat} {x:Ent} (h:i b=none):i.le (i.set b x):=by
 intro c y hc
 by_cases e:c=b
 ·subst e;rw [h] at hc;cases hc
 ·rw [Inj.set_ne e];exact hc
theorem BlkRel.mono {i j:Inj} (hij:i.le j) {w w':World} {b:Nat} {x:Blk} (hb:BlkRel i w b x) (hw:∀ y,i b=some y→w'.heap[y.B]?=w.heap[y.B]?):BlkRel j w' b x:=by
 cases x with
 | dead=>trivial
 | cells c e ro =>
  obtain ⟨y,C,fr,h1,h2,h3,h4,h5,h6,h7⟩:=hb
  refine ⟨y,C,fr,hij _ _ h1,h2,by rw [hw y h1];exact h3,h4,h5,h6,fun k v hk=>?_⟩
  obtain ⟨a,u,b,c⟩:=h7 k v hk
  exact ⟨a,u,b,c.mono hij⟩
 | map es =>
  obtain ⟨y,E,clk,h1,h2,h3,h4,h5⟩:=hb
  exact ⟨y,E,clk,hij _ _ h1,h2,by rw [hw y h1];exact h3,h4.mono hij,h5.mono hij⟩
theorem HRel.allocB (hr:HRel i h w) (hn:i h.n=none) {X:Blk} {N:Nat} {o:Obj}
  {w':World} (hw:w'.heap=w.heap.push o) (ho:w'.os=w.os∧w'.tape=w.tape) (hu:w'.output=w.output) (hX:BlkRel (i.set h.n ⟨w.heap.size,0,N,false⟩) w' h.n X) :
  HRel (i.set h.n ⟨w.heap.size,0,N,false⟩) (h.new X) w' ∧
  Fr i h w (i.set h.n ⟨w.heap.size,0,N,false⟩) (h.new X) w':=by
 have hle:i.le (i.set h.n ⟨w.heap.size,0,N,false⟩):=Inj.le_set hn
 have hsz:w'.heap.size=w.heap.size+1:=by rw [hw];simp
 have hold:∀ B,B < w.heap.size→w'.heap[B]?=w.heap[B]?:=fun B hB=>by rw [hw,Array.getElem?_push,if_neg (Nat.ne_of_lt hB)]
 have hne:∀ b x,h.get b=some x→b ≠ h.n:=fun b x hb=>by have:=H.get_lt hb;omega
 refine ⟨⟨?_,?_,?_⟩,⟨?_,?_,?_,?_,?_,?_,ho,hu⟩⟩
 ·intro b x hb
  rw [H.get_new] at hb
  split at hb
  ·rename_i e'
   subst e'
   cases hb
   exact hX
  ·exact (hr.blk b x hb).mono hle fun y hy=>hold _ (hr.bound _ _ hy)
 ·intro b c' x y p q hb hc' hx hy hbc hp hq hown
  rw [H.get_new] at hb hc'
  split at hb
  ·rename_i e1
   split at hc'
   ·rename_i e2;exact absurd (e1.trans e2.symm) hbc
   ·rename_i e2
    subst e1
    rw [Inj.set_same] at hp
    rw [Inj.set_ne e2] at hq
    cases hp
    have:=hr.bound _ _ hq
    simp;omega
  ·rename_i e1
   split at hc'
   ·rename_i e2
    subst e2
    rw [Inj.set_same] at hq
    rw [Inj.set_ne e1] at hp
    cases hq
    have:=hr.bound _ _ hp
    simp;omega
   ·rename_i e2
    rw [Inj.set_ne e1] at hp
    rw [Inj.set_ne e2] at hq
    exact hr.inj b c' x y p q hb hc' hx hy hbc hp hq hown
 ·intro b x hb
  by_cases e':b=h.n
  ·subst e';rw [Inj.set_same] at hb;cases hb;simp [hsz]
  ·rw [Inj.set_ne e'] at hb;have:=hr.bound _ _ hb;omega
 ·simp [H.n_new]
 ·omega
 ·intro B hB _;exact hold B hB
 ·intro b x hb hx hlt
  obtain ⟨y,hy,hyo⟩:=hb
  rw [H.get_new] at hy
  split at hy
  ·rename_i e1
   subst e1
   rw [Inj.set_same] at hx;cases hx
   simp at hlt
  ·rename_i e1
   rw [Inj.set_ne e1] at hx
   exact ⟨b,x,⟨y,hy,hyo⟩,hx,rfl⟩
 ·intro b x hb hx hlt
  obtain ⟨y,hy,hyo⟩:=hb
  rw [H.get_new] at hy
  split at hy
  ·rename_i e1
   subst e1
   rw [Inj.set_same] at hx;cases hx
   simp at hlt
  ·rename_i e1
   rw [Inj.set_ne e1] at hx
   exact ⟨b,x,⟨y,hy,hyo⟩,hx,rfl⟩
 ·intro b hb
  rw [H.n_new] at hb
  exact Inj.set_ne (by omega)
theorem HRel.alloc (hr:HRel i h w) (hn:i h.n=none) {c:List V} {C:Array Value} {e:TypeId}
  (hc:∀ (k:Nat) (v:V),c[k]?=some v→v.isCell=true∧∃ u,C[k]?=some u∧VRel i v u) (hl:c.length≤C.size)
  {w':World} (hw:w'.heap=w.heap.push (.cells C e)) (ho:w'.os=w.os∧w'.tape=w.tape) (hu:w'.output=w.output) :
  HRel (i.set h.n ⟨w.heap.size,0,C.size,false⟩) (h.new (.cells c e false)) w' ∧
  Fr i h w (i.set h.n ⟨w.heap.size,0,C.size,false⟩) (h.new (.cells c e false)) w':=by
 have hnew:w'.heap[w.heap.size]?=some (.cells C e):=by rw [hw];simp
 refine hr.allocB hn hw ho hu ⟨_,C,(0,0),Inj.set_same,rfl,hnew,rfl,by simpa using hl,fun _=>rfl,fun k v hk=>?_⟩
 obtain ⟨a,u,b,c⟩:=hc k v hk
 exact ⟨a,u,by simpa using b,c.mono (Inj.le_set hn)⟩
theorem HRel.writeB (hr:HRel i h w) {b:Nat} {X X':Blk} (hb:h.get b=some X) (hX:X.own=true) {x:Ent} (hx:i b=some x) (hX':X'.own=true)
  {w':World} (hB:BlkRel i w' b X') (hwo:∀ B,B ≠ x.B→w'.heap[B]?=w.heap[B]?) (hsz:w'.heap.size=w.heap.size) (ho:w'.os=w.os∧w'.tape=w.tape) (hu:w'.output=w.output) :
  HRel i (h.put b X') w'∧Fr i h w i (h.put b X') w':=by
 have hXl:X.live=true:=by cases X <;> simp_all [Blk.own,Blk.live]
 refine ⟨⟨?_,?_,?_⟩,⟨?_,?_,?_,?_,?_,?_,ho,hu⟩⟩
 ·intro d y hd
  rw [H.get_put] at hd
  split at hd
  ·rename_i e1
   obtain ⟨e1,_⟩:=e1
   subst e1
   cases hd
   exact hB
  ·rename_i e1
   have hdb:d ≠ b:=fun e2=>e1 ⟨e2,H.get_lt hb⟩
   cases y with
   | dead=>trivial
   | cells c2 e2 ro2 =>
    refine (hr.blk d _ hd).mono (fun _ _ h=>h) fun y hy=>hwo _ ?_
    exact hr.inj d b _ _ _ _ hd hb rfl hXl hdb hy hx (.inr hX)
   | map es =>
    refine (hr.blk d _ hd).mono (fun _ _ h=>h) fun y hy=>hwo _ ?_
    exact hr.inj d b _ _ _ _ hd hb rfl hXl hdb hy hx (.inr hX)
 ·intro d d' y y' p q hd hd' hy hy' hne hp hq hown
  have key:∀ d y,(h.put b X').get d=some y→y.live=true→∃ y',h.get d=some y'∧y'.live=true∧y'.own=y.own:=by
   intro d0 y0 hd0 hy0
   rw [H.get_put] at hd0
   split at hd0
   ·rename_i e1;obtain ⟨e1,_⟩:=e1;cases hd0;exact ⟨X,by rw [e1];exact hb,hXl,by rw [hX,hX']⟩
   ·exact ⟨y0,hd0,hy0,rfl⟩
  obtain ⟨z,hz1,hz2,hz3⟩:=key d y hd hy
  obtain ⟨z',hz1',hz2',hz3'⟩:=key d' y' hd' hy'
  exact hr.inj d d' z z' p q hz1 hz1' hz2 hz2' hne hp hq (by rw [hz3,hz3'];exact hown)
 ·intro d y hd;rw [hsz];exact hr.bound d y hd
 ·simp [H.n_put]
 ·omega
 ·intro B hB hno
  refine hwo B ?_
  intro e1
  exact hno b x ⟨_,hb,hX⟩ hx e1.symm
 ·intro d y hd hy _
  obtain ⟨z,hz,hzo⟩:=hd
  rw [H.get_put] at hz
  split at hz
  ·rename_i e1;obtain ⟨e1,_⟩:=e1;subst e1;exact ⟨d,y,⟨_,hb,hX⟩,hy,rfl⟩
  ·exact ⟨d,y,⟨z,hz,hzo⟩,hy,rfl⟩
 ·intro d y hd hy _
  obtain ⟨z,hz,hzo⟩:=hd
  rw [H.get_put] at hz
  split at hz
  ·rename_i e1;obtain ⟨e1,_⟩:=e1;subst e1;exact ⟨d,y,⟨_,hb,hXl⟩,hy,rfl⟩
  ·exact ⟨d,y,⟨z,hz,hzo⟩,hy,rfl⟩
 ·intro _ _;rfl
theorem HRel.write (hr:HRel i h w) {b:Nat} {c c':List V} {e:TypeId} (hb:h.get b=some (.cells c e false)) {x:Ent} (hx:i b=some x) {C':Array Value}
  (hs:C'.size=x.N) (hl:x.s+c'.length≤x.N) (hc:∀ (k:Nat) (v:V),c'[k]?=some v→v.isCell=true∧∃ u,C'[x.s+k]?=some u∧VRel i v u)
  {w':World} (hw:w'.heap[x.B]?=some (.cells C' e (0,0))) (hwo:∀ B,B ≠ x.B→w'.heap[B]?=w.heap[B]?) (hsz:w'.heap.size=w.heap.size) (ho:w'.os=w.os∧w'.tape=w.tape) (hu:w'.output=w.output) :
  HRel i (h.put b (.cells c' e false)) w'∧Fr i h w i (h.put b (.cells c' e false)) w':=by
 obtain ⟨C,fr,h2,h3,h4,h5,h6,h7⟩:=hr.ent hb hx
 exact hr.writeB hb rfl hx rfl ⟨x,C',(0,0),hx,h2,hw,hs,hl,fun _=>rfl,hc⟩ hwo hsz ho hu
theorem HRel.kill (hr:HRel i h w) (b:Nat):HRel i (h.put b .dead) w∧Fr i h w i (h.put b .dead) w:=by
 have key:∀ d y,(h.put b .dead).get d=some y→y.live=true→h.get d=some y:=by
  intro d y hd hy
  rw [H.get_put] at hd
  split at hd
  ·cases hd;simp [Blk.live] at hy
  ·exact hd
 refine ⟨⟨?_,?_,hr.bound⟩,⟨?_,Nat.le_refl _,fun _ _ _=>rfl,?_,?_,fun _ _=>rfl,⟨rfl,rfl⟩,rfl⟩⟩
 ·intro d y hd
  rw [H.get_put] at hd
  split at hd
  ·cases hd;trivial
  ·exact hr.blk d y hd
 ·intro d d' y y' p q hd hd' hy hy'
  exact hr.inj d d' y y' p q (key _ _ hd hy) (key _ _ hd' hy') hy hy'
 ·simp [H.n_put]
 ·intro d y hd hy _
  obtain ⟨z,hz,hzo⟩:=hd
  have:z.live=true:=by cases z <;> simp_all [Blk.own,Blk.live]
  exact ⟨d,y,⟨z,key _ _ hz this,hzo⟩,hy,rfl⟩
 ·intro d y hd hy _
  obtain ⟨z,hz,hzo⟩:=hd
  exact ⟨d,y,⟨z,key _ _ hz hzo,hzo⟩,hy,rfl⟩
theorem HRel.move (hr:HRel i h w) (hn:i h.n=none) {b:Nat} {c c':List V} {e:TypeId} (hb:h.get b=some (.cells c e false)) {x:Ent} (hx:i b=some x) {C':Array Value} {o:Nat}
  (hs:C'.size=x.N) (hl:x.s+o+c'.length≤x.N) (hc:∀ (k:Nat) (v:V),c'[k]?=some v→v.isCell=true∧∃ u,C'[x.s+o+k]?=some u∧VRel i v u)
  {w':World} (hw:w'.heap[x.B]?=some (.cells C' e (0,0))) (hwo:∀ B,B ≠ x.B→w'.heap[B]?=w.heap[B]?) (hsz:w'.heap.size=w.heap.size) (ho:w'.os=w.os∧w'.tape=w.tape) (hu:w'.output=w.output) :
  HRel (i.set h.n ⟨x.B,x.s+o,x.N,false⟩) ((h.put b .dead).new (.cells c' e false)) w' ∧
  Fr i h w (i.set h.n ⟨x.B,x.s+o,x.N,false⟩) ((h.put b .dead).new (.cells c' e false)) w':=by
 have hle:i.le (i.set h.n ⟨x.B,x.s+o,x.N,false⟩):=Inj.le_set hn
 have hblt:=H.get_lt hb
 have key:∀ d y,((h.put b .dead).new (.cells c' e false)).get d=some y→y.live=true →
   (d=h.n∧y=.cells c' e false)∨(d ≠ h.n∧d ≠ b∧h.get d=some y):=by
  intro d y hd hy
  rw [H.get_new,H.get_put,H.n_put] at hd
  split at hd
  ·rename_i e1;cases hd;exact .inl ⟨e1,rfl⟩
  ·rename_i e1
   split at hd
   ·cases hd;simp [Blk.live] at hy
   ·rename_i e2;exact .inr ⟨e1,fun e3=>e2 ⟨e3,hblt⟩,hd⟩
 have hoff:∀ d y q,h.get d=some y→y.live=true→d ≠ b→i d=some q→q.B ≠ x.B:=fun d y q hd hy hne hq =>
  hr.inj d b y _ q x hd hb hy rfl hne hq hx (.inr rfl)
 refine ⟨⟨?_,?_,?_⟩,⟨?_,?_,?_,?_,?_,?_,ho,hu⟩⟩
 ·intro d y hd
  by_cases hy:y.live=true
  ·rcases key d y hd hy with ⟨rfl,rfl⟩ | ⟨h1,h2,h3⟩
   ·refine ⟨_,C',(0,0),Inj.set_same,rfl,hw,hs,hl,fun _=>rfl,fun k v hk=>?_⟩
    obtain ⟨a,u,b,c⟩:=hc k v hk
    exact ⟨a,u,b,c.mono hle⟩
   ·exact (hr.blk d y h3).mono hle fun q hq=>hwo _ (hoff d y q h3 hy h2 hq)
  ·cases y <;> simp_all [Blk.live,BlkRel]
 ·intro d d' y y' p q hd hd' hy hy' hne hp hq hown
  rcases key d y hd hy with ⟨rfl,rfl⟩ | ⟨h1,h2,h3⟩
  ·rcases key d' y' hd' hy' with ⟨rfl,rfl⟩ | ⟨h1',h2',h3'⟩
   ·exact absurd rfl hne
   ·rw [Inj.set_same] at hp;cases hp
    rw [Inj.set_ne h1'] at hq
    exact fun e1=>hoff d' y' q h3' hy' h2' hq e1.symm
  ·rcases key d' y' hd' hy' with ⟨rfl,rfl⟩ | ⟨h1',h2',h3'⟩
   ·rw [Inj.set_same] at hq;cases hq
    rw [Inj.set_ne h1] at hp
    exact hoff d y p h3 hy h2 hp
   ·rw [Inj.set_ne h1] at hp
    rw [Inj.set_ne h1'] at hq
    exact hr.inj d d' y y' p q h3 h3' hy hy' hne hp hq hown
 ·intro d y hd
  rw [hsz]
  by_cases e':d=h.n
  ·subst e';rw [Inj.set_same] at hd;cases hd;show x.B < _;exact hr.bound _ _ hx
  ·rw [Inj.set_ne e'] at hd;exact hr.bound _ _ hd
 ·simp [H.n_new,H.n_put]
 ·omega
 ·intro B hB hno
  exact hwo B fun e1=>hno b x ⟨_,hb,rfl⟩ hx e1.symm
 ·intro d y hd hy _
  obtain ⟨z,hz,hzo⟩:=hd
  have hzl:z.live=true:=by cases z <;> simp_all [Blk.own,Blk.live]
  rcases key d z hz hzl with ⟨rfl,rfl⟩ | ⟨h1,h2,h3⟩
  ·rw [Inj.set_same] at hy;cases hy
   exact ⟨b,x,⟨_,hb,rfl⟩,hx,rfl⟩
  ·rw [Inj.set_ne h1] at hy
   exact ⟨d,y,⟨z,h3,hzo⟩,hy,rfl⟩
 ·intro d y hd hy _
  obtain ⟨z,hz,hzo⟩:=hd
  rcases key d z hz hzo with ⟨rfl,rfl⟩ | ⟨h1,h2,h3⟩
  ·rw [Inj.set_same] at hy;cases hy
   exact ⟨b,x,⟨_,hb,rfl⟩,hx,rfl⟩
  ·rw [Inj.set_ne h1] at hy
   exact ⟨d,y,⟨z,h3,hzo⟩,hy,rfl⟩
 ·intro d hd
  rw [H.n_new,H.n_put] at hd
  exact Inj.set_ne (by omega)
theorem cells_of {l:List V} {us:List Value} (h:VsRel i l us) (hc:l.all V.isCell=true):∀ (k:Nat) (v:V),l[k]?=some v→v.isCell=true∧∃ u,us.toArray[k]?=some u∧VRel i v u:=by
 intro k v hk
 rw [List.all_eq_true] at hc
 obtain ⟨u,hu,hv⟩:=h.get hk
 exact ⟨hc v (List.mem_of_getElem? hk),u,by simpa using hu,hv⟩
theorem reps_length (n:Nat) (z:List V):(reps n z).length=n*z.length:=by
 induction n with
 | zero=>simp [reps]
 | succ n ih=>simp [reps,ih,Nat.add_mul,Nat.add_comm]
theorem reps_all {n:Nat} {z:List V} (hz:z.all V.isCell=true):(reps n z).all V.isCell=true:=by
 induction n with
 | zero=>rfl
 | succ n ih=>simp [reps,List.all_append,hz,ih]
theorem range_reps {z:List V} {Z:Array Value} (hz:VsRel i z Z.toList):∀ n,VsRel i (reps n z) ((List.range (n*Z.size)).map fun k=>Z[k % Z.size]!):=by
 intro n
 have hl:=hz.length
 simp at hl
 refine VsRel.of_get (by simp [reps_length,hl]) ?_
 induction n with
 | zero=>intro k v hk;simp [reps] at hk
 | succ n ih =>
  intro k v hk
  have hlt:=(List.getElem?_eq_some_iff.1 hk).1
  rw [reps_length] at hlt
  simp only [reps] at hk
  rw [List.getElem?_append] at hk
  split at hk
  ·rename_i h1
   obtain ⟨u,hu,hv⟩:=hz.get hk
   refine ⟨u,?_,hv⟩
   have h2:k < Z.size:=by omega
   have h3:k < (n+1)*Z.size:=by rw [hl];exact hlt
   simp [h3,Nat.mod_eq_of_lt h2,h2]
   simpa [h2] using hu
  ·rename_i h1
   obtain ⟨u,hu,hv⟩:=ih _ _ hk
   refine ⟨u,?_,hv⟩
   have h3:k < (n+1)*Z.size:=by rw [hl];exact hlt
   have hu2:=(List.getElem?_eq_some_iff.1 hu).1
   simp at hu2
   rw [List.getElem?_map,List.getElem?_range hu2] at hu
   rw [List.getElem?_map,List.getElem?_range h3]
   simp only [Option.map_some,Option.some.injEq] at hu ⊢
   rw [← hu,← hl]
   congr 1
   have:z.length≤k:=by omega
   rw [Nat.mod_eq_sub_mod (a:=k) (by omega)]
theorem zeroOk_info {t:TypeId} {size:Nat} (hz:zeroOk P t size=true):∃ Z x,P.info? t=some x∧x.zero=some Z∧Z.cells.size=size:=by
 unfold zeroOk at hz
 split at hz
 ·rename_i Z hZ
  cases hi:P.info? t with
  | none=>simp [hi] at hZ
  | some x=>simp [hi] at hZ;exact ⟨Z,x,rfl,hZ,by simpa using hz⟩
 ·cases hz
theorem zero_sound' {t:TypeId} {z:List V} {size:Nat} (hz:zeroT P t=some z) (hok:zeroOk P t size=true) :
  ∃ Z:Value,(∀ w:World,(zeroValue t).run P w=.ok Z w)∧VsRel i z Z.cells.toList∧z.all V.isCell=true∧Z.cells.size=size:=by
 obtain ⟨Z,x,h1,h2,h3⟩:=zeroOk_info hok
 obtain ⟨Z',e1,e2,e3⟩:=zero_sound (P:=P) (i:=i) (w:=default) hz
 have hrun:∀ w:World,(zeroValue t).run P w=.ok Z w:=fun w=>by simp [zeroValue,typeInfo,h1,Result.andThen,h2]
 rw [hrun] at e1
 cases e1
 exact ⟨Z,hrun,e2,e3,h3⟩
theorem fresh_run {s:Nat→V} {ρ:Operand→Value} (hs:∀ x,VRel i (Zf.ev s x) (ρ x)) (o:Oper) {v:V} {h':H} (hv:fresh P s h o.op=some (v,h')) :
  ∃ u w' c e,∃ C:Array Value,(execOp ρ o).run P w=.ok (.value u) w'∧h'=h.new (.cells c e false)∧w'.heap=w.heap.push (.cells C e)∧(w'.os=w.os∧w'.tape=w.tape)∧w'.output=w.output∧c.length≤C.size ∧
   (∀ (k:Nat) (v:V),c[k]?=some v→v.isCell=true∧∃ u,C[k]?=some u∧VRel i v u) ∧
   (∀ j:Inj,j h.n=some ⟨w.heap.size,0,C.size,false⟩→VRel j v u):=by
 have fin:∀ {c:List V} {us:List Value} {e:TypeId} {u:Value},VsRel i c us→c.all V.isCell=true→(execOp ρ o).run P w=.ok (.value u) { w with heap:=w.heap.push (.cells us.toArray e) } →
   h'=h.new (.cells c e false)→(∀ j:Inj,j h.n=some ⟨w.heap.size,0,us.length,false⟩→VRel j v u) →
   ∃ u w' c e,∃ C:Array Value,(execOp ρ o).run P w=.ok (.value u) w'∧h'=h.new (.cells c e false)∧w'.heap=w.heap.push (.cells C e)∧(w'.os=w.os∧w'.tape=w.tape)∧w'.output=w.output∧c.length≤C.size ∧
    (∀ (k:Nat) (v:V),c[k]?=some v→v.isCell=true∧∃ u,C[k]?=some u∧VRel i v u)∧(∀ j:Inj,j h.n=some ⟨w.heap.size,0,C.size,false⟩→VRel j v u):=by
  intro c us e u h1 h2 h3 h4 h5
  exact ⟨u,_,c,e,us.toArray,h3,h4,rfl,⟨rfl,rfl⟩,rfl,by simp [h1.length],cells_of h1 h2,by simpa using h5⟩
 cases ho:o.op <;> rw [ho] at hv <;> simp only [fresh,reduceCtorEq] at hv
 case alloc e =>
  replace hv:=bind_some' hv;obtain ⟨z,hz,hv⟩:=hv
  cases hv
  obtain ⟨Z,e1,e2,e3⟩:=zero_sound (P:=P) (i:=i) (w:=w) hz
  refine fin e2 e3 ?_ rfl (fun j hj=>VRel.ptr (x:=⟨w.heap.size,0,_,false⟩) hj)
  simp [execOp,ho,Instr.alloc,e1,Result.andThen,newVar,newRow]
 case box e x =>
  replace hv:=bind_some' hv;obtain ⟨l,hl,hv⟩:=hv
  cases hv
  obtain ⟨e2,e3⟩:=(hs x).cells hl
  refine fin e2 e3 ?_ rfl (fun j hj=>VRel.ptr (x:=⟨w.heap.size,0,_,false⟩) hj)
  simp [execOp,ho,Instr.box,Result.andThen,newVar,newRow]
 case buildSlice t len parts =>
  replace hv:=bind_some' hv;obtain ⟨e,he,hv⟩:=hv
  replace hv:=bind_some' hv;obtain ⟨size,hsz,hv⟩:=hv
  split at hv
  ·cases hv
  ·rename_i hb
   replace hv:=bind_some' hv;obtain ⟨z,hz,hv⟩:=hv
   replace hv:=bind_some' hv;obtain ⟨l,hl,hv⟩:=hv
   cases hv
   have hzo:zeroOk P e size=true:=by
    cases hq:zeroOk P e size with
    | true=>rfl
    | false=>exact absurd (.inr hq) hb
   obtain ⟨Z,e1,e2,e3,e4⟩:=zero_sound' (P:=P) (i:=i) hz hzo
   have ht:P.underlying t=some (.slice e):=by
    unfold elT at he;split at he <;> simp_all
   have hreps:=range_reps e2 len
   obtain ⟨us,g1,g2,g3⟩:=fill_sound (parts:=parts.toList.map fun p=>(p.1,Zf.ev s p.2)) (parts':=(parts.map fun (k,x)=>(k,ρ x)).toList)
    (by simp) (by simpa [Function.comp_def] using VsRel.map (l:=parts.toList) (f:=fun p=>Zf.ev s p.2) (g:=fun p=>ρ p.2) fun p _=>hs p.2) hreps (reps_all e3) hl
   refine fin g2 g3 ?_ rfl (fun j hj=>VRel.slx (x:=⟨w.heap.size,0,_,false⟩) hj)
   simp only [execOp,ho,Instr.buildSlice,Sem.run_bind,run_underlying ht,Result.andThen,run_sz hsz]
   rw [if_neg (by intro hc;exact hb (.inl hc))]
   by_cases h0:len*size=0
   ·have:((Array.range 0).map fun x=>(#[]:Array Value)[x % (#[]:Array Value).size]!)=((List.range (len*Z.cells.size)).map fun k=>Z.cells[k % Z.cells.size]!).toArray:=by
      rw [e4,h0];simp
    simp only [h0,if_true,Sem.run_bind,Sem.run_pure,Result.andThen]
    rw [this,g1]
    simp [newRow,Result.andThen]
   ·have:((Array.range (len*size)).map fun x=>Z.cells[x % Z.cells.size]!)=((List.range (len*Z.cells.size)).map fun k=>Z.cells[k % Z.cells.size]!).toArray:=by
      apply Array.ext';simp [e4]
    simp only [h0,if_false,Sem.run_bind,e1,Sem.run_pure,Result.andThen]
    rw [this,g1]
    simp [newRow,Result.andThen]
 case makeSlice t len cap =>
  replace hv:=bind_some' hv;obtain ⟨e,he,hv⟩:=hv
  replace hv:=bind_some' hv;obtain ⟨size,hsz,hv⟩:=hv
  replace hv:=bind_some' hv;obtain ⟨bytes,hby,hv⟩:=hv
  split at hv
  ·rename_i k n k' c hx hy
   split at hv
   ·rename_i hb
    obtain ⟨hb1,hb2,hb3,hb4,hzo⟩:=hb
    replace hv:=bind_some' hv;obtain ⟨z,hz,hv⟩:=hv
    cases hv
    obtain ⟨Z,e1,e2,e3,e4⟩:=zero_sound' (P:=P) (i:=i) hz hzo
    have ht:P.underlying t=some (.slice e):=by
      unfold elT at he;split at he <;> simp_all
    have hl:=hs len
    rw [hx] at hl
    have hc:=hs cap
    rw [hy] at hc
    cases hlv:ρ len <;> rw [hlv] at hl <;> cases hl
    cases hcv:ρ cap <;> rw [hcv] at hc <;> cases hc
    obtain ⟨inf,hi1,hi2,hi3⟩:=run_by (P:=P) (w:=w) hby
    have hw1:IntKind.i64.wrap n=n:=by
      unfold IntKind.wrap;simp [IntKind.bits,IntKind.signed]
      rw [Int.emod_eq_of_lt (by omega) (by omega)]
      rw [if_neg (by omega)]
    have hw2:IntKind.i64.wrap c=c:=by
      unfold IntKind.wrap;simp [IntKind.bits,IntKind.signed]
      rw [Int.emod_eq_of_lt (by omega) (by omega)]
      rw [if_neg (by omega)]
    have hreps:=range_reps e2 c.toNat
    refine fin hreps (reps_all e3) ?_ rfl (fun j hj=>VRel.slx (x:=⟨w.heap.size,0,_,false⟩) hj)
    have hcond:((decide (c < 0) || decide ((inf.bytes:Int)*c > 2 ^ 48)) || decide (n < 0) || decide (n > c))=false:=by
      simp only [Bool.or_eq_false_iff,decide_eq_false_iff_not]
      rw [hi2]
      refine ⟨⟨⟨by omega,?_⟩,by omega⟩,by omega⟩
      have:(2:Int) ^ 48=281474976710656:=by decide
      omega
    simp only [execOp,ho,hlv,hcv,Instr.makeSlice,Sem.run_bind,run_underlying ht,Result.andThen,asInt,asIntOf,Sem.run_pure,hi3,hw1,hw2]
    rw [if_neg (by simpa using hcond)]
    by_cases h0:c.toNat*size=0
    · have:((Array.range 0).map fun x=>(#[]:Array Value)[x % (#[]:Array Value).size]!)=((List.range (c.toNat*Z.cells.size)).map fun k=>Z.cells[k % Z.cells.size]!).toArray:=by
       rw [e4,h0];simp
      simp only [Sem.run_bind,run_askRoom,Result.andThen,run_sz hsz,h0,if_true,Sem.run_pure]
      rw [this]
      simp [newRow,Result.andThen]
    · have:((Array.range (c.toNat*size)).map fun x=>Z.cells[x % Z.cells.size]!)=((List.range (c.toNat*Z.cells.size)).map fun k=>Z.cells[k % Z.cells.size]!).toArray:=by
       apply Array.ext';simp [e4]
      simp only [Sem.run_bind,run_askRoom,Result.andThen,run_sz hsz,h0,if_false,e1,Sem.run_pure]
      rw [this]
      simp [newRow,Result.andThen]
   ·cases hv
  ·cases hv
theorem fresh_sound (hr:HRel i h w) (hn:i h.n=none) {s:Nat→V} {ρ:Operand→Value} (hs:∀ x,VRel i (Zf.ev s x) (ρ x)) (o:Oper) {v:V} {h':H} (hv:fresh P s h o.op=some (v,h')) :
  ∃ u w' x,(execOp ρ o).run P w=.ok (.value u) w'∧VRel (i.set h.n x) v u∧HRel (i.set h.n x) h' w'∧Fr i h w (i.set h.n x) h' w':=by
 obtain ⟨u,w',c,e,C,h1,h2,h3,h4,h5,h6,h7,h8⟩:=fresh_run (w:=w) hs o hv
 subst h2
 have:=hr.alloc hn h7 h6 h3 h4 h5
 exact ⟨u,w',_,h1,h8 _ Inj.set_same,this.1,this.2⟩
theorem wr1_eq (h:H) (b o:Nat) (v:V):h.wr1 b o v=h.wrN b o [v]:=by
 unfold H.wr1 H.wrN
 split
 ·rename_i c e hb
  simp only [List.length_singleton]
  by_cases hlt:o < c.length
  ·rw [if_pos hlt,if_pos (by omega),List.set_eq_take_append_cons_drop,if_pos hlt]
   rfl
  ·rw [if_neg hlt,if_neg (by omega)]
 ·rfl
theorem cells_one {v:V} {u:Value} (h:VRel i v u) (hc:v.isCell=true):u.oneCell'=true:=by
 cases h <;> simp_all [V.isCell,Value.oneCell']
theorem vs_one {vs:List V} {us:List Value} (h:VsRel i vs us) (hc:vs.all V.isCell=true):∀ u ∈ us,u.oneCell'=true:=by
 induction vs generalizing us with
 | nil=>cases h;intro u hu;simp at hu
 | cons v vs ih =>
  cases h with
  | cons hv hs =>
   simp only [List.all_cons,Bool.and_eq_true] at hc
   intro u hu
   rcases List.mem_cons.1 hu with rfl | hu
   ·exact cells_one hv hc.1
   ·exact ih hs hc.2 u hu
theorem splice_get {vs:List V} {us:List Value} {c:List V} {C:List Value} {o p:Nat} (hl:us.length=vs.length) (hb:o+vs.length≤c.length) (hB:p+c.length≤C.length)
  (hv:∀ (k:Nat) (v:V),vs[k]?=some v→v.isCell=true∧∃ u,us[k]?=some u∧VRel i v u)
  (hc:∀ (k:Nat) (v:V),c[k]?=some v→v.isCell=true∧∃ u,C[p+k]?=some u∧VRel i v u) :
  ∀ (k:Nat) (v:V),(splice c o vs)[k]?=some v→v.isCell=true∧∃ u,(C.take (p+o) ++ us ++ C.drop (p+o+us.length))[p+k]?=some u∧VRel i v u:=by
 intro k v hk
 have h1:(C.take (p+o)).length=p+o:=by simp;omega
 have h2:(c.take o).length=o:=by simp;omega
 simp only [splice,List.getElem?_append,h2] at hk
 simp only [List.getElem?_append,List.length_append,h1,hl]
 by_cases a:k < o
 ·rw [if_pos a] at hk
  rw [if_pos (by omega),if_pos (by omega)]
  rw [List.getElem?_take,if_pos a] at hk
  rw [List.getElem?_take,if_pos (by omega)]
  exact hc k v hk
 ·rw [if_neg a] at hk
  by_cases b:k - o < vs.length
  ·rw [if_pos b] at hk
   rw [if_pos (by omega),if_neg (by omega)]
   have:=hv _ v hk
   rwa [show p+k - (p+o)=k - o by omega]
  ·rw [if_neg b] at hk
   rw [if_neg (by omega)]
   rw [List.getElem?_drop] at hk
   rw [List.getElem?_drop]
   have:=hc _ v hk
   rwa [show p+o+vs.length+(p+k - (p+o+vs.length))=p+(o+vs.length+(k - o - vs.length)) by omega]
theorem setRow_size (w:World) (g:Nat) (cs:Array Value):(w.setRow g cs).heap.size=w.heap.size:=by simp [World.setRow]
theorem wrN_sound (hr:HRel i h w) {b o:Nat} {x:Ent} (hx:i b=some x) {vs:List V} {us:List Value} (hv:VsRel i vs us) (hc:vs.all V.isCell=true) {h':H} (hh:h.wrN b o vs=some h') :
  ∃ w',(storeCells ⟨x.B,x.s+o,none⟩ us).run P w=.ok () w'∧HRel i h' w'∧Fr i h w i h' w'∧h'.n=h.n:=by
 unfold H.wrN at hh
 split at hh
 ·rename_i c e hb
  split at hh
  ·rename_i hle
   cases hh
   obtain ⟨C,fr,h2,h3,h4,h5,h6,h7⟩:=hr.ent hb hx
   have hfr:=h6 rfl
   subst hfr
   have hlen:=hv.length
   have hst:=run_storeCells_at (P:=P) x.B (x.s+o) e us 0 C w h3 (by rw [hlen];omega) (vs_one hv hc)
   simp only [Nat.add_zero] at hst
   refine ⟨_,hst,?_⟩
   have hsz:(splice c o vs).length=c.length:=by simp [splice];omega
   have:=hr.write hb hx (c':=splice c o vs) (C':=(C.toList.take (x.s+o) ++ us ++ C.toList.drop (x.s+o+us.length)).toArray)
    (by simp;omega) (by omega)
    (by
      have hs:=splice_get (i:=i) (vs:=vs) (us:=us) (c:=c) (C:=C.toList) (o:=o) (p:=x.s) hlen hle (by simpa [h4] using h5)
       (fun k v hk=>by have:=cells_of hv hc k v hk;simpa using this) (fun k v hk=>by have:=h7 k v hk;simpa using this)
      intro k v hk
      have:=hs k v hk
      simpa using this)
    (setRow_heap w x.B C _ e (0,0) h3) (fun B hB=>setRow_other w x.B B _ hB) (setRow_size _ _ _) ⟨rfl,rfl⟩ rfl
   exact ⟨this.1,this.2,rfl⟩
  ·cases hh
 ·cases hh
theorem st_sound (hr:HRel i h w) {t:TypeId} {a v:V} {ua uv:Value} (ha:VRel i a ua) (hv:VRel i v uv) {r:V} {h':H} (hh:stV P h t a v=some (r,h')) :
  r=.und∧h'.n=h.n∧∃ w',(Instr.storeAt t ua uv).run P w=.ok () w'∧HRel i h' w'∧Fr i h w i h' w':=by
 have key:∀ {b o:Nat} {x:Ent} (vs:List V),i b=some x→v.cells=some vs→szT P t=some vs.length→(h.wrN b o vs).bind (fun h'=>some (V.und,h'))=some (r,h') →
   ua=.pointer (some ⟨x.B,x.s+o,none⟩)→r=.und∧h'.n=h.n∧∃ w',(Instr.storeAt t ua uv).run P w=.ok () w'∧HRel i h' w'∧Fr i h w i h' w':=by
  intro b o x vs hx hcells hsz hwr hua
  replace hwr:=bind_some' hwr;obtain ⟨h'',hw,hwr⟩:=hwr
  cases hwr
  obtain ⟨g1,g2⟩:=hv.cells hcells
  obtain ⟨w',e1,e2,e3,e4⟩:=wrN_sound (P:=P) hr hx g1 g2 hw
  refine ⟨rfl,e4,w',?_,e2,e3⟩
  subst hua
  have hl:=g1.length
  simp at hl
  simp [Instr.storeAt,Instr.sureAddr,storeVar,run_sz hsz,Result.andThen,hl,e1]
 unfold stV at hh
 replace hh:=bind_some' hh;obtain ⟨n,hn,hh⟩:=hh
 unfold stZ at hh
 split at hh
 ·rename_i b o
  cases ha with
  | ptr hx =>
   split at hh
   ·rename_i l
    split at hh
    · rename_i hsz
      exact key l hx rfl (by rw [hn,hsz]) hh rfl
    · cases hh
   ·cases hh
   ·cases hh
   ·rename_i h1 h2 h3
    split at hh
    · rename_i hsz
      rw [wr1_eq] at hh
      have hcells:v.cells=some [v]:=by
       cases v <;> first | rfl | (exact absurd rfl (h1 _)) | (exact absurd rfl h2) | (exact absurd rfl (h3 _))
      exact key [v] hx hcells (by rw [hn,hsz];rfl) hh rfl
    · cases hh
 ·cases hh
theorem lenOf_sound {y:V} {u:Value} (hy:VRel i y u) {n:Nat} (hn:lenOf y=some n):(Builtin.lenOf u).run P w=.ok n w:=by
 unfold lenOf at hn
 split at hn
 ·cases hy;cases hn;rfl
 ·cases hn;cases hy <;> rfl
 ·cases hn
  cases hy with
  | str s=>simp [Builtin.lenOf]
 ·cases hn
theorem first_sound (hr:HRel i h w) {y:V} {u:Value} (hy:VRel i y u) {size n:Nat} {l:List V} (hl:firstV h size n y=some l) (hn:∃ m,lenOf y=some m∧n≤m) :
  l.length=n*size∧l.all V.isCell=true∧∃ us,VsRel i l us∧∀ w',w'.heap=w.heap→(Builtin.firstCells size n u).run P w'=.ok us.toArray w':=by
 obtain ⟨m,hm,hnm⟩:=hn
 have row:∀ {b o:Nat} {x:Ent},i b=some x→h.rdN b o (n*size)=some l→u=.slice (some ⟨x.B,x.s+o,none⟩) (match u with | .slice _ k _=>k | _=>0) (match u with | .slice _ _ k=>k | _=>0) →
   l.length=n*size∧l.all V.isCell=true∧∃ us,VsRel i l us∧∀ w',w'.heap=w.heap→(Builtin.firstCells size n u).run P w'=.ok us.toArray w':=by
  intro b o x hx hl hu
  obtain ⟨h1,h2,us,h3,h4⟩:=rdN_sound hr hx hl
  refine ⟨h1,h2,us,h3,fun w' hw=>?_⟩
  rw [hu]
  simp only [Builtin.firstCells]
  have:=run_loadCells_list (P:=P) w' ⟨x.B,x.s+o,none⟩ us (fun j v hj=>by have:=h4 j v hj;unfold World.cell? at this ⊢;rw [hw];exact this)
  rwa [h3.length,h1] at this
 have emp:n=0→l=[]→(∀ w',(Builtin.firstCells size 0 u).run P w'=.ok #[] w') →
   l.length=n*size∧l.all V.isCell=true∧∃ us,VsRel i l us∧∀ w',w'.heap=w.heap→(Builtin.firstCells size n u).run P w'=.ok us.toArray w':=by
  intro h0 h1 h2
  subst h0;subst h1
  exact ⟨by simp,rfl,[],.nil,fun w' _=>h2 w'⟩
 have empty0:∀ {b o:Nat},h.rdN b o (0*size)=some l→l=[]:=by
  intro b o hl
  unfold H.rdN at hl
  split at hl
  ·split at hl
   ·cases hl;simp
   ·cases hl
  ·cases hl
 unfold firstV at hl
 split at hl
 ·cases hy
  cases hl
  simp [lenOf] at hm
  subst hm
  exact emp (by omega) rfl fun w'=>rfl
 ·rename_i b o len cap
  simp [lenOf] at hm
  subst hm
  cases hy with
  | slx hx=>exact row hx hl rfl
  | slo hx _ _=>exact row hx hl rfl
  | slz =>
   have h0:n=0:=by omega
   subst h0
   exact emp rfl (empty0 hl) fun w'=>by simp [Builtin.firstCells,loadCells,loadCellsFrom]
  | sle hx =>
   have h0:n=0:=by omega
   subst h0
   exact emp rfl (empty0 hl) fun w'=>by simp [Builtin.firstCells,loadCells,loadCellsFrom]
 ·split at hl
  ·rename_i hs1
   subst hs1
   cases hl
   cases hy with
   | str s =>
    simp [lenOf] at hm
    refine ⟨by simp;omega,?_,(s.data.toList.take n).map fun b=>.int .u8 b.toNat,VsRel.map fun c _=>.int _ _,fun w' _=>?_⟩
    · rw [List.all_eq_true];intro v hv;rcases List.mem_map.1 hv with ⟨c,_,rfl⟩;rfl
    · simp only [Builtin.firstCells,Sem.run_pure]
      congr 1
      apply Array.ext'
      simp [ByteArray.data_extract]
  ·cases hl
 ·cases hl
theorem el_under {t e:TypeId} (he:elT P t=some e):P.underlying t=some (.slice e):=by
 unfold elT at he;split at he <;> simp_all
def capAt (w:World) (need old:Nat) (e:TypeId):Nat:=(Question.appendCap need old e).cut (w.tape w.drawn (.appendCap need old e))
theorem capAt_ge (w:World) (need old:Nat) (e:TypeId):need≤capAt w need old e:=by
 simp only [capAt,Question.cut];omega
theorem run_append_fits {t tu ty e:TypeId} {d:TypeDesc} (ht:P.underlying t=some (.slice e)) (hu:P.underlying tu=some d) (hd:∀ k,d ≠ .int k) {size n:Nat} (hs:szT P e=some size)
  {u:Value} (hn:(Builtin.lenOf u).run P w=.ok n w) {news:List Value} (hf:(Builtin.firstCells size n u).run P w=.ok news.toArray w) (base:Option Addr) (sLen sCap:Nat) (hc:sLen+n≤sCap) :
  (Builtin.append_ #[t,tu] ty #[.slice base sLen sCap,u]).run P w =
   Result.andThen (Sem.run P (match base with | some a=>storeCells (a.add (sLen*size)) news | none=>pure ():Sem Unit) w) (fun _ w'=>.ok (.slice base (sLen+n) sCap) w'):=by
 have hz:(match d with | .int _=>true | _=>false)=false:=by cases d <;> first | rfl | exact absurd rfl (hd _)
 cases base with
 | none=>simp [Builtin.append_,run_underlying ht,run_underlying hu,Result.andThen,run_sz hs,hz,hn,hf,hc]
 | some a=>simp [Builtin.append_,run_underlying ht,run_underlying hu,Result.andThen,run_sz hs,hz,hn,hf,hc]
theorem run_append_grows {t tu ty e:TypeId} {d:TypeDesc} (ht:P.underlying t=some (.slice e)) (hu:P.underlying tu=some d) (hd:∀ k,d ≠ .int k) {size n bytes:Nat} (hs:szT P e=some size) (hb:byT P e=some bytes)
  {u:Value} (hn:(Builtin.lenOf u).run P w=.ok n w) {news:List Value} (hf:∀ w',w'.heap=w.heap→(Builtin.firstCells size n u).run P w'=.ok news.toArray w') (base:Option Addr) (sLen sCap:Nat) {olds:List Value}
  (hold:∀ w',w'.heap=w.heap→(Builtin.firstCells size sLen (.slice base sLen sCap)).run P w'=.ok olds.toArray w') {Z:Value} (hZ:∀ w:World,(zeroValue e).run P w=.ok Z w)
  (hc:¬ sLen+n≤sCap) (hby:(sLen+n)*bytes≤140737488355328) (h0:0 < bytes) :
  ∃ w',w'.heap=w.heap.push (.cells (olds.toArray ++ news.toArray ++ Builtin.zeroCells Z.cells (capAt w (sLen+n) sCap e - (sLen+n))) e)∧(w'.os=w.os∧w'.tape=w.tape)∧w'.output=w.output ∧
   (Builtin.append_ #[t,tu] ty #[.slice base sLen sCap,u]).run P w=.ok (.slice (some ⟨w.heap.size,0,none⟩) (sLen+n) (capAt w (sLen+n) sCap e)) w':=by
 have hz:(match d with | .int _=>true | _=>false)=false:=by cases d <;> first | rfl | exact absurd rfl (hd _)
 obtain ⟨inf,hi1,hi2,hi3⟩:=run_by (P:=P) (w:=w) hb
 have hi3':∀ w:World,(typeInfo e).run P w=.ok inf w:=fun w=>by simp [typeInfo,hi1]
 have hfit:Builtin.nextslicecap (sLen+n) sCap*bytes≤281474976710656:=growslice_fits (by omega) hby
 have h63:¬ ((sLen+n:Nat):Int) > IntKind.i64.max:=by
  have:sLen+n≤140737488355328:=Nat.le_trans (Nat.le_mul_of_pos_right _ h0) hby
  simp [IntKind.max,IntKind.signed,IntKind.bits];omega
 refine ⟨w.drew.alloc (.cells (olds.toArray ++ news.toArray ++ Builtin.zeroCells Z.cells (capAt w (sLen+n) sCap e - (sLen+n))) e),rfl,⟨rfl,rfl⟩,rfl,?_⟩
 have hfo:(Question.appendCap (sLen+n) sCap e).forced=false:=rfl
 have h48:¬ Builtin.nextslicecap (sLen+n) sCap*bytes > 2 ^ 48:=by
  have:(2:Nat) ^ 48=281474976710656:=by decide
  omega
 have hold':=hold w.drew rfl
 have hf':=hf w.drew rfl
 have hgt:¬ (9223372036854775807 < ((sLen:Int)+(n:Int))):=by
  have:sLen+n≤140737488355328:=Nat.le_trans (Nat.le_mul_of_pos_right _ h0) hby
  omega
 have h48':¬ (281474976710656 < Builtin.nextslicecap (sLen+n) sCap*inf.bytes):=by rw [hi2];omega
 simp [Builtin.append_,run_underlying ht,run_underlying hu,run_sz hs,hz,hn,hc,hi3',hgt,h48',Question.forced,hold',hf',hZ,newRow,capAt]
 congr 2
 apply Array.ext'
 simp [List.append_assoc]
theorem zeroCells_size (z:Array Value) (n:Nat):(Builtin.zeroCells z n).size=n*z.size:=by simp [Builtin.zeroCells]
theorem grow_sound (hr:HRel i h w) (hn:i h.n=none) {c:List V} {us rest:List Value} (hu:VsRel i c us) (hc:c.all V.isCell=true) {e:TypeId} {len size cap:Nat} (hl:us.length=len*size)
  (hrest:rest.length=(cap - len)*size) (hcap:len≤cap) {w':World} (hw:w'.heap=w.heap.push (.cells (us ++ rest).toArray e)) (ho:w'.os=w.os∧w'.tape=w.tape) (hout:w'.output=w.output) :
  ∃ i',VRel i' (.sl h.n 0 len (.op size)) (.slice (some ⟨w.heap.size,0,none⟩) len cap)∧HRel i' (h.new (.cells c e false)) w'∧Fr i h w i' (h.new (.cells c e false)) w':=by
 have hN:(us ++ rest).toArray.size=cap*size:=by
  simp [hl,hrest,← Nat.add_mul];congr 1;omega
 have hlen:us.length=c.length:=hu.length
 have:=hr.alloc hn (c:=c) (C:=(us ++ rest).toArray) (e:=e)
  (fun k v hk=>by
   obtain ⟨a,u,hu',hv⟩:=cells_of hu hc k v hk
   refine ⟨a,u,?_,hv⟩
   have hlt:=(List.getElem?_eq_some_iff.1 hk).1
   simp only [List.getElem?_toArray] at hu' ⊢
   rw [List.getElem?_append_left (by omega)]
   exact hu')
  (by simp;omega) hw ho hout
 refine ⟨_,?_,this.1,this.2⟩
 have hv:=VRel.slo (i:=i.set h.n ⟨w.heap.size,0,(us ++ rest).toArray.size,false⟩) (b:=h.n) (o:=0) (len:=len) (z:=size) (c:=cap) Inj.set_same (fun _=>by simpa using hN.symm) hcap
 simpa using hv
structure Appends (P:Program) (w:World) (t tu ty e:TypeId) (size n bytes:Nat) (uy:Value) (us:List Value) (Z:Value):Prop where
 fits:∀ (base:Option Addr) (sLen sCap:Nat),sLen+n≤sCap→(Builtin.append_ #[t,tu] ty #[.slice base sLen sCap,uy]).run P w =
   Result.andThen (Sem.run P (match base with | some a=>storeCells (a.add (sLen*size)) us | none=>pure ():Sem Unit) w) (fun _ w'=>.ok (.slice base (sLen+n) sCap) w')
 grows:∀ (base:Option Addr) (sLen sCap:Nat) (olds:List Value),(∀ w',w'.heap=w.heap→(Builtin.firstCells size sLen (.slice base sLen sCap)).run P w'=.ok olds.toArray w') →
   ¬ sLen+n≤sCap→(sLen+n)*bytes≤140737488355328 →
   ∃ w',w'.heap=w.heap.push (.cells (olds.toArray ++ us.toArray ++ Builtin.zeroCells Z.cells (capAt w (sLen+n) sCap e - (sLen+n))) e)∧(w'.os=w.os∧w'.tape=w.tape)∧w'.output=w.output ∧
    (Builtin.append_ #[t,tu] ty #[.slice base sLen sCap,uy]).run P w=.ok (.slice (some ⟨w.heap.size,0,none⟩) (sLen+n) (capAt w (sLen+n) sCap e)) w'
theorem wrN_nil_sound (hr:HRel i h w) {b o:Nat} {h':H} (hh:h.wrN b o []=some h'):HRel i h' w∧Fr i h w i h' w:=by
 have hx:∃ x,i b=some x:=by
  unfold H.wrN at hh
  split at hh
  ·rename_i c e hb
   obtain ⟨x,C,fr,g1,_⟩:=hr.blk b _ hb
   exact ⟨x,g1⟩
  ·cases hh
 obtain ⟨x,hx⟩:=hx
 obtain ⟨w',e1,e2,e3,_⟩:=wrN_sound (P:=default) hr hx .nil rfl hh
 simp [storeCells] at e1
 subst e1
 exact ⟨e2,e3⟩
theorem apN_sound (hr:HRel i h w) {t tu ty e:TypeId} {size n bytes:Nat} {Z:Value} {uy:Value} {us:List Value} (ap:Appends P w t tu ty e size n bytes uy us Z) (hb0:0 < bytes) (z3:Z.cells.size=size) {new:List V} (f1:new.length=n*size)
  (f2:new.all V.isCell=true) (f3:VsRel i new us) {x:V} {ux:Value} (hx:VRel i x ux) {v:V} {h':H} (hv:apN e size bytes h x n new=some (v,h')) (hcl:i.clear h.n h'.n) :
  ∃ u w' i',(Builtin.append_ #[t,tu] ty #[ux,uy]).run P w=.ok u w'∧VRel i' v u∧HRel i' h' w'∧Fr i h w i' h' w':=by
 unfold apN at hv
 have husl:us.length=n*size:=f3.length.trans f1
 -- a slice that grows
 have grows:∀ (base:Option Addr) (sLen sCap:Nat) {old:List V} {olds:List Value} {h1:H},ux=.slice base sLen sCap→VsRel i old olds→old.all V.isCell=true→old.length=sLen*size →
   (∀ w',w'.heap=w.heap→(Builtin.firstCells size sLen (.slice base sLen sCap)).run P w'=.ok olds.toArray w')→¬ sLen+n≤sCap→(sLen+n)*bytes≤140737488355328 →
   HRel i h1 w→Fr i h w i h1 w→h1.n=h.n→i h1.n=none →
   ∃ u w' i',(Builtin.append_ #[t,tu] ty #[ux,uy]).run P w=.ok u w'∧VRel i' (.sl h1.n 0 (sLen+n) (.op size)) u∧HRel i' (h1.new (.cells (old ++ new) e false)) w'∧Fr i h w i' (h1.new (.cells (old ++ new) e false)) w':=by
  intro base sLen sCap old olds h1 hux ho1 ho2 ho3 ho4 hno hbb hr1 hf1 hn1 hi1
  obtain ⟨w',e1,e2,e3,e4⟩:=ap.grows base sLen sCap olds ho4 hno hbb
  have holdl:olds.length=sLen*size:=ho1.length.trans ho3
  have hg:=grow_sound (w':=w') hr1 hi1 (ho1.append f3) (by rw [List.all_append,ho2,f2];rfl) (e:=e) (len:=sLen+n) (size:=size) (cap:=capAt w (sLen+n) sCap e)
   (by rw [List.length_append,holdl,husl,Nat.add_mul]) (rest:=(Builtin.zeroCells Z.cells (capAt w (sLen+n) sCap e - (sLen+n))).toList)
   (by simp [zeroCells_size,z3]) (capAt_ge _ _ _ _) (by rw [e1];congr 2;apply Array.ext';simp) e2 e3
  obtain ⟨i',g1,g2,g3⟩:=hg
  exact ⟨_,w',i',by rw [hux];exact e4,g1,g2,hf1.trans g3⟩
 split at hv
 ·-- nil
  cases hx
  split at hv
  ·rename_i h0
   subst h0
   cases hv
   have husn:us=[]:=List.eq_nil_of_length_eq_zero (by omega)
   refine ⟨_,w,i,?_,.nils,hr,Fr.refl _ _ _⟩
   rw [ap.fits none 0 0 (by omega)]
   simp
  ·rename_i h0
   split at hv
   ·rename_i hbb
    cases hv
    have:=grows none 0 0 (old:=[]) (olds:=[]) (h1:=h) rfl .nil rfl (by simp) (fun w' _=>rfl) (by omega) (by simpa using hbb) hr (Fr.refl _ _ _) rfl (hcl _ (Nat.le_refl _) (by simp [H.n_new]))
    simpa using this
   ·cases hv
 ·-- an exact slice
  rename_i b o len cap
  split at hv
  ·rename_i hfit
   replace hv:=bind_some' hv;obtain ⟨h1,hw1,hv⟩:=hv
   cases hv
   cases hx with
   | @slx _ _ _ _ q hq =>
    obtain ⟨w',e1,e2,e3,e4⟩:=wrN_sound (P:=P) hr hq f3 f2 hw1
    refine ⟨_,w',i,?_,.slx hq,e2,e3⟩
    rw [ap.fits _ _ _ hfit]
    simp only [addr_add]
    rw [Nat.add_assoc,e1]
    simp [Result.andThen]
   | @slz _ _ a =>
    have hn0:n=0:=by omega
    subst hn0
    have husn:us=[]:=List.eq_nil_of_length_eq_zero (by omega)
    subst husn
    have hnw:new=[]:=List.eq_nil_of_length_eq_zero (by simpa using f1)
    subst hnw
    obtain ⟨e2,e3⟩:=wrN_nil_sound hr hw1
    refine ⟨.slice (some a) 0 0,w,i,?_,VRel.slz,e2,e3⟩
    rw [ap.fits _ _ _ hfit]
    simp [storeCells]
  ·rename_i hfit
   split at hv
   ·rename_i hbb
    replace hv:=bind_some' hv;obtain ⟨old,hold,hv⟩:=hv
    cases hv
    have hux:∃ base,ux=.slice base len cap:=by cases hx <;> exact ⟨_,rfl⟩
    obtain ⟨base,hux⟩:=hux
    obtain ⟨o1,o2,olds,o3,o4⟩:=first_sound (P:=P) (n:=len) (size:=size) (l:=old) hr hx hold ⟨len,rfl,Nat.le_refl _⟩
    rw [hux] at o4
    exact grows base len cap hux o3 o2 o1 o4 hfit hbb hr (Fr.refl _ _ _) rfl (hcl _ (Nat.le_refl _) (by simp [H.n_new]))
   ·cases hv
 ·-- an open slice
  rename_i b o len z
  split at hv
  ·cases hv
  rename_i hz
  have hz:size=z:=by simpa using hz
  subst hz
  split at hv
  ·rename_i h0
   subst h0
   cases hv
   have husn:us=[]:=List.eq_nil_of_length_eq_zero (by omega)
   subst husn
   cases hx with
   | slo hq hc hl =>
    refine ⟨_,w,i,?_,.slo hq hc hl,hr,Fr.refl _ _ _⟩
    rw [ap.fits _ _ _ (by omega)]
    simp [storeCells]
   | @sle _ _ _ p q hq =>
    refine ⟨.slice (some ⟨q.B,p,none⟩) 0 0,w,i,?_,VRel.sle hq,hr,Fr.refl _ _ _⟩
    rw [ap.fits _ _ _ (by omega)]
    simp [storeCells]
  ·rename_i h0
   split at hv
   ·rename_i hbb
    split at hv
    · rename_i c e' hblk
      split at hv
      ·rename_i hcc
       obtain ⟨hee,hol⟩:=hcc
       subst hee
       cases hv
       have hi0:i h.n=none:=hcl _ (Nat.le_refl _) (by simp [H.n_new,H.n_put])
       have hrd:h.rdN b o (len*size)=some ((c.drop o).take (len*size)):=by
        unfold H.rdN;rw [hblk];simp only [];rw [if_pos hol]
       obtain ⟨o1,o2,olds,o3,o4⟩:=first_sound (P:=P) (n:=len) (size:=size) (l:=(c.drop o).take (len*size)) hr hx hrd ⟨len,rfl,Nat.le_refl _⟩
       have hk:=hr.kill b
       have slow:∀ (base:Option Addr) (cap:Nat),ux=.slice base len cap→¬ len+n≤cap →
         ∃ u w' i',(Builtin.append_ #[t,tu] ty #[ux,uy]).run P w=.ok u w'∧VRel i' (.sl h.n 0 (len+n) (.op size)) u ∧
          HRel i' ((h.put b .dead).new (.cells ((c.drop o).take (len*size) ++ new) e' false)) w'∧Fr i h w i' ((h.put b .dead).new (.cells ((c.drop o).take (len*size) ++ new) e' false)) w':=by
        intro base cap hux hno
        rw [hux] at o4
        exact grows base len cap hux o3 o2 o1 o4 hno hbb hk.1 hk.2 rfl hi0
       cases hx with
       | sle hq=>exact slow _ _ rfl (by omega)
       | @slo _ _ _ _ cp q hq hc hl =>
        by_cases hfit:len+n≤cp
        ·obtain ⟨C,fr,h2,h3,h4,h5,h6,h7⟩:=hr.ent hblk hq
         have hfr:=h6 rfl
         subst hfr
         have hN:=hc h2
         have hmul:(len+n)*size≤cp*size:=Nat.mul_le_mul_right _ hfit
         rw [Nat.add_mul] at hmul
         have hst:=run_storeCells_at (P:=P) q.B (q.s+o+len*size) e' us 0 C w h3 (by omega) (vs_one f3 f2)
         simp only [Nat.add_zero] at hst
         have hlo:((c.drop o).take (len*size)).length=len*size:=o1
         have hmv:=hr.move hi0 hblk hq (c':=(c.drop o).take (len*size) ++ new) (o:=o)
          (C':=(C.toList.take (q.s+o+len*size) ++ us ++ C.toList.drop (q.s+o+len*size+us.length)).toArray)
          (by simp;omega) (by rw [List.length_append,hlo,f1];omega)
          (by
           intro k v hk
           have hlk:(C.toList.take (q.s+o+len*size)).length=q.s+o+len*size:=by simp;omega
           simp only [List.getElem?_toArray,List.getElem?_append,hlk,List.length_append]
           rw [List.getElem?_append] at hk
           rw [hlo] at hk
           split at hk
           ·rename_i hk1
            rw [if_pos (by omega),if_pos (by omega),List.getElem?_take,if_pos (by omega)]
            rw [List.getElem?_take,if_pos hk1,List.getElem?_drop] at hk
            have:=h7 _ v hk
            simpa [Nat.add_assoc] using this
           ·rename_i hk1
            have hlt:=(List.getElem?_eq_some_iff.1 hk).1
            rw [if_pos (by omega),if_neg (by omega)]
            have:=cells_of f3 f2 _ v hk
            rw [show q.s+o+k - (q.s+o+len*size)=k - len*size by omega]
            simpa using this)
          (setRow_heap w q.B C _ e' (0,0) h3) (fun B hB=>setRow_other w q.B B _ hB) (setRow_size _ _ _) ⟨rfl,rfl⟩ rfl
         refine ⟨.slice (some ⟨q.B,q.s+o,none⟩) (len+n) cp,_,_,?_,?_,hmv.1,hmv.2⟩
         ·rw [ap.fits _ _ _ hfit]
          simp only [addr_add]
          rw [hst]
          simp [Result.andThen]
         ·have hv:=VRel.slo (i:=i.set h.n ⟨q.B,q.s+o,q.N,false⟩) (b:=h.n) (o:=0) (len:=len+n) (z:=size) (c:=cp) Inj.set_same (fun _=>by simpa using hN) hfit
          simpa using hv
        ·exact slow _ _ rfl hfit
      ·cases hv
    · cases hv
   ·cases hv
 ·cases hv
theorem ap_sound (hr:HRel i h w) {t tu ty:TypeId} {d:TypeDesc} (hu:P.underlying tu=some d) (hd:∀ k,d ≠ .int k) {x y:V} {ux uy:Value} (hx:VRel i x ux) (hy:VRel i y uy) {v:V} {h':H}
  (hv:apV P h t x y=some (v,h')) (hcl:i.clear h.n h'.n) :
  ∃ u w' i',(Builtin.append_ #[t,tu] ty #[ux,uy]).run P w=.ok u w'∧VRel i' v u∧HRel i' h' w'∧Fr i h w i' h' w':=by
 unfold apV at hv
 replace hv:=bind_some' hv;obtain ⟨e,he,hv⟩:=hv
 replace hv:=bind_some' hv;obtain ⟨size,hs,hv⟩:=hv
 replace hv:=bind_some' hv;obtain ⟨bytes,hby,hv⟩:=hv
 split at hv
 ·cases hv
 rename_i hcond
 have hzo:zeroOk P e size=true:=by
  cases hq:zeroOk P e size with
  | true=>rfl
  | false=>exact absurd (.inr (.inr hq)) hcond
 have hb0:0 < bytes:=Nat.pos_of_ne_zero fun e=>hcond (.inr (.inl e))
 unfold apZ at hv
 replace hv:=bind_some' hv;obtain ⟨n,hn,hv⟩:=hv
 replace hv:=bind_some' hv;obtain ⟨new,hnew,hv⟩:=hv
 have ht:=el_under he
 obtain ⟨Z,inf,z1,z2,z3⟩:=zeroOk_info hzo
 have hZ:∀ w:World,(zeroValue e).run P w=.ok Z w:=fun w=>by simp [zeroValue,typeInfo,z1,Result.andThen,z2]
 obtain ⟨f1,f2,us,f3,f4⟩:=first_sound (P:=P) hr hy hnew ⟨n,hn,Nat.le_refl _⟩
 have hlen:=lenOf_sound (P:=P) (w:=w) hy hn
 exact apN_sound (Z:=Z) hr ⟨fun base sLen sCap hfit=>run_append_fits (ty:=ty) ht hu hd hs hlen (f4 w rfl) base sLen sCap hfit,
  fun base sLen sCap olds hold hno hbb=>run_append_grows (ty:=ty) ht hu hd hs hby hlen f4 base sLen sCap hold hZ hno hbb hb0⟩ hb0 z3 f1 f2 f3 hx hv hcl
theorem range_cells (Z:Array Value) (n:Nat):Builtin.zeroCells Z n=((List.range (n*Z.size)).map fun k=>Z[k % Z.size]!).toArray:=by
 apply Array.ext'
 simp [Builtin.zeroCells]
theorem run_make_fits {t tu ty e:TypeId} {k:IntKind} (ht:P.underlying t=some (.slice e)) (hu:P.underlying tu=some (.int k)) {size bytes:Nat} (hs:szT P e=some size) (hb:byT P e=some bytes)
  {Z:Value} (hZ:∀ w:World,(zeroValue e).run P w=.ok Z w) (hz:Z.cells.size=size) {l:Int} (h0:0≤l) (h1:l < 9223372036854775808) (h2:l*(bytes:Int)≤140737488355328) (base:Option Addr) (sLen sCap:Nat) (hc:sLen+l.toNat≤sCap) :
  (Builtin.append_ #[t,tu] ty #[.slice base sLen sCap,.int k l]).run P w =
   Result.andThen (Sem.run P (match base with | some a=>storeCells (a.add (sLen*size)) ((List.range (l.toNat*Z.cells.size)).map fun k=>Z.cells[k % Z.cells.size]!) | none=>pure ():Sem Unit) w) (fun _ w'=>.ok (.slice base (sLen+l.toNat) sCap) w'):=by
 have hw1:IntKind.i64.wrap l=l:=by
  unfold IntKind.wrap;simp [IntKind.bits,IntKind.signed]
  rw [Int.emod_eq_of_lt (by omega) (by omega)]
  rw [if_neg (by omega)]
 obtain ⟨inf,hi1,hi2,hi3⟩:=run_by (P:=P) (w:=w) hb
 have hlt:¬ l < 0:=by omega
 have h48:¬ (281474976710656 < l*(inf.bytes:Int)):=by rw [hi2];omega
 have hzc:=range_cells Z.cells l.toNat
 by_cases hn0:l.toNat*size=0
 ·have he:((List.range (l.toNat*Z.cells.size)).map fun k=>Z.cells[k % Z.cells.size]!)=[]:=by rw [hz,hn0];rfl
  rw [he]
  cases base with
  | none=>simp [Builtin.append_,run_underlying ht,run_underlying hu,run_sz hs,asInt,asIntOf,hw1,hlt,hi3,h48,hc,hn0]
  | some a=>simp [Builtin.append_,run_underlying ht,run_underlying hu,run_sz hs,asInt,asIntOf,hw1,hlt,hi3,h48,hc,hn0,storeCells]
 ·cases base with
  | none=>simp [Builtin.append_,run_underlying ht,run_underlying hu,run_sz hs,asInt,asIntOf,hw1,hlt,hi3,h48,hc,hn0,hZ]
  | some a=>simp [Builtin.append_,run_underlying ht,run_underlying hu,run_sz hs,asInt,asIntOf,hw1,hlt,hi3,h48,hc,hn0,hZ,hzc]
theorem run_make_grows {t tu ty e:TypeId} {k:IntKind} (ht:P.underlying t=some (.slice e)) (hu:P.underlying tu=some (.int k)) {size bytes:Nat} (hs:szT P e=some size) (hb:byT P e=some bytes)
  {Z:Value} (hZ:∀ w:World,(zeroValue e).run P w=.ok Z w) (hz:Z.cells.size=size) {l:Int} (h0:0≤l) (h1:l < 9223372036854775808) (h2:l*(bytes:Int)≤140737488355328) (base:Option Addr) (sLen sCap:Nat) (olds:List Value)
  (hold:∀ w',w'.heap=w.heap→(Builtin.firstCells size sLen (.slice base sLen sCap)).run P w'=.ok olds.toArray w') (hc:¬ sLen+l.toNat≤sCap) (hby:(sLen+l.toNat)*bytes≤140737488355328) (hb0:0 < bytes) :
  ∃ w',w'.heap=w.heap.push (.cells (olds.toArray ++ ((List.range (l.toNat*Z.cells.size)).map fun k=>Z.cells[k % Z.cells.size]!).toArray ++ Builtin.zeroCells Z.cells (capAt w (sLen+l.toNat) sCap e - (sLen+l.toNat))) e) ∧
   (w'.os=w.os∧w'.tape=w.tape)∧w'.output=w.output ∧
   (Builtin.append_ #[t,tu] ty #[.slice base sLen sCap,.int k l]).run P w=.ok (.slice (some ⟨w.heap.size,0,none⟩) (sLen+l.toNat) (capAt w (sLen+l.toNat) sCap e)) w':=by
 have hw1:IntKind.i64.wrap l=l:=by
  unfold IntKind.wrap;simp [IntKind.bits,IntKind.signed]
  rw [Int.emod_eq_of_lt (by omega) (by omega)]
  rw [if_neg (by omega)]
 obtain ⟨inf,hi1,hi2,hi3⟩:=run_by (P:=P) (w:=w) hb
 have hi3':∀ w:World,(typeInfo e).run P w=.ok inf w:=fun w=>by simp [typeInfo,hi1]
 have hlt:¬ l < 0:=by omega
 have h48:¬ (281474976710656 < l*(inf.bytes:Int)):=by rw [hi2];omega
 have hzc:=range_cells Z.cells l.toNat
 have hfit:Builtin.nextslicecap (sLen+l.toNat) sCap*bytes≤281474976710656:=growslice_fits (by omega) hby
 have h48':¬ (281474976710656 < Builtin.nextslicecap (sLen+l.toNat) sCap*inf.bytes):=by rw [hi2];omega
 have hle:sLen+l.toNat≤140737488355328:=Nat.le_trans (Nat.le_mul_of_pos_right _ hb0) hby
 have hgt:¬ (9223372036854775807 < ((sLen:Int)+l)):=by omega
 have hgt':¬ (9223372036854775807 < ((sLen:Int)+max l 0)):=by omega
 have hold':=hold w.drew rfl
 refine ⟨w.drew.alloc (.cells (olds.toArray ++ ((List.range (l.toNat*Z.cells.size)).map fun k=>Z.cells[k % Z.cells.size]!).toArray ++ Builtin.zeroCells Z.cells (capAt w (sLen+l.toNat) sCap e - (sLen+l.toNat))) e),rfl,⟨rfl,rfl⟩,rfl,?_⟩
 by_cases hn0:l.toNat*size=0
 ·have he:((List.range (l.toNat*Z.cells.size)).map fun k=>Z.cells[k % Z.cells.size]!)=[]:=by rw [hz,hn0];rfl
  rw [he]
  simp [Builtin.append_,run_underlying ht,run_underlying hu,run_sz hs,asInt,asIntOf,hw1,hlt,hi3,hi3',h48,hc,hn0,hgt,hgt',h48',Question.forced,hold',hZ,newRow,capAt]
 ·simp [Builtin.append_,run_underlying ht,run_underlying hu,run_sz hs,asInt,asIntOf,hw1,hlt,hi3,hi3',h48,hc,hn0,hgt,hgt',h48',Question.forced,hold',hZ,newRow,capAt,hzc]
  congr 2
  apply Array.ext'
  simp [List.append_assoc]
theorem apM_sound (hr:HRel i h w) {t tu ty:TypeId} {k:IntKind} (hu:P.underlying tu=some (.int k)) {x y:V} {ux uy:Value} (hx:VRel i x ux) (hy:VRel i y uy) {v:V} {h':H}
  (hv:apMV P h t x y=some (v,h')) (hcl:i.clear h.n h'.n) :
  ∃ u w' i',(Builtin.append_ #[t,tu] ty #[ux,uy]).run P w=.ok u w'∧VRel i' v u∧HRel i' h' w'∧Fr i h w i' h' w':=by
 unfold apMV at hv
 replace hv:=bind_some' hv;obtain ⟨e,he,hv⟩:=hv
 replace hv:=bind_some' hv;obtain ⟨size,hs,hv⟩:=hv
 replace hv:=bind_some' hv;obtain ⟨bytes,hby,hv⟩:=hv
 split at hv
 ·cases hv
 rename_i hcond
 have hzo:zeroOk P e size=true:=by
  cases hq:zeroOk P e size with
  | true=>rfl
  | false=>exact absurd (.inr (.inr hq)) hcond
 have hb0:0 < bytes:=Nat.pos_of_ne_zero fun e=>hcond (.inr (.inl e))
 replace hv:=bind_some' hv;obtain ⟨z,hz,hv⟩:=hv
 unfold apM at hv
 split at hv
 ·rename_i k' l
  cases hy
  split at hv
  ·rename_i hb
   have ht:=el_under he
   obtain ⟨Z,hZ,z1,z2,z3⟩:=zero_sound' (P:=P) (i:=i) hz hzo
   have hl63:l < 9223372036854775808:=by
    have:l*1≤l*(bytes:Int):=Int.mul_le_mul_of_nonneg_left (by omega) hb.1
    omega
   have hzl:=z1.length
   simp at hzl
   refine apN_sound (Z:=Z) (ty:=ty) (us:=(List.range (l.toNat*Z.cells.size)).map fun k=>Z.cells[k % Z.cells.size]!) hr
    ⟨fun base sLen sCap hfit=>run_make_fits ht hu hs hby hZ z3 hb.1 hl63 hb.2 base sLen sCap hfit,
     fun base sLen sCap olds hold hno hbb=>run_make_grows ht hu hs hby hZ z3 hb.1 hl63 hb.2 base sLen sCap olds hold hno hbb hb0⟩ hb0 z3 ?_ (reps_all z2) (range_reps z1 l.toNat) hx hv hcl
   rw [reps_length]
   have:Z.cells.size=z.length:=hzl
   rw [← this,z3]
  ·cases hv
 ·cases hv
theorem copy_sound (hr:HRel i h w) {t tu ty:TypeId} {x y:V} {ux uy:Value} (hx:VRel i x ux) (hy:VRel i y uy) {v:V} {h':H} (hv:copyV P h t x y=some (v,h')) :
  ∃ u w',(Builtin.copy_ #[t,tu] ty #[ux,uy]).run P w=.ok u w'∧VRel i v u∧HRel i h' w'∧Fr i h w i h' w':=by
 unfold copyV at hv
 replace hv:=bind_some' hv;obtain ⟨e,he,hv⟩:=hv
 replace hv:=bind_some' hv;obtain ⟨size,hs,hv⟩:=hv
 unfold cpZ at hv
 replace hv:=bind_some' hv;obtain ⟨m,hm,hv⟩:=hv
 have ht:=el_under he
 have hlen:=lenOf_sound (P:=P) (w:=w) hy hm
 split at hv
 ·cases hx
  cases hv
  refine ⟨.int .i64 0,w,?_,.int _ _,hr,Fr.refl _ _ _⟩
  have hf:(Builtin.firstCells size 0 uy).run P w=.ok #[] w:=by
   cases hy <;> first | (simp [lenOf] at hm;done) | simp [Builtin.firstCells,loadCells,loadCellsFrom]
  simp [Builtin.copy_,run_underlying ht,Result.andThen,hlen,run_sz hs,hf,goInt]
 ·rename_i b o len cap
  replace hv:=bind_some' hv;obtain ⟨new,hnew,hv⟩:=hv
  replace hv:=bind_some' hv;obtain ⟨h1,hw1,hv⟩:=hv
  cases hv
  obtain ⟨f1,f2,us,f3,f4⟩:=first_sound (P:=P) hr hy hnew ⟨m,hm,Nat.min_le_left _ _⟩
  have husl:us.length=min m len*size:=f3.length.trans f1
  have hrun:∀ a c,ux=.slice (some a) len c→∀ w',(storeCells a us).run P w=.ok () w'→(Builtin.copy_ #[t,tu] ty #[ux,uy]).run P w=.ok (.int .i64 (min m len:Nat)) w':=by
   intro a c hux w' hst
   subst hux
   have hf:=f4 w rfl
   have hmin:Nat.min m len=min m len:=rfl
   simp [Builtin.copy_,run_underlying ht,Result.andThen,hlen,run_sz hs,hmin,hf,hst,goInt]
  have emp:∀ (q:Ent) (p:Nat),i b=some q→len=0→∃ w',(storeCells ⟨q.B,p,none⟩ us).run P w=.ok () w'∧HRel i h' w'∧Fr i h w i h' w':=by
   intro q p hq h0
   subst h0
   have husn:us=[]:=by simpa using husl
   subst husn
   obtain ⟨w',e1,e2,e3,e4⟩:=wrN_sound (P:=P) hr hq f3 f2 hw1
   simp [storeCells] at e1
   subst e1
   exact ⟨w,by simp [storeCells],e2,e3⟩
  cases hx with
  | @slx _ _ _ _ q hq =>
   obtain ⟨w',e1,e2,e3,e4⟩:=wrN_sound (P:=P) hr hq f3 f2 hw1
   exact ⟨_,w',hrun _ _ rfl w' e1,.int _ _,e2,e3⟩
  | @slo _ _ _ _ _ q hq hc hl =>
   obtain ⟨w',e1,e2,e3,e4⟩:=wrN_sound (P:=P) hr hq f3 f2 hw1
   exact ⟨_,w',hrun _ _ rfl w' e1,.int _ _,e2,e3⟩
  | @slz _ _ a =>
   have husn:us=[]:=by simpa using husl
   subst husn
   have hnw:new=[]:=List.eq_nil_of_length_eq_zero (by simpa using f1)
   subst hnw
   obtain ⟨e2,e3⟩:=wrN_nil_sound hr hw1
   exact ⟨_,w,hrun _ _ rfl w (by simp [storeCells]),.int _ _,e2,e3⟩
  | @sle _ _ _ p q hq =>
   obtain ⟨w',e1,e2,e3⟩:=emp q p hq rfl
   exact ⟨_,w',hrun _ _ rfl w' e1,.int _ _,e2,e3⟩
 ·cases hv
theorem eqLs_eq:∀ {ks:List Lf} {a b:List V},okLs ks a=true→okLs ks b=true→eqLs a b=true→a=b
 | [],[],[],_,_,_=>rfl
 | k :: ks,x :: a,y :: b,h1,h2,h3=>by
  simp [okLs,eqLs] at h1 h2 h3
  rw [eqLs_eq h1.2 h2.2 h3.2]
  cases k <;> cases x <;> simp [okLf] at h1 <;> cases y <;> simp [okLf,eq1] at h2 h3
  ·rw [h3.1]
  ·rw [← h1.1,← h2.1,h3.1]
 | [],_ :: _,_,h,_,_=>by simp [okLs] at h
 | [],[],_ :: _,_,h,_=>by simp [okLs] at h
 | _ :: _,[],_,h,_,_=>by simp [okLs] at h
 | _ :: _,_ :: _,[],_,h,_=>by simp [okLs] at h
theorem sameBits_ok (n:Nat):∀ {ks:List Lf} {a:List V},okLs ks a=true→((a.map valOf).zip (a.map valOf)).all (fun (x,y)=>Instr.sameBits n x y)=true
 | [],[],_=>rfl
 | k :: ks,x :: a,h=>by
  simp [okLs] at h
  have ih:=sameBits_ok n h.2
  simp only [List.map_cons,List.zip_cons_cons,List.all_cons,ih,Bool.and_true]
  cases k <;> cases x <;> simp [okLf] at h <;> cases n <;> simp [valOf,Instr.sameBits]
 | [],_ :: _,h=>by simp [okLs] at h
 | _ :: _,[],h=>by simp [okLs] at h
theorem findKey_agg {kt:TypeId} {d:TypeDesc} (hd:P.underlying kt=some d) (a:Array Value) (E:List MapEntry):(Instr.findKey kt (.agg a) E).run P w=(Instr.findAsking kt (.agg a) E 0).run P w:=by
 cases E with
 | nil=>simp [Instr.findKey,run_underlying hd,Instr.findNow,Instr.findAsking,Result.andThen]
 | cons e E =>
  have:Instr.findNow d (.agg a) (e :: E) 0=none:=by unfold Instr.findNow;cases d <;> rfl
  simp [Instr.findKey,run_underlying hd,this,Result.andThen]
theorem find_sound {kt:TypeId} {ks:List Lf} (hf:∀ cs:List Value,Fm P kt cs (.agg cs.toArray)) (hl:leafs P 20 kt=some ks) {kc:List V} (hk:okLs ks kc=true) :
  ∀ (es:List (V × V)) (E:List MapEntry) (n:Nat) {r:Option (Nat × V)},VsRel i (es.map (·.1)) (E.map (·.key))→VsRel i (es.map (·.2)) (E.map (·.val))→findI ks kc es n=some r →
  (r=none∧(Instr.findAsking kt (.agg (kc.map valOf).toArray) E n).run P w=.ok none w) ∨
  ∃ m v e,r=some (n+m,v)∧(Instr.findAsking kt (.agg (kc.map valOf).toArray) E n).run P w=.ok (some (n+m,e.val)) w∧es[m]?=some (.agg kc,v)∧E[m]?=some e∧e.key=.agg (kc.map valOf).toArray∧VRel i v e.val
 | [],E,n,r,h1,h2,h3=>by
  simp [findI] at h3
  subst h3
  cases E with
  | nil=>exact .inl ⟨rfl,by simp [Instr.findAsking]⟩
  | cons e E=>cases h1
 | (a,v) :: es,[],n,r,h1,h2,h3=>by cases h1
 | (a,v) :: es,e :: E,n,r,h1,h2,h3=>by
  cases h1 with
  | cons k1 k2 =>
  cases h2 with
  | cons v1 v2 =>
  cases a <;> simp only [findI,reduceCtorEq] at h3
  rename_i ac
  split at h3
  ·rename_i hok
   have k1:VRel i (.agg ac) e.key:=k1
   obtain ⟨us,hke,r1⟩:∃ us:List Value,e.key=.agg us.toArray∧VsRel i ac us:=by
    generalize e.key=q at k1
    cases k1 with
    | agg r1 _=>exact ⟨_,rfl,r1⟩
   have hus:=VsRel.of_lfs hok r1
   have hs:=same_at 20 10000 kt ks (by decide) hl w kc ac (.agg (kc.map valOf).toArray) (.agg us.toArray) hk hok (hf _) (by rw [hus];exact hf _)
   have heq:(Op.equal kt (.agg (kc.map valOf).toArray) e.key).run P w=.ok (eqLs kc ac) w:=by rw [hke];exact hs
   split at h3
   ·rename_i hq
    cases h3
    rw [hq] at heq
    have:=eqLs_eq hk hok hq
    subst this
    exact .inr ⟨0,v,e,rfl,by simp [Instr.findAsking,heq],rfl,rfl,by rw [hke,hus],v1⟩
   ·rename_i hq
    rw [Bool.not_eq_true] at hq
    rw [hq] at heq
    rcases find_sound hf hl hk es E (n+1) k2 v2 h3 with ⟨g1,g2⟩ | ⟨m,v',e',g1,g2,g3,g4,g5,g6⟩
    · exact .inl ⟨g1,by simp [Instr.findAsking,heq,g2]⟩
    · exact .inr ⟨m+1,v',e',by rw [g1,Nat.add_assoc,Nat.add_comm 1],by simp [Instr.findAsking,heq,g2,Nat.add_assoc,Nat.add_comm 1 m],by simpa using g3,by simpa using g4,g5,g6⟩
  ·cases h3
theorem keyT_sound {t et:TypeId} {ks:List Lf} (h:keyT P t=some (et,ks)):∃ kt d,P.underlying t=some (.map kt et)∧P.underlying kt=some d∧leafs P 20 kt=some ks∧∀ cs:List Value,Fm P kt cs (.agg cs.toArray):=by
 unfold keyT at h
 split at h
 ·rename_i kt et' hu
  obtain ⟨ks',h1,h2⟩:=Option.map_eq_some_iff.1 h
  cases h2
  unfold aggLf at h1
  split at h1
  ·rename_i hk
   split at h1
   ·cases h1
   ·exact ⟨kt,_,hu,hk,h1,fun cs=>by unfold Fm;rw [hk]⟩
  ·rename_i hk
   split at h1
   ·cases h1
   ·exact ⟨kt,_,hu,hk,h1,fun cs=>by unfold Fm;rw [hk]⟩
  ·cases h1
 ·cases h
theorem lk_sound (hr:HRel i h w) {t:TypeId} {m k:V} {um uk:Value} (hm:VRel i m um) (hk:VRel i k uk) {ok:Bool} {v:V} {h':H} (hv:lkV P h t m k ok=some (v,h')) :
  h'=h∧∃ u,(Instr.lookup t um uk ok).run P w=.ok u w∧VRel i v u:=by
 unfold lkV at hv
 replace hv:=bind_some' hv;obtain ⟨⟨et,ks⟩,hkt,hv⟩:=hv
 replace hv:=bind_some' hv;obtain ⟨z,hz,hv⟩:=hv
 obtain ⟨kt,d,hu,hd,hl,hf⟩:=keyT_sound hkt
 simp only at hz hv
 unfold lkM at hv
 split at hv
 ·rename_i b kc
  split at hv
  ·rename_i hok
   cases hm with
   | map hb =>
   cases hk with
   | agg r1 _ =>
   split at hv
   ·rename_i es hbe
    obtain ⟨x,E,clk,hx,_,hw,k1,k2⟩:=hr.blk _ _ hbe
    rw [hb] at hx;cases hx
    replace hv:=bind_some' hv;obtain ⟨r,hfi,hv⟩:=hv
    have hus:=VsRel.of_lfs hok r1
    have hzv:∃ Z,(zeroValue et).run P w=.ok Z w∧VRel i z Z:=by
      unfold zvT at hz
      obtain ⟨Z,hz1,rfl⟩:=Option.map_eq_some_iff.1 hz
      obtain ⟨x,hx1,hx2⟩:=Option.bind_eq_some_iff.1 hz1
      exact ⟨Z,by simp [zeroValue,typeInfo,hx1,Result.andThen,hx2],VRel.ofAtom i Z⟩
    obtain ⟨Z,hz1,hz2⟩:=hzv
    have hck:=check_at (P:=P) E.isEmpty 20 10000 kt ks (by decide) hl w kc (.agg (kc.map valOf).toArray) hok (hf _)
    rw [hus]
    rcases find_sound (w:=w) hf hl hok es E.toList 0 k1 k2 hfi with ⟨rfl,g2⟩ | ⟨m,v',e',rfl,g2,g3,g4,g5,g6⟩
    · simp only at hv
      cases ok
      ·simp at hv;obtain ⟨rfl,rfl⟩:=hv
       exact ⟨rfl,Z,by simp [Instr.lookup,run_underlying hu,MapKept.run_getObj_map hw,hck,findKey_agg hd,g2,hz1,Result.andThen],hz2⟩
      ·simp at hv;obtain ⟨rfl,rfl⟩:=hv
       exact ⟨rfl,_,by simp [Instr.lookup,run_underlying hu,MapKept.run_getObj_map hw,hck,findKey_agg hd,g2,hz1,Result.andThen],.tup (.cons hz2 (.cons (.bool _) .nil))⟩
    · simp only at hv
      cases ok
      ·simp at hv;obtain ⟨rfl,rfl⟩:=hv
       exact ⟨rfl,_,by simp [Instr.lookup,run_underlying hu,MapKept.run_getObj_map hw,hck,findKey_agg hd,g2,Result.andThen],g6⟩
      ·simp at hv;obtain ⟨rfl,rfl⟩:=hv
       exact ⟨rfl,_,by simp [Instr.lookup,run_underlying hu,MapKept.run_getObj_map hw,hck,findKey_agg hd,g2,Result.andThen],.tup (.cons g6 (.cons (.bool _) .nil))⟩
   ·cases hv
  ·cases hv
 ·cases hv
theorem vs_append {i:Inj}:∀ {a b:List V} {x y:List Value},VsRel i a x→VsRel i b y→VsRel i (a ++ b) (x ++ y)
 | [],_,_,_,.nil,h=>h
 | _ :: _,_,_,_,.cons h1 h2,h=>.cons h1 (vs_append h2 h)
theorem vs_set {i:Inj}:∀ {a:List V} {x:List Value} (j:Nat) {v:V} {u:Value},VsRel i a x→VRel i v u→VsRel i (a.set j v) (x.set j u)
 | [],_,_,_,_,.nil,_=>.nil
 | _ :: _,_,0,_,_,.cons h1 h2,h=>.cons h h2
 | _ :: _,_,j+1,_,_,.cons h1 h2,h=>.cons h1 (vs_set j h2 h)
theorem up_sound (hr:HRel i h w) {t:TypeId} {m k v:V} {um uk uv:Value} (hm:VRel i m um) (hk:VRel i k uk) (hvv:VRel i v uv) {r:V} {h':H} (hv:upV P h t m k v=some (r,h')) :
  r=.und∧∃ w',(Instr.mapUpdate t um uk uv).run P w=.ok () w'∧HRel i h' w'∧Fr i h w i h' w':=by
 unfold upV at hv
 replace hv:=bind_some' hv;obtain ⟨⟨et,ks⟩,hkt,hv⟩:=hv
 obtain ⟨kt,d,hu,hd,hl,hf⟩:=keyT_sound hkt
 simp only at hv
 unfold upM at hv
 split at hv
 ·rename_i b kc
  split at hv
  ·rename_i hok
   cases hm with
   | @map _ x hb =>
   cases hk with
   | agg r1 hcell =>
   split at hv
   ·rename_i es hbe
    obtain ⟨y,E,clk,hx,hro,hw,k1,k2⟩:=hr.blk _ _ hbe
    have hb':=hb
    rw [hb] at hx;cases hx
    replace hv:=bind_some' hv;obtain ⟨rr,hfi,hv⟩:=hv
    have hus:=VsRel.of_lfs hok r1
    have hck:=check_at (P:=P) false 20 10000 kt ks (by decide) hl w kc (.agg (kc.map valOf).toArray) hok (hf _)
    have kRel:VRel i (.agg kc) (.agg (kc.map valOf).toArray):=by rw [← hus];exact .agg r1 hcell
    rw [hus]
    rcases find_sound (w:=w) hf hl hok es E.toList 0 k1 k2 hfi with ⟨rfl,g2⟩ | ⟨m,v',e',rfl,g2,g3,g4,g5,g6⟩
    · simp only [Option.some.injEq,Prod.mk.injEq] at hv
      obtain ⟨rfl,rfl⟩:=hv
      refine ⟨rfl,{ w with heap:=w.heap.setIfInBounds x.B (.map (E.push { key:=.agg (kc.map valOf).toArray,val:=uv,born:=clk }) (clk+1)) },?_,?_⟩
      ·simp [Instr.mapUpdate,run_underlying hu,MapKept.run_getObj_map hw,hck,findKey_agg hd,g2,MapKept.run_setObj_map _ hw,Result.andThen]
      ·obtain ⟨s1,s2⟩:=MapKept.heap_set (o':=.map (E.push { key:=.agg (kc.map valOf).toArray,val:=uv,born:=clk }) (clk+1)) hw
       refine hr.writeB hbe rfl hb' rfl ⟨_,_,_,hb',hro,s1,?_,?_⟩ (fun B hB=>s2 B hB) (by simp) ⟨rfl,rfl⟩ rfl
       ·simp only [List.map_append,Array.toList_push,List.map_cons,List.map_nil]
        exact vs_append k1 (.cons kRel .nil)
       ·simp only [List.map_append,Array.toList_push,List.map_cons,List.map_nil]
        exact vs_append k2 (.cons hvv .nil)
    · simp only [Option.some.injEq,Prod.mk.injEq,Nat.zero_add] at hv
      obtain ⟨rfl,rfl⟩:=hv
      have gE:E[m]?=some e':=by rw [← Array.getElem?_toList];exact g4
      have hkeep:(Instr.keyThatStays e'.key (.agg (kc.map valOf).toArray)).run P w=.ok (.agg (kc.map valOf).toArray) w:=by
       rw [g5]
       have:Instr.sameBits 10000 (.agg (kc.map valOf).toArray) (.agg (kc.map valOf).toArray)=true:=by
        show ((_:Array Value).size == _ && _)=true
        simp only [BEq.rfl,Bool.true_and]
        exact sameBits_ok 9999 hok
       simp [Instr.keyThatStays,this]
      refine ⟨rfl,{ w with heap:=w.heap.setIfInBounds x.B (.map (E.modify m fun e=>{ e with key:=.agg (kc.map valOf).toArray,val:=uv }) clk) },?_,?_⟩
      ·simp [Instr.mapUpdate,run_underlying hu,MapKept.run_getObj_map hw,hck,findKey_agg hd,g2,gE,hkeep,MapKept.run_setObj_map _ hw,Result.andThen]
      ·obtain ⟨s1,s2⟩:=MapKept.heap_set (o':=.map (E.modify m fun e=>{ e with key:=.agg (kc.map valOf).toArray,val:=uv }) clk) hw
       refine hr.writeB hbe rfl hb' rfl ⟨_,_,_,hb',hro,s1,?_,?_⟩ (fun B hB=>s2 B hB) (by simp) ⟨rfl,rfl⟩ rfl
       ·have:(E.modify m fun e=>{ e with key:=.agg (kc.map valOf).toArray,val:=uv }).toList.map (·.key)=(E.toList.map (·.key)).set m (.agg (kc.map valOf).toArray):=by
         apply List.ext_getElem?
         intro j
         simp only [List.getElem?_map,Array.getElem?_toList,Array.getElem?_modify,List.getElem?_set,List.length_map]
         by_cases hj:m=j
         ·subst hj;simp [gE,(Array.getElem?_eq_some_iff.mp gE).1]
         ·simp [hj]
        rw [this,List.map_set]
        exact vs_set m k1 kRel
       ·have:(E.modify m fun e=>{ e with key:=.agg (kc.map valOf).toArray,val:=uv }).toList.map (·.val)=(E.toList.map (·.val)).set m uv:=by
         apply List.ext_getElem?
         intro j
         simp only [List.getElem?_map,Array.getElem?_toList,Array.getElem?_modify,List.getElem?_set,List.length_map]
         by_cases hj:m=j
         ·subst hj;simp [gE,(Array.getElem?_eq_some_iff.mp gE).1]
         ·simp [hj]
        rw [this,List.map_set]
        exact vs_set m k2 hvv
   ·cases hv
  ·cases hv
 ·cases hv
theorem heavy_sound (hr:HRel i h w) {s:Nat→V} {ρ:Operand→Value} (hs:∀ x,VRel i (Zf.ev s x) (ρ x)) (o:Oper) {v:V} {h':H} (hv:heavy P s h o.op=some (v,h')) (hcl:i.clear h.n h'.n) :
  ∃ r w' i',(execOp ρ o).run P w=.ok r w'∧(r=.skip∧v=.und∨∃ u,r=.value u∧VRel i' v u)∧HRel i' h' w'∧Fr i h w i' h' w':=by
 cases ho:o.op <;> rw [ho] at hv <;> simp only [heavy,reduceCtorEq] at hv
 case store t a x =>
  obtain ⟨h1,h2,w',e1,e2,e3⟩:=st_sound (P:=P) hr (hs a) (hs x) hv
  exact ⟨.skip,w',i,by simp [execOp,ho,e1,Result.andThen],.inl ⟨rfl,h1⟩,e2,e3⟩
 case makeMap t r =>
  cases r with
  | some r=>simp [heavy] at hv
  | none =>
   simp only [heavy,mkM,Option.some.injEq,Prod.mk.injEq] at hv
   obtain ⟨rfl,rfl⟩:=hv
   have hn:i h.n=none:=hcl h.n (Nat.le_refl _) (by rw [H.n_new];omega)
   have hw':(w.alloc (.map #[] 0)).heap=w.heap.push (.map #[] 0):=rfl
   obtain ⟨e2,e3⟩:=hr.allocB (X:=.map []) (N:=0) (o:=.map #[] 0) hn hw' ⟨rfl,rfl⟩ rfl ⟨_,#[],0,Inj.set_same,rfl,by rw [hw'];simp,.nil,.nil⟩
   exact ⟨.value (.map (some w.heap.size)),_,_,by simp [execOp,ho,Instr.makeMap,Result.andThen],.inr ⟨_,rfl,.map Inj.set_same⟩,e2,e3⟩
 case lookup t m k ok =>
  obtain ⟨rfl,u,e1,e2⟩:=lk_sound (P:=P) hr (hs m) (hs k) hv
  exact ⟨.value u,w,i,by simp [execOp,ho,e1,Result.andThen],.inr ⟨u,rfl,e2⟩,hr,Fr.refl _ _ _⟩
 case mapUpdate t m k x =>
  obtain ⟨h1,w',e1,e2,e3⟩:=up_sound (P:=P) hr (hs m) (hs k) (hs x) hv
  exact ⟨.skip,w',i,by simp [execOp,ho,e1,Result.andThen],.inl ⟨rfl,h1⟩,e2,e3⟩
 case insert t m k x =>
  obtain ⟨h1,w',e1,e2,e3⟩:=up_sound (P:=P) hr (hs m) (hs k) (hs x) hv
  exact ⟨.skip,w',i,by simp [execOp,ho,e1,Result.andThen],.inl ⟨rfl,h1⟩,e2,e3⟩
 case call c =>
  cases hcal:c.callee with
  | value f=>simp [hcal] at hv
  | invoke f m=>simp [hcal] at hv
  | builtin b =>
   rw [hcal] at hv
   have hexec:∀ S:Sem Value,builtin b c.argTypes o.type (c.args.map fun | .const _=>true | _=>false) (c.args.map ρ)=(do pure (.value (← S))) →
      (∃ u w' i',S.run P w=.ok u w'∧VRel i' v u∧HRel i' h' w'∧Fr i h w i' h' w') →
      ∃ r w' i',(execOp ρ o).run P w=.ok r w'∧(r=.skip∧v=.und∨∃ u,r=.value u∧VRel i' v u)∧HRel i' h' w'∧Fr i h w i' h' w':=by
    rintro S e ⟨u,w',i',h1,h2,h3,h4⟩
    refine ⟨.value u,w',i',?_,.inr ⟨u,rfl,h2⟩,h3,h4⟩
    have:(execOp ρ o).run P w=(builtin b c.argTypes o.type (c.args.map fun | .const _=>true | _=>false) (c.args.map ρ)).run P w:=by
      simp only [execOp,ho,Sem.run_bind,resolve,hcal,Sem.run_pure,Result.andThen]
      rfl
    rw [this,e]
    simp [h1,Result.andThen]
   cases b <;> simp only [reduceCtorEq] at hv
   case append =>
    split at hv
    · rename_i x y t u hx ht
      have e1:c.args=#[x,y]:=Array.ext' hx
      have e2:c.argTypes=#[t,u]:=Array.ext' ht
      split at hv
      ·rename_i k hk
       refine hexec (Builtin.append_ #[t,u] o.type #[ρ x,ρ y]) ?_ (apM_sound hr hk (hs x) (hs y) hv hcl)
       rw [e1,e2];simp [builtin]
      ·cases hv
      ·rename_i h1 h2
       obtain ⟨d,hd⟩:∃ d,P.underlying u=some d:=by
        cases hq:P.underlying u with
        | none=>exact absurd hq h2
        | some d=>exact ⟨d,rfl⟩
       refine hexec (Builtin.append_ #[t,u] o.type #[ρ x,ρ y]) ?_ (ap_sound hr hd (fun k hk=>h1 k (by rw [hd,hk])) (hs x) (hs y) hv hcl)
       rw [e1,e2];simp [builtin]
    · cases hv
   case copy =>
    split at hv
    · rename_i x y t u hx ht
      have e1:c.args=#[x,y]:=Array.ext' hx
      have e2:c.argTypes=#[t,u]:=Array.ext' ht
      obtain ⟨r,w',g1,g2,g3,g4⟩:=copy_sound (P:=P) (tu:=u) (ty:=o.type) hr (hs x) (hs y) hv
      refine hexec (Builtin.copy_ #[t,u] o.type #[ρ x,ρ y]) ?_ ⟨r,w',i,g1,g2,g3,g4⟩
      rw [e1,e2];simp [builtin]
    · cases hv
end Go.Zf
