import Derived.Test.YtbkmdnmncaakdaaGreatPbZRel
import Derived.DeepKeys
import Derived.DeepKeys3
set_option linter.unusedVariables false
set_option linter.unusedSimpArgs false
namespace Go.Zf
variable {P:Program}
theorem fieldsOf_eq {t:TypeId} {fs:Array Field} (h:P.underlying t=some (.struct fs)):P.fieldsOf t=fs:=by
 simp [Program.fieldsOf,h]
def valOf:V→Value
 | .int k n=>.int k n
 | .bool b=>.bool b
 | _=>.nilFunc
theorem okLs_len:∀ {ks:List Lf} {xs:List V},okLs ks xs=true→xs.length=ks.length
 | [],[],_=>rfl
 | k :: ks,x :: xs,h=>by simp [okLs] at h;simp [okLs_len h.2]
 | [],_ :: _,h=>by simp [okLs] at h
 | _ :: _,[],h=>by simp [okLs] at h
theorem okLs_append:∀ {a b:List Lf} {xs:List V},okLs (a ++ b) xs=true→okLs a (xs.take a.length)=true∧okLs b (xs.drop a.length)=true
 | [],b,xs,h=>⟨rfl,h⟩
 | k :: a,b,[],h=>by simp [okLs] at h
 | k :: a,b,x :: xs,h=>by
  simp [okLs] at h
  have:=okLs_append h.2
  simp [okLs,h.1,this.1,this.2]
theorem eqLs_split:∀ (n:Nat) {xs ys:List V},xs.length=ys.length→eqLs xs ys=(eqLs (xs.take n) (ys.take n) && eqLs (xs.drop n) (ys.drop n))
 | 0,xs,ys,_=>by simp [eqLs]
 | n+1,[],[],_=>by simp [eqLs]
 | n+1,x :: xs,y :: ys,h=>by
  simp [eqLs]
  rw [eqLs_split n (by simpa using h),Bool.and_assoc]
 | n+1,[],y :: ys,h=>by simp at h
 | n+1,x :: xs,[],h=>by simp at h
theorem VRel.of_lf {i:Inj} {k:Lf} {x:V} {u:Value} (h:okLf k x=true) (r:VRel i x u):u=valOf x:=by
 cases k <;> cases x <;> simp [okLf] at h <;> cases r <;> rfl
theorem VsRel.of_lfs {i:Inj}:∀ {ks:List Lf} {xs:List V} {us:List Value},okLs ks xs=true→VsRel i xs us→us=xs.map valOf
 | [],[],_,_,r=>by cases r;rfl
 | k :: ks,x :: xs,_,h,r=>by
  cases r with
  | cons r1 r2 =>
   simp [okLs] at h
   rw [VRel.of_lf h.1 r1,VsRel.of_lfs h.2 r2];rfl
 | [],_ :: _,_,h,_=>by simp [okLs] at h
 | _ :: _,[],_,h,_=>by simp [okLs] at h
def Fm (P:Program) (t:TypeId) (cs:List Value) (v:Value):Prop :=
 match P.underlying t with
 | some (.struct _) | some (.array _ _)=>v=.agg cs.toArray
 | _=>cs=[v]
theorem leafsF_len {f:TypeId→Option (List Lf)} (hf:∀ t l,f t=some l→l.length=P.cellsOf t):∀ {fs:List Field} {off tot:Nat} {l:List Lf},leafsF P f fs off tot=some l→off+l.length=tot
 | [],off,tot,l,h=>by
  simp [leafsF] at h
  obtain ⟨rfl,rfl⟩:=h;rfl
 | x :: r,off,tot,l,h=>by
  simp only [leafsF] at h
  split at h
  ·cases h
  ·obtain ⟨a,h1,h2⟩:=Option.bind_eq_some_iff.1 h
   obtain ⟨b,h3,rfl⟩:=Option.map_eq_some_iff.1 h2
   have:=leafsF_len hf h3
   rw [List.length_append,hf _ _ h1];omega
theorem leafs_len:∀ {n:Nat} {t:TypeId} {l:List Lf},leafs P n t=some l→l.length=P.cellsOf t
 | 0,t,l,h=>by simp [leafs] at h
 | n+1,t,l,h=>by
  unfold leafs at h
  split at h
  ·split at h <;> cases h
   rename_i h1;exact h1.symm
  ·split at h <;> cases h
   rename_i h1;exact h1.symm
  ·split at h
   ·cases h
   ·have:=leafsF_len (P:=P) (fun t l=>leafs_len) h
    omega
  ·obtain ⟨a,h1,h2⟩:=Option.bind_eq_some_iff.1 h
   split at h2 <;> cases h2
   rename_i h3
   have:=leafs_len h1
   simp [List.length_flatten,this,h3]
  ·cases h
theorem part_fm {n:Nat} {e:TypeId} {l:List Lf} (hl:leafs P n e=some l) {cs:List Value} {off:Nat} (ho:0 < P.cellsOf e→off+P.cellsOf e≤cs.length) (w:World) :
  ∃ a,(part e cs.toArray off).run P w=.ok a w∧Fm P e ((cs.drop off).take (P.cellsOf e)) a:=by
 cases n with
 | zero=>simp [leafs] at hl
 | succ n =>
  unfold leafs at hl
  cases hu:P.underlying e with
  | none=>simp [hu] at hl
  | some d =>
   obtain ⟨i,hi⟩:=info_of_underlying hu
   have one:P.plainKey e=true→P.cellsOf e=1→(∀ fs,d ≠ .struct fs)→(∀ m e',d ≠ .array m e')→∃ a,(part e cs.toArray off).run P w=.ok a w∧Fm P e ((cs.drop off).take (P.cellsOf e)) a:=by
    intro hp h1 h2 h3
    have hlt:off < cs.length:=by omega
    refine ⟨cs[off],run_part_plain w hp (by simp [hlt]),?_⟩
    have hc:(cs.drop off).take (P.cellsOf e)=[cs[off]]:=by
     rw [h1,List.drop_eq_getElem_cons hlt];rfl
    unfold Fm
    rw [hu,hc]
    split
    ·rename_i fs hx;cases hx;exact absurd rfl (h2 _)
    ·rename_i m e' hx;cases hx;exact absurd rfl (h3 _ _)
    ·rfl
   have hx:(cs.toArray.extract off (off+P.cellsOf e))=((cs.drop off).take (P.cellsOf e)).toArray:=by
    apply Array.ext'
    rw [Array.toList_extract]
    simp [List.extract]
   cases d <;> simp only [hu] at hl <;> try (cases hl;done)
   case bool =>
    split at hl
    ·rename_i h1;exact one (by simp [Program.plainKey,hu]) h1 (fun _=>by simp) (fun _ _=>by simp)
    ·cases hl
   case int k =>
    split at hl
    ·rename_i h1;exact one (by simp [Program.plainKey,hu]) h1 (fun _=>by simp) (fun _ _=>by simp)
    ·cases hl
   case struct fs =>
    refine ⟨.agg (cs.toArray.extract off (off+P.cellsOf e)),by simp [part,isAgg,run_underlying hu,run_sizeOf w hi],?_⟩
    unfold Fm;rw [hu,hx]
   case array m e' =>
    refine ⟨.agg (cs.toArray.extract off (off+P.cellsOf e)),by simp [part,isAgg,run_underlying hu,run_sizeOf w hi],?_⟩
    unfold Fm;rw [hu,hx]
def SameAt (P:Program) (d:Nat) (t:TypeId) (ks:List Lf):Prop :=
 ∀ (w:World) (xs ys:List V) (a b:Value),okLs ks xs=true→okLs ks ys=true→Fm P t (xs.map valOf) a→Fm P t (ys.map valOf) b→(Op.equalIn d t a b).run P w=.ok (eqLs xs ys) w
theorem same_part {n d:Nat} {e:TypeId} {l:List Lf} (hl:leafs P n e=some l) (S:SameAt P d e l) (w:World) {xs ys:List V} {off:Nat} (hx:okLs l ((xs.drop off).take l.length)=true) (hy:okLs l ((ys.drop off).take l.length)=true) :
  ∃ a b,(part e (xs.map valOf).toArray off).run P w=.ok a w∧(part e (ys.map valOf).toArray off).run P w=.ok b w∧(Op.equalIn d e a b).run P w=.ok (eqLs ((xs.drop off).take l.length) ((ys.drop off).take l.length)) w:=by
 have hc:=leafs_len hl
 have fit:∀ {zs:List V},okLs l ((zs.drop off).take l.length)=true→0 < l.length→off+P.cellsOf e≤(zs.map valOf).length:=fun h h0=>by
  have:=okLs_len h
  simp at this
  simp;omega
 obtain ⟨a,p1,f1⟩:=part_fm hl (fun h=>fit hx (by omega)) w
 obtain ⟨b,p2,f2⟩:=part_fm hl (fun h=>fit hy (by omega)) w
 refine ⟨a,b,p1,p2,S w _ _ a b hx hy ?_ ?_⟩
 ·rw [hc,List.map_take,List.map_drop];exact f1
 ·rw [hc,List.map_take,List.map_drop];exact f2
theorem same_fields {n d:Nat} (S:∀ e l,leafs P n e=some l→SameAt P d e l) {xs ys:List V}:∀ (fs:List Field) (off tot:Nat) (ks:List Lf),leafsF P (leafs P n) fs off tot=some ks→okLs ks (xs.drop off)=true→okLs ks (ys.drop off)=true→∀ w:World,
  (Op.eqFields d (xs.map valOf).toArray (ys.map valOf).toArray fs).run P w=.ok (eqLs (xs.drop off) (ys.drop off)) w
 | [],off,tot,ks,h,hx,hy,w=>by
  simp [leafsF] at h
  obtain ⟨_,rfl⟩:=h
  have e1:=okLs_len hx
  have e2:=okLs_len hy
  rw [List.length_eq_zero_iff.mp e1,List.length_eq_zero_iff.mp e2]
  simp [Op.eqFields,eqLs]
 | f :: fs,off,tot,ks,h,hx,hy,w=>by
  simp only [leafsF] at h
  split at h
  ·cases h
  ·rename_i hn
   simp only [Bool.or_eq_true,beq_iff_eq,decide_eq_true_eq,not_or,Classical.not_not] at hn
   obtain ⟨hn1,hn2⟩:=hn
   obtain ⟨l,h1,h2⟩:=Option.bind_eq_some_iff.1 h
   obtain ⟨ks',h3,rfl⟩:=Option.map_eq_some_iff.1 h2
   obtain ⟨x1,x2⟩:=okLs_append hx
   obtain ⟨y1,y2⟩:=okLs_append hy
   have hc:=leafs_len h1
   rw [List.drop_drop,hc] at x2 y2
   obtain ⟨a,b,p1,p2,p3⟩:=same_part h1 (S _ _ h1) w x1 y1
   have ih:=same_fields S fs _ tot ks' h3 x2 y2 w
   have hlen:(xs.drop off).length=(ys.drop off).length:=by rw [okLs_len hx,okLs_len hy]
   rw [eqLs_split l.length hlen,List.drop_drop,List.drop_drop]
   simp only [Op.eqFields,hn1,ne_eq,not_false_eq_true,if_true,Sem.run_bind,hn2,p1,p2,p3,Result.andThen_ok]
   cases eqLs ((xs.drop off).take l.length) ((ys.drop off).take l.length)
   ·simp
   ·simp only [Bool.not_true,Bool.false_eq_true,if_false,Bool.true_and,hc]
    exact ih
theorem same_items {n d:Nat} {e:TypeId} {l:List Lf} (hl:leafs P n e=some l) (S:SameAt P d e l) {xs ys:List V}:∀ (m k:Nat),okLs (List.replicate m l).flatten (xs.drop (k*P.cellsOf e))=true→okLs (List.replicate m l).flatten (ys.drop (k*P.cellsOf e))=true→∀ w:World,
  (Op.eqItems d e (P.cellsOf e) (xs.map valOf).toArray (ys.map valOf).toArray (List.range' k m)).run P w=.ok (eqLs (xs.drop (k*P.cellsOf e)) (ys.drop (k*P.cellsOf e))) w
 | 0,k,hx,hy,w=>by
  have e1:=okLs_len hx
  have e2:=okLs_len hy
  simp only [List.replicate_zero,List.flatten_nil,List.length_nil] at e1 e2
  rw [List.length_eq_zero_iff.mp e1,List.length_eq_zero_iff.mp e2]
  simp [Op.eqItems,eqLs]
 | m+1,k,hx,hy,w=>by
  have hc:=leafs_len hl
  rw [List.replicate_succ,List.flatten_cons] at hx hy
  have hlen:(xs.drop (k*P.cellsOf e)).length=(ys.drop (k*P.cellsOf e)).length:=by rw [okLs_len hx,okLs_len hy]
  obtain ⟨x1,x2⟩:=okLs_append hx
  obtain ⟨y1,y2⟩:=okLs_append hy
  have hk:k*P.cellsOf e+P.cellsOf e=(k+1)*P.cellsOf e:=by rw [Nat.succ_mul]
  rw [List.drop_drop,hc,hk] at x2 y2
  obtain ⟨a,b,p1,p2,p3⟩:=same_part hl S w x1 y1
  have ih:=same_items hl S m (k+1) x2 y2 w
  rw [eqLs_split l.length hlen,List.drop_drop,List.drop_drop]
  simp only [List.range'_succ,Op.eqItems,Sem.run_bind,p1,p2,p3,Result.andThen_ok]
  cases eqLs ((xs.drop (k*P.cellsOf e)).take l.length) ((ys.drop (k*P.cellsOf e)).take l.length)
  ·simp
  ·simp only [Bool.not_true,Bool.false_eq_true,if_false,Bool.true_and,hc,hk]
   exact ih
theorem same_at:∀ (n d:Nat) (t:TypeId) (ks:List Lf),n≤d→leafs P n t=some ks→SameAt P d t ks
 | 0,d,t,ks,_,h=>by simp [leafs] at h
 | n+1,0,t,ks,hd,h=>by omega
 | n+1,d+1,t,ks,hd,h=>by
  intro w xs ys a b hx hy fa fb
  have IH:∀ e l,leafs P n e=some l→SameAt P d e l:=fun e l hl=>same_at n d e l (by omega) hl
  unfold leafs at h
  unfold Fm at fa fb
  split at h
  ·rename_i hu
   split at h <;> cases h
   rw [hu] at fa fb
   match xs,ys,hx,hy with
   | [.bool p],[.bool q],_,_ =>
    simp [valOf] at fa fb
    subst fa fb
    rw [run_equalIn_bool' w d t p q hu];simp [eqLs,eq1]
  ·rename_i k hu
   split at h <;> cases h
   rw [hu] at fa fb
   match xs,ys,hx,hy with
   | [.int k1 p],[.int k2 q],hx,hy =>
    simp [okLs,okLf] at hx hy
    subst hx hy
    simp [valOf] at fa fb
    subst fa fb
    rw [run_equalIn_int w d t _ _ p q hu];simp [eqLs,eq1]
  ·rename_i fs hu
   split at h
   ·cases h
   ·rename_i hs
    rw [hu] at fa fb
    simp only at fa fb
    subst fa fb
    have hf:=fieldsOf_eq hu
    rw [run_equalIn_struct w d t _ _ (by rw [hf];exact hu) (by simpa using hs),hf]
    exact same_fields IH fs.toList 0 _ ks h (by simpa using hx) (by simpa using hy) w
  ·rename_i m e hu
   obtain ⟨l,h1,h2⟩:=Option.bind_eq_some_iff.1 h
   split at h2 <;> cases h2
   rw [hu] at fa fb
   simp only at fa fb
   subst fa fb
   have hi:∃ i,P.info? e=some i:=by
    cases hue:P.underlying e with
    | none=>cases n <;> simp [leafs,hue] at h1
    | some _=>exact info_of_underlying hue
   obtain ⟨i,hi⟩:=hi
   rw [run_equalIn_array w d _ _ hu hi,List.range_eq_range']
   have:=same_items h1 (IH e l h1) m 0 (xs:=xs) (ys:=ys) (by simpa using hx) (by simpa using hy) w
   simpa using this
  ·cases h
theorem leafsF_each {n:Nat} {xs:List V}:∀ {fs:List Field} {off tot:Nat} {ks:List Lf},leafsF P (leafs P n) fs off tot=some ks→okLs ks (xs.drop off)=true→∀ f ∈ fs,f.name ≠ "_"∧∃ l,leafs P n f.type=some l∧okLs l ((xs.drop f.offset).take l.length)=true
 | [],_,_,_,_,_,f,hf=>by simp at hf
 | g :: fs,off,tot,ks,h,hx,f,hf=>by
  simp only [leafsF] at h
  split at h
  ·cases h
  ·rename_i hn
   simp only [Bool.or_eq_true,beq_iff_eq,decide_eq_true_eq,not_or,Classical.not_not] at hn
   obtain ⟨hn1,hn2⟩:=hn
   obtain ⟨l,h1,h2⟩:=Option.bind_eq_some_iff.1 h
   obtain ⟨ks',h3,rfl⟩:=Option.map_eq_some_iff.1 h2
   obtain ⟨x1,x2⟩:=okLs_append hx
   rw [List.drop_drop,leafs_len h1] at x2
   rcases List.mem_cons.1 hf with rfl | hf
   ·exact ⟨hn1,l,h1,by rw [hn2];exact x1⟩
   ·exact leafsF_each h3 x2 f hf
theorem items_each {l:List Lf} {xs:List V}:∀ (m k:Nat),okLs (List.replicate m l).flatten (xs.drop (k*l.length))=true→∀ j ∈ List.range' k m,okLs l ((xs.drop (j*l.length)).take l.length)=true
 | 0,k,_,j,hj=>by simp at hj
 | m+1,k,h,j,hj=>by
  rw [List.replicate_succ,List.flatten_cons] at h
  obtain ⟨x1,x2⟩:=okLs_append h
  rw [List.drop_drop,show k*l.length+l.length=(k+1)*l.length by rw [Nat.succ_mul]] at x2
  rw [List.range'_succ] at hj
  rcases List.mem_cons.1 hj with rfl | hj
  ·exact x1
  ·exact items_each m (k+1) x2 j hj
theorem part_ok {n:Nat} {e:TypeId} {l:List Lf} (hl:leafs P n e=some l) {xs:List V} {off:Nat} (hx:okLs l ((xs.drop off).take l.length)=true) (w:World) :
  ∃ a,(part e (xs.map valOf).toArray off).run P w=.ok a w∧Fm P e (((xs.drop off).take l.length).map valOf) a:=by
 have hc:=leafs_len hl
 obtain ⟨a,p1,f1⟩:=part_fm hl (cs:=xs.map valOf) (off:=off) (fun h=>by
  have:=okLs_len hx
  simp at this
  simp;omega) w
 exact ⟨a,p1,by rw [hc,List.map_take,List.map_drop];exact f1⟩
theorem check_at (em:Bool):∀ (n d:Nat) (t:TypeId) (ks:List Lf),n≤d→leafs P n t=some ks→∀ (w:World) (xs:List V) (a:Value),okLs ks xs=true→Fm P t (xs.map valOf) a→(Instr.checkKey em d t a).run P w=.ok () w
 | 0,d,t,ks,_,h=>by simp [leafs] at h
 | n+1,0,t,ks,hd,h=>by omega
 | n+1,d+1,t,ks,hd,h=>by
  intro w xs a hx fa
  have IH:∀ e l,leafs P n e=some l→∀ (w:World) (xs:List V) (a:Value),okLs l xs=true→Fm P e (xs.map valOf) a→(Instr.checkKey em d e a).run P w=.ok () w:=fun e l hl=>check_at em n d e l (by omega) hl
  unfold leafs at h
  unfold Fm at fa
  split at h
  ·rename_i hu
   rw [hu] at fa
   unfold Instr.checkKey
   simp only [Sem.run_bind,run_underlying hu,Result.andThen]
   cases a <;> simp
  ·rename_i k hu
   rw [hu] at fa
   unfold Instr.checkKey
   simp only [Sem.run_bind,run_underlying hu,Result.andThen]
   cases a <;> simp
  ·rename_i fs hu
   split at h
   ·cases h
   ·rw [hu] at fa
    simp only at fa
    subst fa
    have each:=leafsF_each (xs:=xs) h (by simpa using hx)
    rw [Instr.checkKey]
    simp only [Sem.run_bind,run_underlying hu,Result.andThen_ok]
    rw [← Array.forIn_toList]
    clear h
    generalize fs.toList=L at each
    induction L with
    | nil=>simp
    | cons f L ih =>
     obtain ⟨hn,l,hl,hok⟩:=each f (by simp)
     obtain ⟨a,p1,f1⟩:=part_ok hl hok w
     have p2:=IH _ _ hl w _ a hok f1
     simp only [List.forIn_cons,Sem.run_bind,hn,ne_eq,not_false_eq_true,if_true,Result.andThen_ok,p1,p2,Sem.run_pure]
     exact ih (fun y hy=>each y (by simp [hy]))
  ·rename_i m e hu
   obtain ⟨l,h1,h2⟩:=Option.bind_eq_some_iff.1 h
   split at h2 <;> cases h2
   rw [hu] at fa
   simp only at fa
   subst fa
   have hi:∃ i,P.info? e=some i:=by
    cases hue:P.underlying e with
    | none=>cases n <;> simp [leafs,hue] at h1
    | some _=>exact info_of_underlying hue
   obtain ⟨i,hi⟩:=hi
   have hc:=leafs_len h1
   have each:=items_each (xs:=xs) m 0 (by simpa using hx)
   rw [hc] at each
   rw [Instr.checkKey]
   simp only [Sem.run_bind,run_underlying hu,Result.andThen_ok]
   simp only [Std.Legacy.Range.forIn_eq_forIn_range',Std.Legacy.Range.size,Nat.sub_zero,Nat.add_one_sub_one,Nat.div_one]
   generalize List.range' 0 m=is at each
   induction is with
   | nil=>simp
   | cons j is ih =>
    have hok:=each j (by simp)
    obtain ⟨a,p1,f1⟩:=part_ok h1 (by rw [hc];exact hok) w
    have p2:=IH _ _ h1 w _ a (by rw [hc];exact hok) f1
    simp only [List.forIn_cons,Sem.run_bind,run_sizeOf w hi,Result.andThen_ok,p1,p2,Sem.run_pure]
    exact ih (fun y hy=>each y (by simp [hy]))
  ·cases h
end Go.Zf
