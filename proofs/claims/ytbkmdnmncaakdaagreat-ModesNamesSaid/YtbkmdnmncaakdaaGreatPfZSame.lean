import Derived.Test.YtbkmdnmncaakdaaGreatPfZRel
import Derived.DeepKeys
import Derived.DeepKeys3
set_option linter.unusedVariables false
set_option linter.unusedSimpArgs false
namespace Go.Zf
variable{P:Program}
theorem Gd{t:TypeId}{fs:Array Field}(h:P.underlying t=some (.struct fs)):P.fieldsOf t=fs:=by
 simp[Program.fieldsOf,h]
def valOf:V->Value
 |.int k n=>.int k n
 |.bool b=>.bool b
 |_=>.nilFunc
theorem WR:∀{ks:List Lf} {xs:List V},Yr ks xs=true->xs.length=ks.length
 |[],[],_=>rfl
 |k::ks,x::xs,h=>by simp[Yr]at h;simp[WR h.2]
 |[],_::_,h=>by simp[Yr]at h
 |_::_,[],h=>by simp[Yr]at h
theorem WQ:∀{a b:List Lf} {xs:List V},Yr (a++b) xs=true->Yr a (xs.take a.length)=true/\Yr b (xs.drop a.length)=true
 |[],b,xs,h=>⟨rfl,h⟩
 |k::a,b,[],h=>by simp[Yr]at h
 |k::a,b,x::xs,h=>by
  simp[Yr]at h;have:=WQ h.2;simp[Yr,h.1,this.1,this.2]
theorem Qc:∀(n:Nat) {xs ys:List V},xs.length=ys.length->WX xs ys=(WX (xs.take n) (ys.take n)&&WX (xs.drop n) (ys.drop n))
 |0,xs,ys,_=>by simp[WX]
 |n+1,[],[],_=>by simp[WX]
 |n+1,x::xs,y::ys,h=>by
  simp[WX];rw[Qc n (by simpa using h),Bool.and_assoc]
 |n+1,[],y::ys,h=>by simp at h
 |n+1,x::xs,[],h=>by simp at h
variable{i:YJ}
theorem ZK.aF{k:Lf}{x:V}{u:Value}(h:Ky k x=true)(r:ZK i x u):u=valOf x:=by
 cases k<;>cases x<;>simp[Ky]at h<;>cases r<;>rfl
theorem ZA.Oc:∀{ks:List Lf} {xs:List V} {us:List Value},Yr ks xs=true->ZA i xs us->us=xs.map valOf
 |[],[],_,_,r=>by cases r;rfl
 |k::ks,x::xs,_,h,r=>by
  cases r with
  |cons r1 r2 =>
   simp[Yr]at h;rw[ZK.aF h.1 r1,ZA.Oc h.2 r2];rfl
 |[],_::_,_,h,_=>by simp[Yr]at h
 |_::_,[],_,h,_=>by simp[Yr]at h
def Fm(P:Program)(t:TypeId)(cs:List Value)(v:Value):Prop :=
 match P.underlying t with
 |some (.struct _)|some (.array _ _)=>v=.agg cs.toArray
 |_=>cs=[v]
theorem Lv{f:TypeId->Option (List Lf)}(hf:∀t l,f t=some l->l.length=P.cellsOf t):∀{fs:List Field} {off FA:Nat} {l:List Lf},TX P f fs off FA=some l->off+l.length=FA
 |[],off,FA,l,h=>by
  simp[TX]at h;obtain⟨rfl,rfl⟩:=h;rfl
 |x::r,off,FA,l,h=>by
  simp only[TX]at h;split at h
  .cases h
  .obtain⟨a,h1,h2⟩:=Option.bind_eq_some_iff.1 h
   obtain⟨b,h3,rfl⟩:=Option.map_eq_some_iff.1 h2;have:=Lv hf h3;rw[List.length_append,hf _ _ h1];omega
theorem Wn:∀{n:Nat} {t:TypeId} {l:List Lf},XH P n t=some l->l.length=P.cellsOf t
 |0,t,l,h=>by simp[XH]at h
 |n+1,t,l,h=>by
  unfold XH at h;split at h
  .split at h<;>cases h
   rename_i h1;exact h1.symm
  .split at h<;>cases h
   rename_i h1;exact h1.symm
  .split at h
   .cases h
   .have:=Lv (P:=P) (λt l=>Wn) h
    omega
  .obtain⟨a,h1,h2⟩:=Option.bind_eq_some_iff.1 h
   split at h2<;>cases h2;rename_i h3;have:=Wn h1;simp[List.length_flatten,this,h3]
  .cases h
variable{n off:Nat}{e:TypeId}
theorem HZ{l:List Lf}(hl:XH P n e=some l){cs:List Value}(ho:0<P.cellsOf e->off+P.cellsOf e<=cs.length)(w:World):
  ∃a,(part e cs.toArray off).run P w=.ok a w/\Fm P e ((cs.drop off).take (P.cellsOf e)) a:=by
 cases n with
 |zero=>simp[XH]at hl
 |succ n =>
  unfold XH at hl;cases hu:P.underlying e with
  |none=>simp[hu]at hl
  |some d =>
   obtain⟨i,hi⟩:=info_of_underlying hu;have one:P.plainKey e=true->P.cellsOf e=1->(∀fs,d≠.struct fs)->(∀m e',d≠.array m e')->∃a,(part e cs.toArray off).run P w=.ok a w/\Fm P e ((cs.drop off).take (P.cellsOf e)) a:=by
    intro hp h1 h2 h3;have Tm:off<cs.length:=by omega
    refine⟨cs[off],run_part_plain w hp (by simp[Tm]),?_⟩;have hc:(cs.drop off).take (P.cellsOf e)=[cs[off]]:=by
     rw[h1,List.drop_eq_getElem_cons Tm];rfl
    unfold Fm;rw[hu,hc];split
    .rename_i fs hx;cases hx;exact absurd rfl (h2 _)
    .rename_i m e' hx;cases hx;exact absurd rfl (h3 _ _)
    .rfl
   have hx:(cs.toArray.extract off (off+P.cellsOf e))=((cs.drop off).take (P.cellsOf e)).toArray:=by
    apply Array.ext';rw[Array.toList_extract];simp[List.extract]
   cases d<;>simp only[hu]at hl<;>try (cases hl;done)
   case bool =>
    split at hl
    .rename_i h1;exact one (by simp[Program.plainKey,hu]) h1 (λ_=>by simp) (λ_ _=>by simp)
    .cases hl
   case int k =>
    split at hl
    .rename_i h1;exact one (by simp[Program.plainKey,hu]) h1 (λ_=>by simp) (λ_ _=>by simp)
    .cases hl
   case struct fs =>
    refine⟨.agg (cs.toArray.extract off (off+P.cellsOf e)),by simp[part,isAgg,run_underlying hu,run_sizeOf w hi],?_⟩;unfold Fm;rw[hu,hx]
   case array m e' =>
    refine⟨.agg (cs.toArray.extract off (off+P.cellsOf e)),by simp[part,isAgg,run_underlying hu,run_sizeOf w hi],?_⟩;unfold Fm;rw[hu,hx]
def Lu(P:Program)(d:Nat)(t:TypeId)(ks:List Lf):Prop :=
 ∀(w:World) (xs ys:List V) (a b:Value),Yr ks xs=true->Yr ks ys=true->Fm P t (xs.map valOf) a->Fm P t (ys.map valOf) b->(Op.equalIn d t a b).run P w=.ok (WX xs ys) w
variable{d:Nat}{xs ys:List V}
theorem Js{l:List Lf}(hl:XH P n e=some l)(S:Lu P d e l)(w:World)(hx:Yr l ((xs.drop off).take l.length)=true)(hy:Yr l ((ys.drop off).take l.length)=true):
  ∃a b,(part e (xs.map valOf).toArray off).run P w=.ok a w/\(part e (ys.map valOf).toArray off).run P w=.ok b w/\(Op.equalIn d e a b).run P w=.ok (WX ((xs.drop off).take l.length) ((ys.drop off).take l.length)) w:=by
 have hc:=Wn hl;have fit:∀{zs:List V},Yr l ((zs.drop off).take l.length)=true->0<l.length->off+P.cellsOf e<=(zs.map valOf).length:=λh h0=>by
  have:=WR h;simp at this;simp;omega
 obtain⟨a,p1,f1⟩:=HZ hl (λh=>fit hx (by omega)) w;obtain⟨b,p2,f2⟩:=HZ hl (λh=>fit hy (by omega)) w;refine⟨a,b,p1,p2,S w _ _ a b hx hy ?_ ?_⟩
 .rw[hc,List.map_take,List.map_drop];exact f1
 .rw[hc,List.map_take,List.map_drop];exact f2
theorem Ny(S:∀e l,XH P n e=some l->Lu P d e l):∀(fs:List Field) (off FA:Nat) (ks:List Lf),TX P (XH P n) fs off FA=some ks->Yr ks (xs.drop off)=true->Yr ks (ys.drop off)=true->∀w:World,
  (Op.eqFields d (xs.map valOf).toArray (ys.map valOf).toArray fs).run P w=.ok (WX (xs.drop off) (ys.drop off)) w
 |[],off,FA,ks,h,hx,hy,w=>by
  simp[TX]at h;obtain⟨_,rfl⟩:=h;have e1:=WR hx;have e2:=WR hy;rw[List.length_eq_zero_iff.mp e1,List.length_eq_zero_iff.mp e2];simp[Op.eqFields,WX]
 |f::fs,off,FA,ks,h,hx,hy,w=>by
  simp only[TX]at h;split at h
  .cases h
  .rename_i hn
   simp only[Bool.or_eq_true,beq_iff_eq,decide_eq_true_eq,not_or,Classical.not_not]at hn;obtain⟨Uo,U0⟩:=hn;obtain⟨l,h1,h2⟩:=Option.bind_eq_some_iff.1 h;obtain⟨aK,h3,rfl⟩:=Option.map_eq_some_iff.1 h2;obtain⟨x1,x2⟩:=WQ hx;obtain⟨y1,y2⟩:=WQ hy;have hc:=Wn h1;rw[List.drop_drop,hc]at x2 y2;obtain⟨a,b,p1,p2,p3⟩:=Js h1 (S _ _ h1) w x1 y1;have ih:=Ny S fs _ FA aK h3 x2 y2 w;have hlen:(xs.drop off).length=(ys.drop off).length:=by rw[WR hx,WR hy]
   rw[Qc l.length hlen,List.drop_drop,List.drop_drop];simp only[Op.eqFields,Uo,ne_eq,not_false_eq_true,if_true,Sem.run_bind,U0,p1,p2,p3,Result.andThen_ok];cases WX ((xs.drop off).take l.length) ((ys.drop off).take l.length)
   .simp
   .simp only[Bool.not_true,Bool.false_eq_true,if_false,Bool.true_and,hc]
    exact ih
theorem Lt{l:List Lf}(hl:XH P n e=some l)(S:Lu P d e l):∀(m k:Nat),Yr (List.replicate m l).flatten (xs.drop (k*P.cellsOf e))=true->Yr (List.replicate m l).flatten (ys.drop (k*P.cellsOf e))=true->∀w:World,
  (Op.eqItems d e (P.cellsOf e) (xs.map valOf).toArray (ys.map valOf).toArray (List.range' k m)).run P w=.ok (WX (xs.drop (k*P.cellsOf e)) (ys.drop (k*P.cellsOf e))) w
 |0,k,hx,hy,w=>by
  have e1:=WR hx;have e2:=WR hy;simp only[List.replicate_zero,List.flatten_nil,List.length_nil]at e1 e2;rw[List.length_eq_zero_iff.mp e1,List.length_eq_zero_iff.mp e2];simp[Op.eqItems,WX]
 |m+1,k,hx,hy,w=>by
  have hc:=Wn hl;rw[List.replicate_succ,List.flatten_cons]at hx hy;have hlen:(xs.drop (k*P.cellsOf e)).length=(ys.drop (k*P.cellsOf e)).length:=by rw[WR hx,WR hy]
  obtain⟨x1,x2⟩:=WQ hx;obtain⟨y1,y2⟩:=WQ hy;have hk:k*P.cellsOf e+P.cellsOf e=(k+1)*P.cellsOf e:=by rw[Nat.succ_mul]
  rw[List.drop_drop,hc,hk]at x2 y2;obtain⟨a,b,p1,p2,p3⟩:=Js hl S w x1 y1;have ih:=Lt hl S m (k+1) x2 y2 w;rw[Qc l.length hlen,List.drop_drop,List.drop_drop];simp only[List.range'_succ,Op.eqItems,Sem.run_bind,p1,p2,p3,Result.andThen_ok];cases WX ((xs.drop (k*P.cellsOf e)).take l.length) ((ys.drop (k*P.cellsOf e)).take l.length)
  .simp
  .simp only[Bool.not_true,Bool.false_eq_true,if_false,Bool.true_and,hc,hk]
   exact ih
theorem HX:∀(n d:Nat) (t:TypeId) (ks:List Lf),n<=d->XH P n t=some ks->Lu P d t ks
 |0,d,t,ks,_,h=>by simp[XH]at h
 |n+1,0,t,ks,hd,h=>by omega
 |n+1,d+1,t,ks,hd,h=>by
  intro w xs ys a b hx hy fa fb;have IH:∀e l,XH P n e=some l->Lu P d e l:=λe l hl=>HX n d e l (by omega) hl;unfold XH at h;unfold Fm at fa fb;split at h
  .rename_i hu
   split at h<;>cases h;rw[hu]at fa fb
   match xs,ys,hx,hy with
   |[.bool p],[.bool q],_,_ =>
    simp[valOf]at fa fb;subst fa fb;rw[run_equalIn_bool' w d t p q hu];simp[WX,ui]
  .rename_i k hu
   split at h<;>cases h;rw[hu]at fa fb
   match xs,ys,hx,hy with
   |[.int k1 p],[.int k2 q],hx,hy =>
    simp[Yr,Ky]at hx hy;subst hx hy;simp[valOf]at fa fb;subst fa fb;rw[run_equalIn_int w d t _ _ p q hu];simp[WX,ui]
  .rename_i fs hu
   split at h
   .cases h
   .rename_i hs
    rw[hu]at fa fb;simp only at fa fb;subst fa fb;have hf:=Gd hu;rw[run_equalIn_struct w d t _ _ (by rw[hf];exact hu) (by simpa using hs),hf];exact Ny IH fs.toList 0 _ ks h (by simpa using hx) (by simpa using hy) w
  .rename_i m e hu
   obtain⟨l,h1,h2⟩:=Option.bind_eq_some_iff.1 h;split at h2<;>cases h2;rw[hu]at fa fb;simp only at fa fb;subst fa fb;have hi:∃i,P.info? e=some i:=by
    cases aE:P.underlying e with
    |none=>cases n<;>simp[XH,aE]at h1
    |some _=>exact info_of_underlying aE
   obtain⟨i,hi⟩:=hi;rw[run_equalIn_array w d _ _ hu hi,List.range_eq_range'];have:=Lt h1 (IH e l h1) m 0 (xs:=xs) (ys:=ys) (by simpa using hx) (by simpa using hy) w;simpa using this
  .cases h
theorem Nx:∀{fs:List Field} {off FA:Nat} {ks:List Lf},TX P (XH P n) fs off FA=some ks->Yr ks (xs.drop off)=true->∀f∈fs,f.name≠"_"/\∃l,XH P n f.type=some l/\Yr l ((xs.drop f.offset).take l.length)=true
 |[],_,_,_,_,_,f,hf=>by simp at hf
 |g::fs,off,FA,ks,h,hx,f,hf=>by
  simp only[TX]at h;split at h
  .cases h
  .rename_i hn
   simp only[Bool.or_eq_true,beq_iff_eq,decide_eq_true_eq,not_or,Classical.not_not]at hn;obtain⟨Uo,U0⟩:=hn;obtain⟨l,h1,h2⟩:=Option.bind_eq_some_iff.1 h;obtain⟨aK,h3,rfl⟩:=Option.map_eq_some_iff.1 h2;obtain⟨x1,x2⟩:=WQ hx;rw[List.drop_drop,Wn h1]at x2;rcases List.mem_cons.1 hf with rfl|hf
   .exact⟨Uo,l,h1,by rw[U0];exact x1⟩
   .exact Nx h3 x2 f hf
theorem Ls{l:List Lf}:∀(m k:Nat),Yr (List.replicate m l).flatten (xs.drop (k*l.length))=true->∀j∈List.range' k m,Yr l ((xs.drop (j*l.length)).take l.length)=true
 |0,k,_,j,hj=>by simp at hj
 |m+1,k,h,j,hj=>by
  rw[List.replicate_succ,List.flatten_cons]at h;obtain⟨x1,x2⟩:=WQ h;rw[List.drop_drop,show k*l.length+l.length=(k+1)*l.length by rw[Nat.succ_mul]]at x2;rw[List.range'_succ]at hj;rcases List.mem_cons.1 hj with rfl|hj
  .exact x1
  .exact Ls m (k+1) x2 j hj
theorem CO{l:List Lf}(hl:XH P n e=some l)(hx:Yr l ((xs.drop off).take l.length)=true)(w:World):
  ∃a,(part e (xs.map valOf).toArray off).run P w=.ok a w/\Fm P e (((xs.drop off).take l.length).map valOf) a:=by
 have hc:=Wn hl;obtain⟨a,p1,f1⟩:=HZ hl (cs:=xs.map valOf) (off:=off) (λh=>by
  have:=WR hx;simp at this;simp;omega) w
 exact⟨a,p1,by rw[hc,List.map_take,List.map_drop];exact f1⟩
theorem Lr(em:Bool):∀(n d:Nat) (t:TypeId) (ks:List Lf),n<=d->XH P n t=some ks->∀(w:World) (xs:List V) (a:Value),Yr ks xs=true->Fm P t (xs.map valOf) a->(Instr.checkKey em d t a).run P w=.ok () w
 |0,d,t,ks,_,h=>by simp[XH]at h
 |n+1,0,t,ks,hd,h=>by omega
 |n+1,d+1,t,ks,hd,h=>by
  intro w xs a hx fa;have IH:∀e l,XH P n e=some l->∀(w:World) (xs:List V) (a:Value),Yr l xs=true->Fm P e (xs.map valOf) a->(Instr.checkKey em d e a).run P w=.ok () w:=λe l hl=>Lr em n d e l (by omega) hl;unfold XH at h;unfold Fm at fa;split at h
  .rename_i hu
   rw[hu]at fa;unfold Instr.checkKey;simp only[Sem.run_bind,run_underlying hu,Result.andThen];cases a<;>simp
  .rename_i k hu
   rw[hu]at fa;unfold Instr.checkKey;simp only[Sem.run_bind,run_underlying hu,Result.andThen];cases a<;>simp
  .rename_i fs hu
   split at h
   .cases h
   .rw[hu]at fa
    simp only at fa;subst fa;have each:=Nx (xs:=xs) h (by simpa using hx);rw[Instr.checkKey];simp only[Sem.run_bind,run_underlying hu,Result.andThen_ok];rw[<-Array.forIn_toList];clear h;generalize fs.toList=L at each
    induction L with
    |nil=>simp
    |cons f L ih =>
     obtain⟨hn,l,hl,SI⟩:=each f (by simp);obtain⟨a,p1,f1⟩:=CO hl SI w;have p2:=IH _ _ hl w _ a SI f1;simp only[List.forIn_cons,Sem.run_bind,hn,ne_eq,not_false_eq_true,if_true,Result.andThen_ok,p1,p2,Sem.run_pure];exact ih (λy hy=>each y (by simp[hy]))
  .rename_i m e hu
   obtain⟨l,h1,h2⟩:=Option.bind_eq_some_iff.1 h;split at h2<;>cases h2;rw[hu]at fa;simp only at fa;subst fa;have hi:∃i,P.info? e=some i:=by
    cases aE:P.underlying e with
    |none=>cases n<;>simp[XH,aE]at h1
    |some _=>exact info_of_underlying aE
   obtain⟨i,hi⟩:=hi;have hc:=Wn h1;have each:=Ls (xs:=xs) m 0 (by simpa using hx);rw[hc]at each;rw[Instr.checkKey];simp only[Sem.run_bind,run_underlying hu,Result.andThen_ok];simp only[Std.Legacy.Range.forIn_eq_forIn_range',Std.Legacy.Range.size,Nat.sub_zero,Nat.add_one_sub_one,Nat.div_one];generalize List.range' 0 m=is at each
   induction is with
   |nil=>simp
   |cons j is ih =>
    have SI:=each j (by simp);obtain⟨a,p1,f1⟩:=CO h1 (by rw[hc];exact SI) w;have p2:=IH _ _ h1 w _ a (by rw[hc];exact SI) f1;simp only[List.forIn_cons,Sem.run_bind,run_sizeOf w hi,Result.andThen_ok,p1,p2,Sem.run_pure];exact ih (λy hy=>each y (by simp[hy]))
  .cases h
end Go.Zf
