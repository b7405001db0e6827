import Derived.Test.YtbkmdnmncaakdaaGreatPfZText
set_option linter.unusedVariables false
set_option linter.unusedSimpArgs false
namespace Go.Zf
variable{P:Program}
def oJ(al:List (Nat×Operand))(t:Nat):Operand:=match al with
 |[]=>.tmp t
 |(d,x)::r=>if t=d then x else oJ r t
def alX(al:List (Nat×Operand)):Operand->Operand
 |.tmp t=>oJ al t
 |x=>x
def Ty(al:List (Nat×Operand))(s:Nat->V)(t:Nat):V:=ev s (oJ al t)
def jg(d:Nat):List (Nat×Operand)->List (Nat×Operand)
 |[]=>[]
 |(k,x)::r=>if k=d then jg d r else (k,x)::jg d r
def FO(d:Nat):List (Nat×Operand)->Bool
 |[]=>false
 |(_,.tmp t)::r=>decide (t=d)||FO d r
 |_::r=>FO d r
def N6(o:Oper):Option (Nat×Operand) :=
 match o.guard,o.dst,o.op with
 |none,some d,.move x=>some (d,x)
 |none,some d,.assign x=>some (d,x)
 |_,_,_=>none
def Cp(al:List (Nat×Operand))(d:Option Nat):List (Nat×Operand) :=
 match d with
 |none=>al
 |some d=>if FO d al then []else jg d al
def Cn(al:List (Nat×Operand))(s:Nat->V)(d:Option Nat)(v:V):Nat->V :=
 match d with
 |none=>s
 |some d=>if FO d al then WW (Ty al s) (some d) v else WW s (some d) v
theorem kG(al:List (Nat×Operand))(s:Nat->V)(x:Operand):ev (Ty al s) x=ev s (alX al x):=by
 cases x<;>rfl
theorem FN(al:List (Nat×Operand))(s:Nat->V)(d:Nat)(x:Operand):WW (Ty al s) (some d) (ev (Ty al s) x)=Ty ((d,alX al x)::al) s:=by
 funext t
 simp only[WW,Ty,oJ];by_cases h:t=d
 .simp only[h,if_true];exact kG al s x
 .simp only[h,if_false]
theorem FM(al:List (Nat×Operand))(s:Nat->V)(d:Option Nat)(v:V):WW (Ty al s) d v=Ty (Cp al d) (Cn al s d v):=by
 cases d with
 |none=>rfl
 |some d =>
  simp only[Cp,Cn];cases hh:FO d al with
  |true =>
   simp only[if_true]
   funext t
   simp[Ty,oJ,ev]
  |false =>
   simp only[Bool.false_eq_true,if_false]
   funext t
   simp only[WW];have key:∀al:List (Nat×Operand),FO d al=false->Ty (jg d al) (WW s (some d) v) t=if t=d then v else Ty al s t:=by
    intro al
    induction al with
    |nil =>
     intro _;simp only[Ty,jg,oJ,ev,WW]
    |cons p al ih =>
     obtain⟨k,x⟩:=p;intro hh;have hx:(∀y,x=.tmp y->y≠d)/\FO d al=false:=by
      cases x with
      |tmp y =>
       simp only[FO,Bool.or_eq_false_iff,decide_eq_false_iff_not]at hh;exact⟨λz hz=>by cases hz;exact hh.1,hh.2⟩
      |const _=>exact⟨λz hz=>(by cases hz),hh⟩
      |global _=>exact⟨λz hz=>(by cases hz),hh⟩
      |func _=>exact⟨λz hz=>(by cases hz),hh⟩
     have ih:=ih hx.2;simp only[Ty]at ih ⊢;simp only[jg];by_cases e1:k=d
     .simp only[e1,if_true]
      rw[ih];by_cases e2:t=d
      .simp[e2]
      .simp[oJ,e2]
     .simp only[e1,if_false,oJ]
      by_cases e2:t=k
      .have e3:t≠d:=λh=>e1 (e2.symm.trans h)
       simp only[e2,if_true,e1,if_false];cases x with
       |tmp y=>simp only[ev,WW];rw[if_neg (hx.1 y rfl)]
       |const _=>rfl
       |global _=>rfl
       |func _=>rfl
      .simp only[e2,if_false]
       exact ih
   exact (key al hh).symm
def opV(P:Program)(K:Zs)(ops:Array Oper)(o:Oper)(s:Nat->V)(h:H){β:Type}(pn:V->H->Option β)(k:V->H->Option β):Option β :=
 match kind o.op with
 |.light=>bd (Yq P (Zm ops s o) s h o.op) λv=>k v h
 |.fresh=>bf (Qi P (Zm ops s o) s h o.op) k
 |.WT=>bf (Qh P (Zm ops s o) s h o.op) k
 |.call=>bk (QM K (Zm ops s o) s h o.op) pn k
 |.none=>none
theorem Cm(P:Program)(K:Zs)(ops:Array Oper)(o:Oper)(s:Nat->V)(h:H){β:Type}(pn:V->H->Option β)(k:(Nat->V)->H->Option β):
  tP P K ops o s h pn k=opV P K ops o s h pn λv h=>k (WW s o.dst v) h:=by
 unfold tP opV;cases kind o.op<;>rfl
def FL(P:Program)(K:Zs)(all:Array Oper)(pn:V->H->Out)(fin:(Nat->V)->H->Out):List Oper->List (Nat×Operand)->(Nat->V)->H->Out
 |[],al,s,h=>fin (Ty al s) h
 |o::r,al,s,h=>match N6 o with
  |some (d,x)=>FL P K all pn fin r ((d,alX al x)::al) s h
  |none=>opV P K all o (Ty al s) h pn λv h=>FL P K all pn fin r (Cp al o.dst) (Cn al s o.dst v) h
theorem Nl{o:Oper}{d:Nat}{x:Operand}(h:N6 o=some (d,x))(K:Zs)(ops:Array Oper)(s:Nat->V)(hp:H){β:Type}(pn:V->H->Option β)(k:(Nat->V)->H->Option β):
  tP P K ops o s hp pn k=k (WW s (some d) (ev s x)) hp:=by
 unfold N6 at h;split at h
 .rename_i hg hd ho
  cases h;unfold tP Zm;rw[ho,hg,hd];rfl
 .rename_i hg hd ho
  cases h;unfold tP Zm;rw[ho,hg,hd];rfl
 .cases h
theorem KZ(K:Zs)(all:Array Oper)(pn:V->H->Out)(fin:(Nat->V)->H->Out):∀(l:List Oper) (al:List (Nat×Operand)) (s:Nat->V) (h:H),
  FL P K all pn fin l al s h=QR P K all pn fin l (Ty al s) h
 |[],al,s,h=>rfl
 |o::r,al,s,h=>by
  simp only[FL,QR];cases hc:N6 o with
  |some p =>
   obtain⟨d,x⟩:=p;simp only[];rw[Nl hc,FN];exact KZ K all pn fin r _ s h
  |none =>
   simp only[];rw[Cm]
   congr 1
   funext v h
   rw[KZ K all pn fin r,FM]
def FK(P:Program)(K:Zs)(all:Array Oper)(fin:(Nat->V)->H->List H->Out):List Nat->List (Nat×Operand)->(Nat->V)->H->List H->Out
 |[],al,s,h,hs=>fin (Ty al s) h hs
 |i::r,al,s,h,hs=>match all[i]? with
  |none=>none
  |some o=>match N6 o with
   |some (d,x)=>FK P K all fin r ((d,alX al x)::al) s h (if Y7 o.op then h::hs else hs)
   |none=>opV P K all o (Ty al s) h (λ_ _=>none) λv h=>FK P K all fin r (Cp al o.dst) (Cn al s o.dst v) h (if Y7 o.op then h::hs else hs)
theorem KY(K:Zs)(all:Array Oper)(fin:(Nat->V)->H->List H->Out):∀(l:List Nat) (al:List (Nat×Operand)) (s:Nat->V) (h:H) (hs:List H),
  FK P K all fin l al s h hs=QT P K all fin l (Ty al s) h hs
 |[],al,s,h,hs=>rfl
 |i::r,al,s,h,hs=>by
  simp only[FK,QT];cases ho:all[i]? with
  |none=>rfl
  |some o =>
   simp only[];cases hc:N6 o with
   |some p =>
    obtain⟨d,x⟩:=p;simp only[];rw[Nl hc,FN];exact KY K all fin r _ s h _
   |none =>
    simp only[];rw[Cm]
    congr 1
    funext v h
    rw[KY K all fin r,FM]
def kF(P:Program)(K:Zs)(keep:List Nat)(ops:Array Oper)(draw:Bool)(e:E)(h:H):Out :=
 if draw then
  match plan ops with
  |none=>none
  |some p=>Ks P K keep ops p e h (FK P K ops (λs h hs=>lO P ops s hs.reverse p.win (some ⟨.nm,SN keep (Lw ops.toList) s,h⟩)) p.ord [] (e.s keep) h [h])
 else FL P K ops (λv h=>some ⟨.pn v,Uc keep (RU ops.toList) e,h⟩) (λs h=>some ⟨.nm,SN keep (Lw ops.toList) s,h⟩) ops.toList [] (e.s keep) h
theorem Cl(s:Nat->V):Ty [] s=s:=rfl
theorem qz(P:Program)(K:Zs)(keep:List Nat)(ops:Array Oper)(draw:Bool)(e:E)(h:H):kF P K keep ops draw e h=FB P K keep ops draw e h:=by
 unfold kF FB;cases draw with
 |true =>
  simp only[if_true];cases plan ops with
  |none=>rfl
  |some p=>simp only[];rw[KY,Cl]
 |false =>
  simp only[Bool.false_eq_true,if_false];rw[KZ,Cl]
def OZ(P:Program)(K:Zs)(L:Yy)(keep:List Nat):Code->E->H->Out
 |.skip,e,h=>some ⟨.nm,e,h⟩
 |.region _ ops draw,e,h=>kF P K keep ops draw e h
 |.seq a b,e,h=>sq (OZ P K L keep a e h) λe h=>OZ P K L keep b e h
 |.cond c a b,e,h=>br (ev (e.s keep) c) (OZ P K L keep a e h) (OZ P K L keep b e h)
 |.block id c,e,h=>Y9 id (OZ P K L keep c e h)
 |.loop c,e,h=>L (λe h=>OZ P K L keep c e h) e h
 |.exit id,e,h=>some ⟨.ex id,e,h⟩
 |.scope c,e,h=>OZ P K L keep c e h
 |.label _,e,h=>some ⟨.nm,e,h⟩
 |.ret,e,h=>some ⟨.rt,e,h⟩
 |_,_,_=>none
theorem qy(P:Program)(K:Zs)(L:Yy)(keep:List Nat)(c:Code):∀(e:E) (h:H),OZ P K L keep c e h=den P K L keep c e h:=by
 induction c with
 |region id ops draw=>intro e h;exact qz P K keep ops draw e h
 |seq a b F4 Eb=>intro e h;simp only[OZ,den,F4,Eb]
 |cond c a b F4 Eb=>intro e h;simp only[OZ,den,F4,Eb]
 |block id c ih=>intro e h;simp only[OZ,den,ih]
 |loop c ih=>intro e h;simp only[OZ,den,ih]
 |scope c ih=>intro e h;simp only[OZ,den,ih]
 |_=>intro e h;rfl
def SM(P:Program)(kp:FuncId->List Nat)(K:Zs)(L:Yy)(f:FuncId)(args:List V)(h:H):Option (Rv×H) :=
 match P.funcs[f]? with
 |some fn=>match fn.body with
  |some c=>if lx fn then fin P (kp f) fn.results.toList (OZ P K L (kp f) c (VC (kp f) args) h)else none
  |none=>none
 |none=>none
theorem uW(P:Program)(kp:FuncId->List Nat)(K:Zs)(L:Yy)(f:FuncId)(args:List V)(h:H):SM P kp K L f args h=Nd P kp K L f args h:=by
 unfold SM Nd;cases P.funcs[f]? with
 |none=>rfl
 |some fn =>
  simp only[];cases fn.body with
  |none=>rfl
  |some c=>simp only[qy]
theorem AO(P:Program)(kp:FuncId->List Nat)(f:FuncId)(a:List V)(h:H):Wm P kp f a h=SM P kp (Wm P kp) ZI f a h:=by
 rw[uW];exact uV P kp f a h
end Go.Zf
