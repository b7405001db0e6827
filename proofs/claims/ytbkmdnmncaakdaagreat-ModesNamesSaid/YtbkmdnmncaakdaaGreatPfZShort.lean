import Derived.Test.YtbkmdnmncaakdaaGreatPfZSimp
set_option linter.unusedVariables false
set_option linter.unusedSimpArgs false
namespace Go.Zf
abbrev So:=Zs->Yy->E->H->Out
abbrev R0:=Zs->Yy->H->Option (Rv×H)
abbrev R1:=Zs->Yy->V->H->Option (Rv×H)
abbrev R2:=Zs->Yy->V->V->H->Option (Rv×H)
abbrev R3:=Zs->Yy->V->V->V->H->Option (Rv×H)
abbrev R4:=Zs->Yy->V->V->V->V->H->Option (Rv×H)
abbrev R5:=Zs->Yy->V->V->V->V->V->H->Option (Rv×H)
abbrev R6:=Zs->Yy->V->V->V->V->V->V->H->Option (Rv×H)
abbrev R7:=Zs->Yy->V->V->V->V->V->V->V->H->Option (Rv×H)
def zz:V:=.int .i64 0
def In(n:Int):V:=.int .i64 n
def ff:V:=.bool false
def tt:V:=.bool true
def nm(e:E)(h:H):Out:=some ⟨.nm,e,h⟩
def rt(e:E)(h:H):Out:=some ⟨.rt,e,h⟩
def ex(n:Nat)(e:E)(h:H):Out:=some ⟨.ex n,e,h⟩
def ux(k:List Nat)(e:E)(t:Nat)(v:V):E:=⟨k.map (e.s k),t,v⟩
def bg{β:Type}(c:V)(w:Bool)(x:Option V)(k:V->Option β):Option β:=bd (gl c w x) k
def bp{β:Type}(a b c:V)(k:V->Option β):Option β:=bd (pk a b c) k
def bb{β:Type}(n:Nat)(o:BinOp)(a b:V)(k:V->Option β):Option β:=bd (ZQ n o a b) k
def ZM{β:Type}(h:H)(x:V)(k:V->Option β):Option β:=bd (ld h x) k
def YW{β:Type}(n:Nat)(h:H)(x:V)(k:V->Option β):Option β:=bd (XM n h x) k
def ZN{β:Type}(n:Nat)(x:V)(k:V->Option β):Option β:=bd (fa n x) k
def Y4{β:Type}(x:V)(n:Nat)(k:V->Option β):Option β:=bd (jF x n) k
def UY{β:Type}(x:V)(k:V->Option β):Option β:=bd (Kc x) k
def TV{β:Type}(o:UnOp)(x:V)(k:V->Option β):Option β:=bd (UZ o x) k
def Xu{β:Type}(n:Nat)(x i:V)(k:V->Option β):Option β:=bd (PY n x i) k
def Zn{β:Type}(x:V)(k:V->Option β):Option β:=bd (XC x) k
def YL{β:Type}(z:List V)(l:List (Option (Nat×Nat)×V))(k:V->Option β):Option β:=bd (bl z l) k
@[simp ↓] theorem xqP:zz=.int .i64 0:=id rfl
@[simp ↓] theorem xqO(n:Int):In n=.int .i64 n:=id rfl
@[simp ↓] theorem xqN:ff=.bool false:=id rfl
@[simp ↓] theorem xqM:tt=.bool true:=id rfl
@[simp ↓] theorem xqL(e:E)(h:H):nm e h=some ⟨.nm,e,h⟩:=id rfl
@[simp ↓] theorem rt_eq(e:E)(h:H):rt e h=some ⟨.rt,e,h⟩:=id rfl
@[simp ↓] theorem xqK(n:Nat)(e:E)(h:H):ex n e h=some ⟨.ex n,e,h⟩:=id rfl
@[simp ↓] theorem xqJ(k:List Nat)(e:E)(t:Nat)(v:V):ux k e t v=⟨k.map (e.s k),t,v⟩:=id rfl
@[simp ↓] theorem xqI{β:Type}(c:V)(w:Bool)(x:Option V)(k:V->Option β):bg c w x k=bd (gl c w x) k:=id rfl
@[simp ↓] theorem xqH{β:Type}(a b c:V)(k:V->Option β):bp a b c k=bd (pk a b c) k:=id rfl
@[simp ↓] theorem xqG{β:Type}(n:Nat)(o:BinOp)(a b:V)(k:V->Option β):bb n o a b k=bd (ZQ n o a b) k:=id rfl
@[simp ↓] theorem yqn{β:Type}(h:H)(x:V)(k:V->Option β):ZM h x k=bd (ld h x) k:=id rfl
@[simp ↓] theorem yqm{β:Type}(n:Nat)(h:H)(x:V)(k:V->Option β):YW n h x k=bd (XM n h x) k:=id rfl
@[simp ↓] theorem yql{β:Type}(n:Nat)(x:V)(k:V->Option β):ZN n x k=bd (fa n x) k:=id rfl
@[simp ↓] theorem yqk{β:Type}(x:V)(n:Nat)(k:V->Option β):Y4 x n k=bd (jF x n) k:=id rfl
@[simp ↓] theorem yqj{β:Type}(x:V)(k:V->Option β):UY x k=bd (Kc x) k:=id rfl
@[simp ↓] theorem yqi{β:Type}(o:UnOp)(x:V)(k:V->Option β):TV o x k=bd (UZ o x) k:=id rfl
@[simp ↓] theorem yqh{β:Type}(n:Nat)(x i:V)(k:V->Option β):Xu n x i k=bd (PY n x i) k:=id rfl
@[simp ↓] theorem yqg{β:Type}(x:V)(k:V->Option β):Zn x k=bd (XC x) k:=id rfl
@[simp ↓] theorem yqf{β:Type}(z:List V)(l:List (Option (Nat×Nat)×V))(k:V->Option β):YL z l k=bd (bl z l) k:=id rfl
end Go.Zf
