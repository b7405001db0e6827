import Derived.Test.YtbkmdnmncaakdaaGreatPfZDraw
import Derived.Below
set_option linter.unusedVariables false
set_option linter.unusedSimpArgs false
namespace Go.Zf
open Go.RowKit
variable{P:Program}
def H.empty:H:=⟨0,.lf⟩
theorem Zb.empty(i:YJ)(hi:∀b,i b=none)(w:World):Zb i H.empty w where
 Y9:=λb x h=>by simp[H.get,H.empty]at h
 inj:=λb c x y p q h=>by simp[H.get,H.empty]at h
 bound:=λb x h=>by rw[hi]at h;cases h
variable{i:YJ}{h h':H}{w:World}
theorem Fr.below{i':YJ}{w':World}(f:Fr i h w i' h' w')(ho:∀b,¬h.Mv b):Below w.heap.size w w' where
 os:=f.os.1
 tape:=f.os.2
 output:=f.out
 size:=f.size
 block:=λk hk=>f.keep k hk λb _ hb=>absurd hb (ho b)
def yes:Option (Rv×H)->Bool
 |some (.ret (.bool true),_)=>true
 |_=>false
theorem AP{f:FuncId}{args:List V}(hc:HU P f args h (.ret (.bool true)) h'){us:List Value}(hr:Zb i h w)(hv:ZA i args us)(hi:∀b,h.n<=b->i b=none)(ho:∀b,¬h.Mv b):
  Calls P f us.toArray w λe w'=>e=.returned (.bool true)/\Below w.heap.size w w' :=
 (hc i w us hr hv λb h1 _=>hi b h1).mono λe w' ⟨i',h1,h2,u,h3,h4⟩=>by
  cases h4;exact⟨h3,h2.below ho⟩
end Go.Zf
