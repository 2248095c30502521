/- The abstract logic. Own texts of this claim, packed: ZzALWh. -/
import Derived.Test.YtcjemmihcplgdaaGreatX22
import Derived.Test.YtcjemmihcplgdaaGreatX08
set_option linter.all false
set_option linter.unusedVariables false
namespace AL
open Go
theorem fn_wh2 {ι:Type} {P:Program} {f:FuncId} {a φ:AV} {p:Prop} {Hi:Hp} {res:Nat→ι→AV} {Ho:ι→Hp} (h:p→Fn P f [a,φ] Hi res Ho):Fn P f [a,whn p φ] Hi res Ho:=fun w F vs hvs=>by
 match vs,hvs with
 | [u,v],⟨h1,⟨hp,h2⟩,_⟩=>exact h hp w F [u,v] ⟨h1,h2,tV⟩
end AL
