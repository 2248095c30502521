/- The abstract logic. Own texts of this claim, packed: ZdALArr. -/
import Derived.Test.YtcjemmihcplgdaaGreatDoorX06
import Derived.Test.YtcjemmihcplgdaaGreatDoorX01
import Derived.Laws.StructEq
set_option linter.all false
set_option linter.unusedVariables false
namespace AL
open Go
section
variable {P:Program} {r:Option Nat} {ops:Array Oper} {Q:Exit→Act→World→Prop} {rest:List Oper} {B:Base} {E:Env} {H:Hp}
variable {d ty:Nat} {pos:String} {af:Array Edge}
end
end AL
