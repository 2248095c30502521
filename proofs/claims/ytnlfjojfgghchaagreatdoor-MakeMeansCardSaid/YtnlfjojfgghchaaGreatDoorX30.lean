/- The abstract logic. Own texts of this claim, packed: MkALElem. -/
import Derived.Test.YtnlfjojfgghchaaGreatDoorX02
set_option linter.all false
set_option linter.unusedVariables false
namespace AL
open Go
attribute [local semireducible] any eqv agg tup fp ptr sl eG emp cell own obj osl dL
section
variable {P:Program} {r:Option Nat} {ops:Array Oper} {Q:Exit→Act→World→Prop} {rest:List Oper} {B:Base} {E:Env} {H:Hp}
end
end AL
