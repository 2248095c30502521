/- The abstract logic. Own texts of this claim, packed: MkALTri. -/
import Derived.Test.YtnlfjojfgghchaaGreatDoorX05
set_option linter.all false
set_option linter.unusedVariables false
namespace AL
open Go
attribute [local semireducible] eqv agg
end AL
