/- The walks of the functions and the plain laws. Own texts of this claim, packed: ZdProductSatisfiedJ. -/
import Derived.Test.YtcjemmihcplgdaaGreatDoorX15
import Derived.Test.YtcjemmihcplgdaaGreatDoorTie
import Derived.Test.YtcjemmihcplgdaaGreatDoorCards
import Derived.Test.YtcjemmihcplgdaaGreatDoorX27
set_option linter.all false
namespace Go.Proofs.YtcjemmihcplgdaaGreatDoor
open AL Go
set_option maxRecDepth 100000
section
open ref01 ref03 ref04 ref06 prog prog2 Itoa LawOpen LawOpen2
open Go.ChangeShapes Go.WideShapes Go.ChangeAt Go.WideElems Go.RowKit
theorem productSatisfied_closed:joinedFacts Tryz.checked.prog 8 Tryz.f8 Rows.productSatisfiedSpec Rows.productSatisfiedRow=true:=of_decide_eq_true kR
end
end Go.Proofs.YtcjemmihcplgdaaGreatDoor
