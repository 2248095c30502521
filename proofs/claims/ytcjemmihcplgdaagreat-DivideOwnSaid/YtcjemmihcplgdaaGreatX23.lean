/- The abstract logic. Own texts of this claim, packed: ZzALWh. -/
import Derived.Test.YtcjemmihcplgdaaGreatX21
import Derived.Test.YtcjemmihcplgdaaGreatX08
set_option linter.all false
set_option linter.unusedVariables false
namespace AL
open Go
end AL
