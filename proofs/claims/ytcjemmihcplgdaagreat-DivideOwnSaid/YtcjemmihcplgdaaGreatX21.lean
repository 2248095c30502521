/- The abstract logic. Own texts of this claim, packed: ZzALDraw3. -/
import Derived.Test.YtcjemmihcplgdaaGreatX01
set_option linter.all false
set_option linter.unusedVariables false
namespace AL
open Go
section
variable {P:Program} {r:Option Nat} {ops:Array Oper} {Q:Exit→Act→World→Prop} {B:Base}
variable {ms:List Nat} {i:Nat} {E:(Nat→Value)→Env} {H:(Nat→Value)→Hp} {l:List Oper} {ks:List (Option Nat × List Nat)} {K:((Nat→Value)→Env)→((Nat→Value)→Hp)→Prop}
variable {rest:List Oper} {ty:Nat} {pos:String} {af:Array Edge} {d:Nat}
end
end AL
