/- The abstract logic. Own texts of this claim, packed: MkALIntMap. -/
import Derived.Test.YtnlfjojfgghchaaGreatDoorX05
set_option linter.all false
set_option linter.unusedVariables false
namespace AL
open Go
def kI (k:Int):Value:= .int .i64 k
def lI (k:Int):Prop:=inI k
theorem Hg {P:Program} {T K V:Nat} (hT:P.underlying T=some (.map K V)) (hK:P.underlying K=some (.int .i64)):jN P T K V kI lI where
 und:=hT
 kd:=Go.Maps.int_keyed hK
 dk:=fun k hk=>⟨.int .i64 k,by simp[kI,keyOf,hK,mapKey,xZ hk]⟩
 inj:=fun k k' _ _ h=>by cases h;rfl
end AL
