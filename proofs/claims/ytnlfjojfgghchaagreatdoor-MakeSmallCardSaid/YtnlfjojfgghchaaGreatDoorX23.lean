/- The abstract logic. Own texts of this claim, packed: MkALIntMap. -/
import Derived.Test.YtnlfjojfgghchaaGreatDoorX05
set_option linter.all false
set_option linter.unusedVariables false
namespace AL
open Go
def lD (k:Int):Value:= .int .i64 k
def lX (k:Int):Prop:=inI k
theorem Ge {P:Program} {T K V:Nat} (hT:P.underlying T=some (.map K V)) (hK:P.underlying K=some (.int .i64)):mZ P T K V lD lX where
 und:=hT
 kd:=Go.Maps.int_keyed hK
 dk:=fun k hk=>⟨.int .i64 k,by simp[lD,keyOf,hK,mapKey,Lv hk]⟩
 inj:=fun k k' _ _ h=>by cases h;rfl
end AL
