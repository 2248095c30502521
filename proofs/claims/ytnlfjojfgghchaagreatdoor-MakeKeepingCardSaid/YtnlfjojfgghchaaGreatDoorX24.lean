/- The abstract logic. Own texts of this claim, packed: MkALIntMap. -/
import Derived.Test.YtnlfjojfgghchaaGreatDoorX06
set_option linter.all false
set_option linter.unusedVariables false
namespace AL
open Go
def inkV (k:Int):Value:= .int .i64 k
def inkD (k:Int):Prop:=inI k
theorem mapT_int {P:Program} {T K V:Nat} (hT:P.underlying T=some (.map K V)) (hK:P.underlying K=some (.int .i64)):MapT P T K V inkV inkD where
 und:=hT
 kd:=Go.Maps.int_keyed hK
 dk:=fun k hk=>⟨.int .i64 k,by simp[inkV,keyOf,hK,mapKey,int_wf hk]⟩
 inj:=fun k k' _ _ h=>by cases h;rfl
end AL
