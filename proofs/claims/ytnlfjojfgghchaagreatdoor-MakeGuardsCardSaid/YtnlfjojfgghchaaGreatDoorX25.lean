/- The abstract logic. Own texts of this claim, packed: MkALIntMap. -/
import Derived.Test.YtnlfjojfgghchaaGreatDoorX06
set_option linter.all false
set_option linter.unusedVariables false
namespace AL
open Go
def kV (k:Int):Value:= .int .i64 k
def lR (k:Int):Prop:=inI k
theorem Gr {P:Program} {T K V:Nat} (hT:P.underlying T=some (.map K V)) (hK:P.underlying K=some (.int .i64)):mX P T K V kV lR where
 und:=hT
 kd:=Go.Maps.int_keyed hK
 dk:=fun k hk=>⟨.int .i64 k,by simp[kV,keyOf,hK,mapKey,Lr hk]⟩
 inj:=fun k k' _ _ h=>by cases h;rfl
end AL
