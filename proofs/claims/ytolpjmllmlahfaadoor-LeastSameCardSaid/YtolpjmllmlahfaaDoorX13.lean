/- The abstract logic. Own texts of this claim, packed: ALSortM. -/
import Derived.Test.YtolpjmllmlahfaaDoorX00
set_option linter.all false
namespace AL
def bdP (p:Int × Int):Prop:= -4611686018427387904≤p.1∧p.1<4611686018427387904∧ -4611686018427387904≤p.2∧p.2<4611686018427387904
def lexB (p q:Int × Int):Bool:=decide (p.1<q.1)||(decide (p.1=q.1)&&decide (p.2<q.2))
def sortP (xs:List (Int × Int)):List (Int × Int):=xs.mergeSort (fun p q=> !lexB q p)
theorem sortP_perm (xs:List (Int × Int)):(sortP xs).Perm xs:=List.mergeSort_perm _ _
end AL
