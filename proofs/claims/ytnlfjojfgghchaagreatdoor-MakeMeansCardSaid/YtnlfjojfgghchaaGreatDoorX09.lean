/- The abstract logic. Own texts of this claim, packed: MkALSortM. -/
import Derived.Test.YtnlfjojfgghchaaGreatDoorX00
set_option linter.all false
namespace AL
def bdP (p:Int × Int):Prop:= -4611686018427387904≤p.1∧p.1<4611686018427387904∧ -4611686018427387904≤p.2∧p.2<4611686018427387904
def lexB (p q:Int × Int):Bool:=decide (p.1<q.1)||(decide (p.1=q.1)&&decide (p.2<q.2))
def bT (xs:List (Int × Int)):List (Int × Int):=xs.mergeSort (fun p q=> !lexB q p)
theorem fJ (xs:List (Int × Int)):(bT xs).Perm xs:=List.mergeSort_perm _ _
theorem Cl (p q:Int × Int):(!lexB q p)=true↔p.1<q.1∨(p.1=q.1∧p.2≤q.2):=by
 unfold lexB;simp;omega
theorem sB (xs:List (Int × Int)):(bT xs).Pairwise (fun p q=>p.1<q.1∨(p.1=q.1∧p.2≤q.2)):=by
 have:=List.pairwise_mergeSort (le:=fun p q:Int × Int=> !lexB q p) (fun a b c h1 h2=>by
  rw[Cl] at*;omega) (fun a b=>by
  have h1:=Cl a b
  have h2:=Cl b a
  cases h:(!lexB b a) with
  |true=>rfl
  |false=>
   have h3:¬(a.1<b.1∨(a.1=b.1∧a.2≤b.2)):=fun h4=>by rw[h1.2 h4] at h;cases h
   rw[h2.2 O];rfl) xs
 exact this.imp (fun h=>(Cl _ _).1 h)
end AL
