/- The walks of the functions and the plain laws. Own texts of this claim, packed: Zzdivp, ZzRefM. -/
import Derived.Test.YtcjemmihcplgdaaGreatX15
import Derived.Test.YtcjemmihcplgdaaGreatX16
import Derived.Test.YtcjemmihcplgdaaGreatX19
import Derived.Test.YtcjemmihcplgdaaGreatX18
set_option linter.all false
namespace Go.Proofs.YtcjemmihcplgdaaGreat
open AL Go
set_option maxRecDepth 100000
section
open ref01 ref03 ref04 ref06 prog prog2 prog3 prog6 Part Rungs LeftM QuoM
namespace divp
end divp
end
section
namespace RefM
open ref01 ref03 ref04 ref06 Part Rungs LeftM TrimM RoundM MergeM BisM BisM5 JudgM2 WitM LevM divr divs divd divf ChsM BisS TrimI QuoM FailM DivM QuoW
section
variable {t T:SS}
structure RW (t T:SS) (i:Nat) (l:List PP) (outs:List SA):Prop where
 nd:l.Nodup
 ok:∀p∈l,qOk t T p
 two:2≤l.length
 h0:ix l 0=(0,0)
 h1:ix l 1=bes
 il:i≤l.length
 dn:∀j,j<i→∀a∈actsL (qA t T) (ix l j),qN t T (ix l j) a.toNat∈l
 out:outs=(l.take i).map (ofL (qA t T) (qN t T) t.aC.length l)
structure RN (t T:SS) (i:Nat) (l:List PP) (k:Nat) (l2:List PP) (nx:List Int):Prop where
 nd:l2.Nodup
 ok:∀p∈l2,qOk t T p
 pre:l<+:l2
 dn:∀a:Nat,a<k→has (orAll (qA t T (ix l i))) (a:Int)=true→qN t T (ix l i) a∈l2
 nx:nx=(List.range k).map fun(a:Nat)=>if has (orAll (qA t T (ix l i))) (a:Int)=true then(pix l2 (qN t T (ix l i) a):Int) else-1
variable {i k:Nat} {l l2:List PP} {outs:List SA} {nx:List Int}
end
end RefM
end
end Go.Proofs.YtcjemmihcplgdaaGreat
