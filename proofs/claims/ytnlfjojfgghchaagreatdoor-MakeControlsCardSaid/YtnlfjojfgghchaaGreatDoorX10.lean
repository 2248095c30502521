/- The walks of the functions and the plain laws. Own texts of this claim, packed: MkWitM. -/
import Derived.Test.YtnlfjojfgghchaaGreatDoorX06
import Derived.Test.YtnlfjojfgghchaaGreatDoorX08
import Derived.Test.YtnlfjojfgghchaaGreatDoorX09
set_option linter.all false
namespace Go.Proofs.YtnlfjojfgghchaaGreatDoor
open AL Go
section
open ref01 ref03 ref04 ref06 prog15 starts Part Rungs LeftM TrimM RoundM BisM BisM5 BisM6 WalkM StepM
structure aA where
 aC:List ByteArray
 sT:List (List (Int × Int))
deriving Inhabited
namespace WitM
abbrev PP:=Int × Int
structure Vq (T:SS) (done:List PP) (ss:List (List Int)):Prop where
 len:ss.length=T.sT.length
 mem:∀x,x<T.sT.length→∀u,u∈ix ss x↔u=ix (acc T x) 0∨((x:Int),u)∈done
 nd:∀x,x<T.sT.length→(ix ss x).Nodup
structure YE (T:SS) (want:List PP):Prop where
 ok:∀p∈want,0≤p.1∧p.1<(T.sT.length:Int)∧p.2∈acc T p.1.toNat
 ne:∀x,x<T.sT.length→0<(acc T x).length
 few:want.length≤2000000000
def Ew (q:List PP) (p:PP):Option Int:=if p∈q then some (q.idxOf p:Int) else none
def kL (mm:List (PP × Int)) (q:List PP):Prop:=∀p,bP mm p=Ew q p
theorem FF {q r:List PP} {p:PP} (h:p∈q):(q++r).idxOf p=q.idxOf p:=by rw[List.idxOf_append,if_pos h]
theorem Ic {q:List PP} {p:PP} (h:p∉q):(q++ [p]).idxOf p=q.length:=by rw[List.idxOf_append,if_neg h];simp
theorem pY {mm:List (PP × Int)} {q:List PP} (h:kL mm q) {p:PP} (hp:p∉q):kL (cD mm p (q.length:Int)) (q++ [p]):=by
 intro r
 rw[nA,h r]
 unfold Ew
 by_cases e:p=r
 ·subst e
  rw[if_pos rfl,if_pos (by simp),Ic hp]
 ·rw[if_neg e]
  by_cases hr:r∈q
  ·rw[if_pos hr,if_pos (by simp[hr]),FF hr]
  ·rw[if_neg hr,if_neg (by simp[hr,Ne.symm e])]
theorem Ou (p:PP):kL (cD [] p 0) [p]:=pY (q:= []) (mm:= []) (fun p=>rfl) (by simp)
structure WQ (T:SS) (ss:List (List Int)) (f:PP) (q:List PP):Prop where
 ne:0<q.length
 hd:ix q 0=f
 nd:q.Nodup
 bd:∀p∈q,0≤p.1∧p.1<(T.sT.length:Int)∧p.2∈ix ss p.1.toNat
def tgt (T:SS) (p:PP) (a:Int):Int:=ix (nxt T p.1.toNat) a.toNat
def edA (T:SS) (ss:List (List Int)) (q:List PP) (p:PP) (a:Int):List PP:=(ix ss (tgt T p a).toNat).map fun u=>(a,(q.idxOf (tgt T p a,u):Int))
def ClA (T:SS) (ss:List (List Int)) (q:List PP) (p:PP) (a:Int):Prop:=∀u∈ix ss (tgt T p a).toNat,(tgt T p a,u)∈q
def edF (T:SS) (ss:List (List Int)) (q:List PP) (p:PP):List PP:=(aK 63 p.2).flatMap (edA T ss q p)
theorem wB {l m:List PP} {j:Nat} (h:j<l.length):ix (l++m) j=ix l j:=by
 rw[aD (by simp;omega),aD h,List.getElem_append_left h]
structure WI (T:SS) (ss:List (List Int)) (f:PP) (i:Nat) (q:List PP) (mm:List (PP × Int)) (aI:List (List PP)):Prop where
 wq:WQ T ss f q
 im:kL mm q
 il:i≤q.length
 dn:∀k,k<i→∀a∈aK 63 (ix q k).2,ClA T ss q (ix q k) a
 out:aI=(List.range i).map fun k=>cG (edF T ss q (ix q k))
structure WN (T:SS) (ss:List (List Int)) (f:PP) (i:Nat) (p:PP) (q:List PP) (mm:List (PP × Int)) (aI:List (List PP)) (m:Nat) (es:List PP):Prop where
 wi:WI T ss f i q mm aI
 hi:i<q.length
 pe:ix q i=p
 cl:∀a∈(aK 63 p.2).take m,ClA T ss q p a
 es:es=((aK 63 p.2).take m).flatMap (edA T ss q p)
structure WK (T:SS) (ss:List (List Int)) (f:PP) (i:Nat) (p:PP) (q:List PP) (mm:List (PP × Int)) (aI:List (List PP)) (m:Nat) (a:Int) (k:Nat) (es:List PP):Prop where
 wi:WI T ss f i q mm aI
 hi:i<q.length
 pe:ix q i=p
 cl:∀a∈(aK 63 p.2).take m,ClA T ss q p a
 cl3:∀u∈(ix ss (tgt T p a).toNat).take k,(tgt T p a,u)∈q
 es:es=((aK 63 p.2).take m).flatMap (edA T ss q p)++((ix ss (tgt T p a).toNat).take k).map fun u=>(a,(q.idxOf (tgt T p a,u):Int))
def Vr (T:SS) (want:List PP):PP:=if 0<want.length then ix want 0 else(0,ix (acc T 0) 0)
def BG (T:SS) (want:List PP) (m:aA):Prop:=∃ss q mm,Vq T want ss∧WI T ss (Vr T want) q.length q mm m.sT∧m.aC=T.aC
end WitM
end
end Go.Proofs.YtnlfjojfgghchaaGreatDoor
