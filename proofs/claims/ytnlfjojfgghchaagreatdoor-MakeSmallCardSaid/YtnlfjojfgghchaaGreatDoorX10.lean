/- The walks of the functions and the plain laws. Own texts of this claim, packed: MkWitM. -/
import Derived.Test.YtnlfjojfgghchaaGreatDoorX06
import Derived.Test.YtnlfjojfgghchaaGreatDoorX08
import Derived.Test.YtnlfjojfgghchaaGreatDoorX09
set_option linter.all false
namespace Go.Proofs.YtnlfjojfgghchaaGreatDoor
open AL Go
section
open ref01 ref03 ref04 ref06 prog15 starts Part Rungs LeftM TrimM RoundM BisM BisM5 BisM6 WalkM StepM
structure aA where
 aC:List ByteArray
 sT:List (List (Int × Int))
deriving Inhabited
namespace WitM
abbrev PP:=Int × Int
structure UR (T:SS) (done:List PP) (ss:List (List Int)):Prop where
 len:ss.length=T.sT.length
 mem:∀x,x<T.sT.length→∀u,u∈ix ss x↔u=ix (acc T x) 0∨((x:Int),u)∈done
 nd:∀x,x<T.sT.length→(ix ss x).Nodup
structure XX (T:SS) (want:List PP):Prop where
 ok:∀p∈want,0≤p.1∧p.1<(T.sT.length:Int)∧p.2∈acc T p.1.toNat
 ne:∀x,x<T.sT.length→0<(acc T x).length
 few:want.length≤2000000000
def Et (q:List PP) (p:PP):Option Int:=if p∈q then some (q.idxOf p:Int) else none
def lB (mm:List (PP × Int)) (q:List PP):Prop:=∀p,bM mm p=Et q p
theorem Fv {q r:List PP} {p:PP} (h:p∈q):(q++r).idxOf p=q.idxOf p:=by rw[List.idxOf_append,if_pos h]
theorem HP {q:List PP} {p:PP} (h:p∉q):(q++ [p]).idxOf p=q.length:=by rw[List.idxOf_append,if_neg h];simp
theorem qF {mm:List (PP × Int)} {q:List PP} (h:lB mm q) {p:PP} (hp:p∉q):lB (cB mm p (q.length:Int)) (q++ [p]):=by
 intro r
 rw[nP,h r]
 unfold Et
 by_cases e:p=r
 ·subst e
  rw[if_pos rfl,if_pos (by simp),HP hp]
 ·rw[if_neg e]
  by_cases hr:r∈q
  ·rw[if_pos hr,if_pos (by simp[hr]),Fv hr]
  ·rw[if_neg hr,if_neg (by simp[hr,Ne.symm e])]
theorem Ou (p:PP):lB (cB [] p 0) [p]:=qF (q:= []) (mm:= []) (fun p=>rfl) (by simp)
structure WQ (T:SS) (ss:List (List Int)) (f:PP) (q:List PP):Prop where
 ne:0<q.length
 hd:ix q 0=f
 nd:q.Nodup
 bd:∀p∈q,0≤p.1∧p.1<(T.sT.length:Int)∧p.2∈ix ss p.1.toNat
def tgt (T:SS) (p:PP) (a:Int):Int:=ix (nxt T p.1.toNat) a.toNat
def edA (T:SS) (ss:List (List Int)) (q:List PP) (p:PP) (a:Int):List PP:=(ix ss (tgt T p a).toNat).map fun u=>(a,(q.idxOf (tgt T p a,u):Int))
def ClA (T:SS) (ss:List (List Int)) (q:List PP) (p:PP) (a:Int):Prop:=∀u∈ix ss (tgt T p a).toNat,(tgt T p a,u)∈q
def edF (T:SS) (ss:List (List Int)) (q:List PP) (p:PP):List PP:=(aI 63 p.2).flatMap (edA T ss q p)
theorem vY {l m:List PP} {j:Nat} (h:j<l.length):ix (l++m) j=ix l j:=by
 rw[aH (by simp;omega),aH h,List.getElem_append_left h]
structure WI (T:SS) (ss:List (List Int)) (f:PP) (i:Nat) (q:List PP) (mm:List (PP × Int)) (aL:List (List PP)):Prop where
 wq:WQ T ss f q
 im:lB mm q
 il:i≤q.length
 dn:∀k,k<i→∀a∈aI 63 (ix q k).2,ClA T ss q (ix q k) a
 out:aL=(List.range i).map fun k=>cF (edF T ss q (ix q k))
structure WN (T:SS) (ss:List (List Int)) (f:PP) (i:Nat) (p:PP) (q:List PP) (mm:List (PP × Int)) (aL:List (List PP)) (m:Nat) (es:List PP):Prop where
 wi:WI T ss f i q mm aL
 hi:i<q.length
 pe:ix q i=p
 cl:∀a∈(aI 63 p.2).take m,ClA T ss q p a
 es:es=((aI 63 p.2).take m).flatMap (edA T ss q p)
structure WK (T:SS) (ss:List (List Int)) (f:PP) (i:Nat) (p:PP) (q:List PP) (mm:List (PP × Int)) (aL:List (List PP)) (m:Nat) (a:Int) (k:Nat) (es:List PP):Prop where
 wi:WI T ss f i q mm aL
 hi:i<q.length
 pe:ix q i=p
 cl:∀a∈(aI 63 p.2).take m,ClA T ss q p a
 cl3:∀u∈(ix ss (tgt T p a).toNat).take k,(tgt T p a,u)∈q
 es:es=((aI 63 p.2).take m).flatMap (edA T ss q p)++((ix ss (tgt T p a).toNat).take k).map fun u=>(a,(q.idxOf (tgt T p a,u):Int))
def US (T:SS) (want:List PP):PP:=if 0<want.length then ix want 0 else(0,ix (acc T 0) 0)
def BK (T:SS) (want:List PP) (m:aA):Prop:=∃ss q mm,UR T want ss∧WI T ss (US T want) q.length q mm m.sT∧m.aC=T.aC
end WitM
end
end Go.Proofs.YtnlfjojfgghchaaGreatDoor
