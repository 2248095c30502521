/- The abstract logic. Own texts of this claim, packed: ZdALArr. -/
import Derived.Test.YtcjemmihcplgdaaGreatDoorX06
import Derived.Test.YtcjemmihcplgdaaGreatDoorX01
import Derived.Laws.StructEq
set_option linter.all false
set_option linter.unusedVariables false
namespace AL
open Go
theorem Qd {P:Program} {T K V i0:Nat} (hT:P.underlying T=some (.map K V)) (hK:P.underlying K=some (.array 2 i0)) (hl:laidOutB P=true) (hrow:K<P.types.size) (hat:P.keyTypeAt 2 K=true) (hkt:P.keyType K=true)
 (h0:P.underlying i0=some (.int .i64)∧P.cellsOf i0=1) (hc:P.cellsOf K=2):pL P T K V dL fB where
 und:=hT
 kd:=Go.Maps.Keyed.of_law (deep_law_laid hl (m:=2) O hrow hat (by rw[hK]))
 dk:=fun k hk=>by
  obtain⟨a2,a3⟩:=h0
  have hf:(dL k).formed P K=true:=by simp[dL,Value.formed,hK,hc]
  obtain⟨m,hm⟩:∃m,P.types.size=m+1:=⟨P.types.size- 1,O⟩
  refine⟨.string (keyBytes [.int .i64 k.1,.int .i64 k.2]),?_⟩
  have hlits:P.keyLits (P.types.size+1) K (dL k).cells.toList=some [.int .i64 k.1,.int .i64 k.2]:=by
   rw[hm]
   unfold Program.keyLits
   rw[hK]
   simp only [dL,Value.cells,hc]
   rw[if_pos (show [Value.int IntKind.i64 k.fst,Value.int IntKind.i64 k.snd].length=2 from rfl)]
   have e0:∀n,inI n→P.keyLits (m+1) i0 [.int .i64 n]=some [.int .i64 n]:=fun n hn=>by
    unfold Program.keyLits
    rw[a2]
    simp[Gi hn]
   have er:List.range 2= [0,1]:=rfl
   simp[er,a3,e0 _ hk.1,e0 _ hk.2]
  unfold keyOf
  rw[hK]
  simp only [hkt,hf,hlits]
  rfl
 inj:=fun k k' _ _ h=>by
  have h:(Value.agg #[.int .i64 k.1,.int .i64 k.2])= .agg #[.int .i64 k'.1,.int .i64 k'.2]:=h
  simp at h
  exact Prod.ext h.1 h.2
section
variable {P:Program} {r:Option Nat} {ops:Array Oper} {Q:Exit→Act→World→Prop} {rest:List Oper} {B:Base} {E:Env} {H:Hp}
variable {d ty:Nat} {pos:String} {af:Array Edge}
end
end AL
