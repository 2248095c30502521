/- The abstract logic. Own texts of this claim, packed: MkALPairMap. -/
import Derived.Test.YtnlfjojfgghchaaGreatDoorX00
import Derived.DeepKeys4
set_option linter.all false
set_option linter.unusedVariables false
namespace AL
open Go
attribute [local semireducible] eqv agg
def inI (n:Int):Prop:= -9223372036854775808≤n∧n≤9223372036854775807
def cD (k:Int × Int):Value:= .agg #[.int .i64 k.1,.int .i64 k.2]
def eQ (k:Int × Int):Prop:=inI k.1∧inI k.2
theorem xZ {n:Int} (h:inI n):(Lit.int .i64 n).wf=true:=by
 have h1:IntKind.i64.min= -9223372036854775808:=by decide
 have h2:IntKind.i64.max=9223372036854775807:=by decide
 simp[Lit.wf,h1,h2];exact h
theorem Mp {P:Program} {T K V i0 i1:Nat} {f0 f1:Field} (hT:P.underlying T=some (.map K V)) (hK:P.underlying K=some (.struct #[f0,f1])) (hl:laidOutB P=true) (hrow:K<P.types.size) (hat:P.keyTypeAt 2 K=true) (hkt:P.keyType K=true)
 (h0:f0.type=i0∧f0.offset=0∧P.underlying i0=some (.int .i64)∧P.cellsOf i0=1) (h1:f1.type=i1∧f1.offset=1∧P.underlying i1=some (.int .i64)∧P.cellsOf i1=1) (hc:P.cellsOf K=2) (hn:(#[f0,f1].all (·.name != "_"))=true):jN P T K V cD eQ where
 und:=hT
 kd:=Go.Maps.Keyed.of_law (deep_law_laid hl (m:=2) O hrow hat (by rw[hK]))
 dk:=fun k hk=>by
  obtain⟨a0,a1,a2,a3⟩:=h0
  obtain⟨b0,b1,b2,b3⟩:=h1
  have hf:(cD k).formed P K=true:=by simp[cD,Value.formed,hK,hc]
  obtain⟨m,hm⟩:∃m,P.types.size=m+1:=⟨P.types.size- 1,O⟩
  refine⟨.string (keyBytes [.int .i64 k.1,.int .i64 k.2]),?_⟩
  have hlits:P.keyLits (P.types.size+1) K (cD k).cells.toList=some [.int .i64 k.1,.int .i64 k.2]:=by
   rw[hm]
   unfold Program.keyLits
   rw[hK]
   simp only [cD,Value.cells,hc]
   rw[if_pos ⟨rfl,hn⟩]
   have e0:P.keyLits (m+1) i0 [.int .i64 k.1]=some [.int .i64 k.1]:=by
    unfold Program.keyLits
    rw[a2]
    simp[xZ hk.1]
   have e1:P.keyLits (m+1) i1 [.int .i64 k.2]=some [.int .i64 k.2]:=by
    unfold Program.keyLits
    rw[b2]
    simp[xZ hk.2]
   simp[a0,a1,a3,b0,b1,b3,e0,e1]
  unfold keyOf
  rw[hK]
  simp only [hkt,hf,hlits]
  rfl
 inj:=fun k k' _ _ h=>by
  have h:(Value.agg #[.int .i64 k.1,.int .i64 k.2])= .agg #[.int .i64 k'.1,.int .i64 k'.2]:=h
  simp at h
  exact Prod.ext h.1 h.2
theorem eK {a b:Int} {w:World} {F:Fz} {v:Value} (h:(agg [int a,int b]).p w F v):v=cD (a,b):=by
 obtain⟨vs,rfl,hv⟩:=h
 match vs,hv with
 | [u0,u1],⟨h0,h1,_⟩=>
   have h0:u0= .int .i64 a:=h0
   have h1:u1= .int .i64 b:=h1
   subst h0;subst h1;rfl
theorem SF {P:Program} {T:TypeId} {x y:Operand} {k:Nat} (h:k<9223372036854775808):cP P .shr T x y (.int .u64 (k:Int)) (.int .u64 1) (.int .u64 ((k/2:Nat):Int)):=fun w=>by
 have h1:¬((1:Int)<0):=by omega
 have h3:(k:Int).fdiv 2=((k/2:Nat):Int):=by
  rw[Int.fdiv_eq_ediv_of_nonneg _ (by decide)]
  omega
 simp only [eqGuard,binOp,Op.shift,Sem.run_bind]
 rw[if_neg h1]
 have h4:IntKind.u64.wrap ((k/2:Nat):Int)=((k/2:Nat):Int):=mR ⟨O,O⟩
 simp[IntKind.bits,h3]
 try simpa using h4
end AL
