/- The abstract logic. Own texts of this claim, packed: MkALPairMap. -/
import Derived.Test.YtnlfjojfgghchaaGreatDoorX00
import Derived.DeepKeys4
set_option linter.all false
set_option linter.unusedVariables false
namespace AL
open Go
attribute [local semireducible] eqv agg
def inI (n:Int):Prop:= -9223372036854775808≤n∧n≤9223372036854775807
def dK (k:Int × Int):Value:= .agg #[.int .i64 k.1,.int .i64 k.2]
def jI (k:Int × Int):Prop:=inI k.1∧inI k.2
theorem LA {n:Int} (h:inI n):(Lit.int .i64 n).wf=true:=by
 have h1:IntKind.i64.min= -9223372036854775808:=by decide
 have h2:IntKind.i64.max=9223372036854775807:=by decide
 simp[Lit.wf,h1,h2];exact h
theorem gC {a b:Int} {w:World} {F:Fz} {v:Value} (h:(agg [int a,int b]).p w F v):v=dK (a,b):=by
 obtain⟨vs,rfl,hv⟩:=h
 match vs,hv with
 | [u0,u1],⟨h0,h1,_⟩=>
   have h0:u0= .int .i64 a:=h0
   have h1:u1= .int .i64 b:=h1
   subst h0;subst h1;rfl
theorem Sb {P:Program} {T:TypeId} {x y:Operand} {k:Nat} (h:k<9223372036854775808):cV P .shr T x y (.int .u64 (k:Int)) (.int .u64 1) (.int .u64 ((k/2:Nat):Int)):=fun w=>by
 have h1:¬((1:Int)<0):=by omega
 have h3:(k:Int).fdiv 2=((k/2:Nat):Int):=by
  rw[Int.fdiv_eq_ediv_of_nonneg _ (by decide)]
  omega
 simp only [eqGuard,binOp,Op.shift,Sem.run_bind]
 rw[if_neg h1]
 have h4:IntKind.u64.wrap ((k/2:Nat):Int)=((k/2:Nat):Int):=mQ ⟨O,O⟩
 simp[IntKind.bits,h3]
 try simpa using h4
end AL
