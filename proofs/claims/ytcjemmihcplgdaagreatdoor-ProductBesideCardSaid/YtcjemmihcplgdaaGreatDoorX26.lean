/- The abstract logic. Own texts of this claim, packed: ZdALMax. -/
import Derived.Test.YtcjemmihcplgdaaGreatDoorX01
set_option linter.all false
set_option linter.unusedVariables false
namespace AL
open Go
section
variable {P:Program} {r:Option Nat} {ops:Array Oper} {Q:Exit→Act→World→Prop} {rest:List Oper} {B:Base} {E:Env} {H:Hp}
variable {d ty:Nat} {pos:String} {af:Array Edge}
theorem b_shlN {T:TypeId} {x y:Operand} {m n:Nat} (hn:n<63) (hb:m*2^n<2^63):binRun P .shl T x y (.int .i64 m) (.int .i64 n) (.int .i64 ((m*2^n:Nat):Int)):=fun w=>by
 have h1:¬((n:Int)<0):=by omega
 have h2:min n 64=n:=Nat.min_eq_left O
 have h4:=wrap_nat hb
 simp only [eqGuard,binOp,Op.shift,Sem.run_bind]
 rw[if_neg h1]
 simp[IntKind.bits,h2]
 simpa using h4
theorem b_shlG {T:TypeId} {x y:Operand} {m n:Nat} (hn:n<63) (hb:m*2^n<2^63):binRun P .shl T x y (.int .i64 m) (.int .i64 n) (.int .i64 ((m:Int)*((2^n:Nat):Int))):=by
 have h:=b_shlN (P:=P) (T:=T) (x:=x) (y:=y) hn hb
 rw[Int.natCast_mul] at h
 exact h
end
end AL
