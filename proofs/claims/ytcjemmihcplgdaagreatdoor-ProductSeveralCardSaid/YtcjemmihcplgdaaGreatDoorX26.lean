/- The abstract logic. Own texts of this claim, packed: ZdALMax. -/
import Derived.Test.YtcjemmihcplgdaaGreatDoorX01
set_option linter.all false
set_option linter.unusedVariables false
namespace AL
open Go
section
variable {P:Program} {r:Option Nat} {ops:Array Oper} {Q:Exit→Act→World→Prop} {rest:List Oper} {B:Base} {E:Env} {H:Hp}
variable {d ty:Nat} {pos:String} {af:Array Edge}
attribute [local semireducible] eqv agg in
theorem mxI {x y:Operand} {ts:Array TypeId} {m n:Int} (hx:lkO x E=int m) (hy:lkO y E=int n)
 (k:St r P ops Q B ((d,int (if m<n then n else m))::E) H rest) (hn:Nat.blt d B.nt=true:=by rfl):
 St r P ops Q B E H ({ dst:=some d,op:= .call { callee:= .builtin .max,args:= #[x,y],argTypes:=ts },type:=ty,pos:=pos,after:=af,guard:=none }::rest):=
 fun A w h=>op_val h rfl rfl hn (fun _=>nofun) (fun F Ds hs=>by
  have h1:=hs.opd x
  have h2:=hs.opd y
  rw[hx] at h1
  rw[hy] at h2
  have h1:A.eval x= .int .i64 m:=h1
  have h2:A.eval y= .int .i64 n:=h2
  exact⟨.int .i64 (if m<n then n else m),by simp[execOp,resolve,h1,h2,invoke,builtin,Builtin.max_,Builtin.max2],rfl⟩) k
end
end AL
