/- The abstract logic. Own texts of this claim, packed: ZdALIdx. -/
import Derived.Test.YtcjemmihcplgdaaGreatDoorX21
set_option linter.all false
set_option linter.unusedVariables false
namespace AL
open Go
section
variable {P:Program} {r:Option Nat} {ops:Array Oper} {Q:Exit→Act→World→Prop} {rest:List Oper} {B:Base} {E:Env} {H:Hp} {a:Act} {w:World} {d:Nat} {ty:Nat} {pos:String} {af:Array Edge}
attribute [local semireducible] agg eqv in
theorem TP {T e m n:Nat} {x i:Operand} {cs cs':List AV} {j:Nat} (h:Sim B E H a w) (hx:lkO x E=agg cs) (hi:lkO i E=int (j:Int)) (hT:P.underlying T=some (.array m e)) (he:fH P e n) (hj:j<m) (hc:(cs.drop (j*n)).take n=cs')
 (k:∀a w,Sim B ((d,agg cs')::E) H a w→wl r P ops Q rest a w) (hn:Nat.blt d B.nt=true:=by rfl):
 wl r P ops Q ({ dst:=some d,op:= .index T x i,type:=ty,pos:=pos,after:=af,guard:=none }::rest) a w:=
 dG h rfl rfl hn (fun _=>nofun) (fun F Ds hs=>by
  have h2:=hs.opd x
  have h3:=hs.opd i
  rw[hx] at h2
  rw[hi] at h3
  obtain⟨vs,h2,ha⟩:=h2
  have h3:a.eval i= .int .i64 (j:Int):=h3
  refine⟨.agg ((vs.drop (j*n)).take n).toArray,?_,(vs.drop (j*n)).take n,rfl,?_⟩
  ·simp only [execOp,h2,h3,Sem.run_bind,Instr.index,asIntOf,Sem.run_pure,Result.andThen_ok,run_underlying hT]
   have hcond:(0:Int)≤(j:Int)∧(j:Int)<(m:Int):=by omega
   rw[if_pos hcond]
   simp[he.size,part,he.agg,List.extract_eq_drop_take]
  ·rw[←hc];exact(ha.drop _).take _) k
theorem WZ {T e m n:Nat} {x i:Operand} {cs cs':List AV} {j:Nat} (hx:lkO x E=agg cs) (hi:lkO i E=int (j:Int)) (hT:P.underlying T=some (.array m e)) (he:fH P e n) (hj:j<m) (hc:(cs.drop (j*n)).take n=cs')
 (k:St r P ops Q B ((d,agg cs')::E) H rest) (hn:Nat.blt d B.nt=true:=by rfl):
 St r P ops Q B E H ({ dst:=some d,op:= .index T x i,type:=ty,pos:=pos,after:=af,guard:=none }::rest):=fun a w h=>TP h hx hi hT he hj hc (fun a w hs=>k a w hs) hn
end
end AL
