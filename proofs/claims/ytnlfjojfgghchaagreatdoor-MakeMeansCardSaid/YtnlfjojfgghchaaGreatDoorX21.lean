/- The abstract logic. Own texts of this claim, packed: MkALArr. -/
import Derived.Test.YtnlfjojfgghchaaGreatDoorX05
import Derived.Test.YtnlfjojfgghchaaGreatDoorX01
import Derived.Laws.StructEq
set_option linter.all false
set_option linter.unusedVariables false
namespace AL
open Go
theorem Gy {P:Program} {T K V i0:Nat} (hT:P.underlying T=some (.map K V)) (hK:P.underlying K=some (.array 2 i0)) (hl:laidOutB P=true) (hrow:K<P.types.size) (hat:P.keyTypeAt 2 K=true) (hkt:P.keyType K=true)
 (h0:P.underlying i0=some (.int .i64)∧P.cellsOf i0=1) (hc:P.cellsOf K=2):jN P T K V cD eQ where
 und:=hT
 kd:=Go.Maps.Keyed.of_law (deep_law_laid hl (m:=2) O hrow hat (by rw[hK]))
 dk:=fun k hk=>by
  obtain⟨a2,a3⟩:=h0
  have hf:(cD k).formed P K=true:=by simp[cD,Value.formed,hK,hc]
  obtain⟨m,hm⟩:∃m,P.types.size=m+1:=⟨P.types.size- 1,O⟩
  refine⟨.string (keyBytes [.int .i64 k.1,.int .i64 k.2]),?_⟩
  have hlits:P.keyLits (P.types.size+1) K (cD k).cells.toList=some [.int .i64 k.1,.int .i64 k.2]:=by
   rw[hm]
   unfold Program.keyLits
   rw[hK]
   simp only [cD,Value.cells,hc]
   rw[if_pos (show [Value.int IntKind.i64 k.fst,Value.int IntKind.i64 k.snd].length=2 from rfl)]
   have e0:∀n,inI n→P.keyLits (m+1) i0 [.int .i64 n]=some [.int .i64 n]:=fun n hn=>by
    unfold Program.keyLits
    rw[a2]
    simp[xZ hn]
   have er:List.range 2= [0,1]:=rfl
   simp[er,a3,e0 _ hk.1,e0 _ hk.2]
  unfold keyOf
  rw[hK]
  simp only [hkt,hf,hlits]
  rfl
 inj:=fun k k' _ _ h=>by
  have h:(Value.agg #[.int .i64 k.1,.int .i64 k.2])= .agg #[.int .i64 k'.1,.int .i64 k'.2]:=h
  simp at h
  exact Prod.ext h.1 h.2
theorem Nh {P:Program} {T i0:TypeId} {x y:Operand} {a b c d:Int} (hK:P.underlying T=some (.array 2 i0)) (h0:P.underlying i0=some (.int .i64)) (hc:P.cellsOf i0=1) (hg:P.eqGuardType P.depth T=false):
 cP P .eql T x y (.agg #[.int .i64 a,.int .i64 b]) (.agg #[.int .i64 c,.int .i64 d]) (.bool (decide ((a,b)=(c,d)))):=fun w=>by
 have hp:P.plainKey i0=true:=by simp[Program.plainKey,h0]
 obtain⟨i,hi⟩:∃i,P.info? i0=some i:=by
  unfold Program.underlying at h0
  cases hi:P.info? i0 with
  |none=>simp[hi] at h0
  |some i=>exact⟨i,rfl⟩
 have e1:(eqGuard .eql T x y (.agg #[.int .i64 a,.int .i64 b]) (.agg #[.int .i64 c,.int .i64 d])).run P w= .ok () w:=by
  simp[eqGuard,hg]
 have e2:(Op.equal T (.agg #[.int .i64 a,.int .i64 b]) (.agg #[.int .i64 c,.int .i64 d])).run P w= .ok (decide ((a,b)=(c,d))) w:=by
  unfold Op.equal
  rw[show Op.maxDepth=9999+1 from rfl,run_equalIn_array w 9999 _ _ hK hi,hc]
  have r2:List.range 2= [0,1]:=rfl
  have p0:∀(u v:Int),(part i0 #[Value.int .i64 u,.int .i64 v] 0).run P w= .ok (.int .i64 u) w:=fun u v=>run_part_plain w hp rfl
  have p1:∀(u v:Int),(part i0 #[Value.int .i64 u,.int .i64 v] 1).run P w= .ok (.int .i64 v) w:=fun u v=>run_part_plain w hp rfl
  have q:∀(u v:Int),(Op.equalIn 9999 i0 (.int .i64 u) (.int .i64 v)).run P w= .ok (u==v) w:=fun u v=>run_equalIn_int w 9998 i0 .i64 .i64 u v h0
  rw[r2]
  simp only [Op.eqItems,Nat.zero_mul,Nat.one_mul,Nat.mul_one,Sem.run_bind,p0,p1,q,Result.andThen_ok]
  by_cases g1:a=c
  ·by_cases g2:b=d
   ·subst g1;subst g2;simp[p1,q]
   ·simp[g1,g2,p1,q]
  ·simp[g1]
 simp only [Sem.run_bind,e1,Result.andThen_ok,binOp,e2]
 rfl
section
variable {P:Program} {r:Option Nat} {ops:Array Oper} {Q:Exit→Act→World→Prop} {rest:List Oper} {B:Base} {E:Env} {H:Hp}
variable {d ty:Nat} {pos:String} {af:Array Edge}
attribute [local semireducible] eqv agg in
theorem biA {T T' i0:TypeId} {x y:Operand} {a b c e:Int} (hx:lkO x E=agg [int a,int b]) (hy:lkO y E=agg [int c,int e]) (hK:P.underlying T=some (.array 2 i0)) (h0:P.underlying i0=some (.int .i64)) (hc:P.cellsOf i0=1) (hg:P.eqGuardType P.depth T=false)
 (k:St r P ops Q B ((d,bl (decide ((a,b)=(c,e))))::E) H rest) (hn:Nat.blt d B.nt=true:=by rfl):
 St r P ops Q B E H ({ dst:=some d,op:= .binOp .eql T x y T',type:=ty,pos:=pos,after:=af,guard:=none }::rest):=
 fun A w h=>cF h rfl rfl hn (fun _=>nofun) (fun F Ds hs=>by
  have h1:=hs.opd x
  have h2:=hs.opd y
  rw[hx] at h1
  rw[hy] at h2
  have h1:A.eval x=cD (a,b):=eK h1
  have h2:A.eval y=cD (c,e):=eK h2
  refine⟨.bool (decide ((a,b)=(c,e))),?_,rfl⟩
  have:=Nh (x:=x) (y:=y) (a:=a) (b:=b) (c:=c) (d:=e) hK h0 hc hg w
  unfold cD at h1 h2
  simp only [execOp,h1,h2,Sem.run_bind] at this ⊢
  rw[this];rfl) k
end
end AL
