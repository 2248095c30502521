/- The abstract logic. Own texts of this claim, packed: MkALTri. -/
import Derived.Test.YtnlfjojfgghchaaGreatDoorX05
set_option linter.all false
set_option linter.unusedVariables false
namespace AL
open Go
attribute [local semireducible] eqv agg
def mX (k:Int × Int × Int):Value:= .agg #[.int .i64 k.1,.int .i64 k.2.1,.int .i64 k.2.2]
def sQ (k:Int × Int × Int):Prop:=inI k.1∧inI k.2.1∧inI k.2.2
theorem PT {P:Program} {T K V i0 i1 i2:Nat} {f0 f1 f2:Field} (hT:P.underlying T=some (.map K V)) (hK:P.underlying K=some (.struct #[f0,f1,f2])) (hl:laidOutB P=true) (hrow:K<P.types.size) (hat:P.keyTypeAt 2 K=true) (hkt:P.keyType K=true)
 (h0:f0.type=i0∧f0.offset=0∧P.underlying i0=some (.int .i64)∧P.cellsOf i0=1) (h1:f1.type=i1∧f1.offset=1∧P.underlying i1=some (.int .i64)∧P.cellsOf i1=1) (h2:f2.type=i2∧f2.offset=2∧P.underlying i2=some (.int .i64)∧P.cellsOf i2=1) (hc:P.cellsOf K=3) (hn:(#[f0,f1,f2].all (·.name != "_"))=true):jN P T K V mX sQ where
 und:=hT
 kd:=Go.Maps.Keyed.of_law (deep_law_laid hl (m:=2) O hrow hat (by rw[hK]))
 dk:=fun k hk=>by
  obtain⟨a0,a1,a2,a3⟩:=h0
  obtain⟨b0,b1,b2,b3⟩:=h1
  obtain⟨c0,c1,c2,c3⟩:=h2
  have hf:(mX k).formed P K=true:=by simp[mX,Value.formed,hK,hc]
  obtain⟨m,hm⟩:∃m,P.types.size=m+1:=⟨P.types.size- 1,O⟩
  refine⟨.string (keyBytes [.int .i64 k.1,.int .i64 k.2.1,.int .i64 k.2.2]),?_⟩
  have hlits:P.keyLits (P.types.size+1) K (mX k).cells.toList=some [.int .i64 k.1,.int .i64 k.2.1,.int .i64 k.2.2]:=by
   rw[hm]
   unfold Program.keyLits
   rw[hK]
   simp only [mX,Value.cells,hc]
   rw[if_pos ⟨rfl,hn⟩]
   have e0:∀j n,P.underlying j=some (.int .i64)→inI n→P.keyLits (m+1) j [.int .i64 n]=some [.int .i64 n]:=fun j n hj hn=>by
    unfold Program.keyLits
    rw[hj]
    simp[xZ hn]
   simp[a0,a1,a3,b0,b1,b3,c0,c1,c3,e0 _ _ a2 hk.1,e0 _ _ b2 hk.2.1,e0 _ _ c2 hk.2.2]
  unfold keyOf
  rw[hK]
  simp only [hkt,hf,hlits]
  rfl
 inj:=fun k k' _ _ h=>by
  have h:(Value.agg #[.int .i64 k.1,.int .i64 k.2.1,.int .i64 k.2.2])= .agg #[.int .i64 k'.1,.int .i64 k'.2.1,.int .i64 k'.2.2]:=h
  simp at h
  exact Prod.ext h.1 (Prod.ext h.2.1 h.2.2)
theorem Du {a b c:Int} {w:World} {F:Fz} {v:Value} (h:(agg [int a,int b,int c]).p w F v):v=mX (a,b,c):=by
 obtain⟨vs,rfl,hv⟩:=h
 match vs,hv with
 | [u0,u1,u2],⟨h0,h1,h2,_⟩=>
   have h0:u0= .int .i64 a:=h0
   have h1:u1= .int .i64 b:=h1
   have h2:u2= .int .i64 c:=h2
   subst h0;subst h1;subst h2;rfl
end AL
