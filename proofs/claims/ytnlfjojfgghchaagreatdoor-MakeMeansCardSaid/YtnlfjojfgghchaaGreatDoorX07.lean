/- The abstract logic. Own texts of this claim, packed: MkALMore. -/
import Derived.Test.YtnlfjojfgghchaaGreatDoorX01
import Derived.Test.YtnlfjojfgghchaaGreatDoorX00
import Derived.Test.YtnlfjojfgghchaaGreatDoorX02
set_option linter.all false
set_option linter.unusedVariables false
namespace AL
open Go
attribute [local semireducible] emp
variable {P:Program} {r:Option Nat} {ops:Array Oper} {Q:Exit→Act→World→Prop} {rest:List Oper} {B:Base} {E:Env} {H:Hp}
theorem Yc {α:Type} {ex:Exit} {us:List Value} {e n:Nat} {enc:α→List AV} {xss:List (List α)} {u:Value} {xs:List α} (key key' i:Nat) (hk:lkH key H=aX us e n enc xss (some i)) (hk':lkH key' H=own u e n enc xs) (hne:key'≠key) (hu:us[i]?=some u) (hx:xss[i]?=some xs)
 (k:At Q ex B E ((key',emp)::(key,aX us e n enc xss none)::H)):At Q ex B E H:=fun a w hs=>k a w (by
 have:=hs.giveB key key' i hk hk' hne (List.getElem?_eq_some_iff.1 hu).1
 rw[jO hu,jO hx] at this;exact this)
structure Gj (P:Program) (T f off e:Nat):Prop where
 ex:∃(fs:Array Field) (fld:Field),P.underlying T=some (.struct fs)∧fs[f]?=some fld∧fld.offset=off∧fld.type=e
def RA (P:Program) (T f off e:Nat):Bool:=
 match P.underlying T with
 |some (.struct fs)=>(match fs[f]? with|some x=>Nat.beq x.offset off&&Nat.beq x.type e|none=>false)
 |_=>false
theorem Je {P:Program} {T f off e:Nat} (h:RA P T f off e=true):Gj P T f off e:=by
 unfold RA at h
 cases hu:P.underlying T with
 |none=>simp[hu] at h
 |some D=>
  rw[hu] at h
  cases D<;>simp at h
  case struct fs=>
  cases hf:fs[f]? with
  |none=>simp[hf] at h
  |some x=>
   rw[hf] at h
   simp only [Bool.and_eq_true] at h
   exact⟨fs,x,hu,hf,by simpa using h.1,by simpa using h.2⟩
attribute [local semireducible] agg in
theorem Vv {a:Act} {w:World} {d ty T f off e:Nat} {pos:String} {af:Array Edge} {x:Operand} {cs:List AV} {φ:AV} (h:Sim B E H a w) (hx:lkO x E=agg cs) (hT:Gj P T f off e) (he:dI P e) (hc:cs[off]?=some φ)
 (k:∀a w,Sim B ((d,φ)::E) H a w→wl r P ops Q rest a w) (hn:Nat.blt d B.nt=true:=by rfl):
 wl r P ops Q ({ dst:=some d,op:= .field T x f,type:=ty,pos:=pos,after:=af,guard:=none }::rest) a w:=
 cF h rfl rfl hn (fun _=>nofun) (fun F Ds hs=>by
  have h2:=hs.opd x
  rw[hx] at h2
  obtain⟨vs,h2,ha⟩:=h2
  obtain⟨v,hv,hp⟩:=ha.get hc
  obtain⟨fs,fld,g1,g2,rfl,rfl⟩:=hT.ex
  refine⟨v,?_,hp⟩
  simp only [execOp,h2,Instr.field,Sem.run_bind,run_underlying g1,Result.andThen_ok,g2]
  simp[asAgg,part,he.agg,hv]) k
theorem Vw {d ty T f off e:Nat} {pos:String} {af:Array Edge} {x:Operand} {cs:List AV} {φ:AV} (hx:lkO x E=agg cs) (hT:Gj P T f off e) (he:dI P e) (hc:cs[off]?=some φ)
 (k:St r P ops Q B ((d,φ)::E) H rest) (hn:Nat.blt d B.nt=true:=by rfl):St r P ops Q B E H ({ dst:=some d,op:= .field T x f,type:=ty,pos:=pos,after:=af,guard:=none }::rest):=fun a w h=>Vv h hx hT he hc k hn
attribute [local semireducible] eqv osl in
theorem Vx {φ:AV} {key:Nat} {x:Value} (e:φ=osl key x) {w:World} {F:Fz} {v:Value} (h:φ.p w F v):v=x:=by subst e;exact h
attribute [local semireducible] eqv in
theorem Cj {φ:AV} {x:Value} (e:φ=eqv x) {w:World} {F:Fz} {v:Value} (h:φ.p w F v):v=x:=by subst e;exact h
section
variable {ψ:AV} [hA:Amb ψ]
theorem Dm {c:Code} (t key:Nat) (ht:lk t E=ψ) (k:Ct r P Q B E ((key,dS ψ)::H) c):Ct r P Q B E H c:=fun a w ⟨F,Ds,hs⟩=>by
 have h1:=hs.env t
 rw[ht] at h1
 exact k a w ⟨F,Ds,hs.upd key (dS ψ) (Nat.le_refl _) rfl rfl rfl (fun _ _ _=>rfl) (fun b hb=>hb.elim) (hA.amb _ h1)⟩
theorem tbK {φ:AV} (t key:Nat) (hx:lk t E=φ) (hk:lkH key H=dS ψ) (k:St r P ops Q B ((t,both φ ψ)::E) H rest):St r P ops Q B E H rest:=fun a w ⟨F,Ds,hs⟩=>by
 have h1:=hs.env t
 have h2:=hs.hp key
 rw[hx] at h1
 rw[hk] at h2
 refine k a w ⟨F,Ds,{ hs with env:=fun s=> ?_ }⟩
 by_cases e:t=s
 ·subst e;rw[cR];exact⟨h1,hA.amb _ h2⟩
 ·rw[bU _ _ e];exact hs.env s
omit hA in
theorem tbX {d t:Nat} {φ χ:AV} (hx:lk t E=χ) (k:St r P ops Q B ((d,φ)::E) H rest):St r P ops Q B ((d,φ)::(t,both χ ψ)::E) H rest:=fun a w hs=>k a w (hs.less (fun s=>by
 intro w F v h
 by_cases e:d=s
 ·subst e;rw[cR] at h ⊢;exact h
 ·rw[bU _ _ e] at h ⊢
  by_cases e':t=s
  ·subst e';rw[cR] at h;rw[hx];exact h.1
  ·rw[bU _ _ e'] at h;exact h) (tC H))
end
end AL
