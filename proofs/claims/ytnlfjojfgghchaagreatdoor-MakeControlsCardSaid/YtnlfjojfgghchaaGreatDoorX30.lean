/- The abstract logic. Own texts of this claim, packed: MkALElem. -/
import Derived.Test.YtnlfjojfgghchaaGreatDoorX02
set_option linter.all false
set_option linter.unusedVariables false
namespace AL
open Go
attribute [local semireducible] any eqv agg tup fp ptr sl eQ emp cell own obj osl dP
theorem GQ {w:World} {F:Fz} {u:Value} {ψ:AV} (hψ:ψ.p w F u):∀{cs:List AV} {vs:List Value} {j:Nat},All2 w F cs vs→cs[j]?=some (eqv u)→All2 w F (cs.set j ψ) vs
 |c::cs,v::vs,0,h,hj=>by
  have e:c=eqv u:=by simpa using hj
  subst e
  have hv:v=u:=h.1
  subst hv
  exact⟨hψ,h.2⟩
 |c::cs,v::vs,j+1,h,hj=>⟨h.1,GQ hψ h.2 (by simpa using hj)⟩
 | [],_,j,_,hj=>by simp at hj
 |_::_,[],_,h,_=>h.elim
section
variable {P:Program} {r:Option Nat} {ops:Array Oper} {Q:Exit→Act→World→Prop} {rest:List Oper} {B:Base} {E:Env} {H:Hp}
theorem Sim.fzE {α β:Type} {a:Act} {w:World} {V u:Value} {e n et n2:Nat} {enc:α→List AV} {ks:List α} {encX:β→List AV} {xs:List β} {y:α} (h:Sim B E H a w) (key K i j:Nat) (y':α) (hK:lkH K H=own V e n enc ks) (hk:lkH key H=own u et n2 encX xs) (hne:key≠K) (hi:ks[i]?=some y) (hj:(enc y)[j]?=some (eqv u)) (hy:enc y'=(enc y).set j (sl n2 encX xs)):
 Sim B E ((K,own V e n enc (ks.set i y'))::(key,emp)::H) a w:=by
 obtain⟨F,Ds,hs⟩:=h
 have h1:=hs.freeze key
 have hsl:(sl n2 encX xs).p w (fun b=>F b∨(lkH key H).foot b) u:=by
  have h2:=hs.hp key
  rw[hk] at h2 ⊢
  exact wY h2
 have hKp:=h1.hp K
 rw[bI _ _ hne,hK] at hKp
 refine⟨_,Ds,h1.upd K (own V e n enc (ks.set i y')) (Nat.le_refl _) rfl rfl rfl (fun _ _ _=>rfl) (fun b hb=>⟨.inl (by rw[bI _ _ hne,hK];exact hb),(h1.hN K b (by rw[bI _ _ hne,hK];exact hb)).1⟩) ?_⟩
 obtain⟨hm,vs,hr,hels⟩:=hKp
 refine⟨by simpa using hm,vs,by simpa using hr,⟨by simpa using hels.len,fun t x hx=> ?_⟩⟩
 by_cases c:i=t
 ·subst c
  have hlt:i<ks.length:=(List.getElem?_eq_some_iff.1 hi).1
  rw[List.getElem?_set_self hlt] at hx
  have hx:y'=x:=by simpa using hx
  subst hx
  rw[hy]
  exact GQ hsl (hels.el i y hi) hj
 ·rw[List.getElem?_set_ne c] at hx
  exact hels.el t x hx
theorem fzE {α β:Type} {V u:Value} {e n et n2:Nat} {enc:α→List AV} {ks:List α} {encX:β→List AV} {xs:List β} {y:α} (key K i j:Nat) (y':α) (hK:lkH K H=own V e n enc ks) (hk:lkH key H=own u et n2 encX xs) (hne:key≠K) (hi:ks[i]?=some y) (hj:(enc y)[j]?=some (eqv u)) (hy:enc y'=(enc y).set j (sl n2 encX xs))
 (k:St r P ops Q B E ((K,own V e n enc (ks.set i y'))::(key,emp)::H) rest):St r P ops Q B E H rest:=fun a w hs=>k a w (hs.fzE key K i j y' hK hk hne hi hj hy)
end
end AL
