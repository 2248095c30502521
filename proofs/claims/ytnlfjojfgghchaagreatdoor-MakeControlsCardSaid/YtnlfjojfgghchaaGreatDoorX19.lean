/- The abstract logic. Own texts of this claim, packed: MkALDraw3, MkALWh. -/
import Derived.Test.YtnlfjojfgghchaaGreatDoorX02
import Derived.Test.YtnlfjojfgghchaaGreatDoorX07
set_option linter.all false
set_option linter.unusedVariables false
namespace AL
open Go
section
variable {P:Program} {r:Option Nat} {ops:Array Oper} {Q:Exit→Act→World→Prop} {B:Base}
variable {ms:List Nat} {i:Nat} {E:(Nat→Value)→Env} {H:(Nat→Value)→Hp} {l:List Oper} {ks:List (Option Nat × List Nat)} {K:((Nat→Value)→Env)→((Nat→Value)→Hp)→Prop}
theorem sty {α:Type} {o:Oper} {d e n:Nat} {enc:α→List AV} {xs:List α} (key:Nat) (kr:List Nat) (ψ:Value→AV) (hd:o.dst=some d)
 (h:∀(β:Nat→Value) (Q:Exit→Act→World→Prop) (E':Env) (H':Hp) (rest:List Oper),Agr E' (E β) (o.looksAt ops)→zY H' (H β) kr→(∀v,St r P ops Q B ((d,ψ v)::E') ((key,own v e n enc xs)::H') rest)→St r P ops Q B E' H' (o::rest))
 (k:kJ r P ops B ms (i+1) (fun β=>(d,ψ (sv (β i)))::E β) (fun β=>(key,own (sv (β i)) e n enc xs)::H β) l ks K):kJ r P ops B ms i E H (o::l) ((some key,kr)::ks) K:=
 shH ⟨some d,fun β=>ψ (sv (β i)),some key,fun β=>own (sv (β i)) e n enc xs,kr⟩ (fun hm hb hi=>⟨hd,fun β β' hj=>by
  have e:=hj i (.inl rfl)
  simp only [e,and_self],fun β Q E' H' rest hl hk kk=>h β Q E' H' rest (kT hl) (rD hk) (fun v=>by
  have:=kk v
  have e:upd β i v i=v:=by simp[upd]
  simp only [mR,mS,e] at this
  intro a w hs
  obtain⟨F,Ds,hs'⟩:=hs
  have hp:=hs'.hp key
  rw[bG] at hp
  have hv:=Jp hp
  rw[hv] at this
  exact this a w ⟨F,Ds,hs'⟩)⟩) k
theorem Xu {k:Nat} {x:HA} {H:Hp} (e:lkH k H=x):SubH [(k,x)] H:=⟨⟨by rw[e],fun h=>by rw[e] at h;exact h⟩,tV⟩
theorem VP {k:Nat} {x y:HA} {E:Env} {H:Hp} {rest:List Oper} (kq:St r P ops Q B E ((k,x)::H) rest):St r P ops Q B E (mO [(k,x)] [(k,y)] H) rest:=fun a w hs=>kq a w (hs.less (fun t _ _ _ hv=>hv) (fun t=>by
 by_cases e:k=t
 ·subst e
  show _∧_
  rw[bG]
  have:lkH k (mO [(k,x)] [(k,y)] H)=x:=bG _ _ _
  rw[this]
  exact⟨fun _ h=>h,fun h=>h⟩
 ·have h1:lkH t ((k,x)::H)=lkH t H:=bI _ _ e
  have h2:lkH t (mO [(k,x)] [(k,y)] H)=lkH t H:=(bI _ _ e).trans (bI _ _ e)
  rw[h1,h2]
  exact⟨fun _ h=>h,fun h=>h⟩))
variable {rest:List Oper} {ty:Nat} {pos:String} {af:Array Edge} {d:Nat}
end
end AL
set_option linter.unusedVariables false
namespace AL
open Go
section
variable {P:Program} {r:Option Nat} {ops:Array Oper} {Q:Exit→Act→World→Prop} {rest:List Oper} {B:Base} {E:Env} {H:Hp} {ty:Nat} {pos:String} {af:Array Edge}
end
end AL
