/- The abstract logic. Own texts of this claim, packed: MkALScope. -/
import Derived.Test.YtnlfjojfgghchaaGreatDoorX01
import Derived.Scope
set_option linter.all false
set_option linter.unusedVariables false
namespace AL
open Go
theorem kF {P:Program} {b:Frame} {a:Act} {k:List Item} {cs:List Frame} {w:World} {c:Code}:step P (lone (b.atR a (.code (.scope c)::k)) cs w)= .next (lone (b.atR a (.code c:: .inScope c::k)) cs w):=
 step_lone_go (by simp[stepG,stepG.exec,Frame.atR])
theorem ES {P:Program} {b:Frame} {a:Act} {k:List Item} {cs:List Frame} {w:World} {c:Code}:step P (lone (b.atR a (.inScope c::k)) cs w)= .next (lone (b.atR a k) cs w):=
 step_lone_go (by simp[stepG,stepG.exec,Frame.atR])
theorem Lg {F:Fence} {n:Nat} {P:Program} {c:Code} {Q:Exit→Act→World→Prop} {a:Act} {w:World} (h:c.wpIn F n P (Exit.noGoto Q) a w):(Code.scope c).wpIn F n P Q a w:=by
 intro b k cs hro hb hr
 have h0:(lone (b.atR a (.code (.scope c)::k)) cs w).fenced P F:=fenced_calm hb hr rfl
 obtain⟨e,a₁,w₁,hq,harr⟩:=h b (.inScope c::k) cs hro hb hr
 cases e with
 |normal=>exact⟨.normal,a₁,w₁,hq,.head h0 kF (StepsIn.trans harr (.one (fenced_calm hb hr rfl) ES))⟩
 |exit id=>
  have hx:exitTo id (.inScope c::k)=exitTo id k:=by simp[exitTo]
  exact⟨.exit id,a₁,w₁,hq,fun k' hk=> .head h0 kF (harr.1 k' (by rw[hx];exact hk)),
   fun hr' hk=>let⟨k₁,h1,h2⟩:=harr.2 hr' (by rw[hx];exact hk);⟨k₁,h1,.head h0 kF h2⟩⟩
 |goto l=>exact hq.elim
 |ret=>exact⟨_,a₁,w₁,hq,.of_steps (.one h0 kF) harr⟩
 |panic ch=>exact⟨_,a₁,w₁,hq,.of_steps (.one h0 kF) harr⟩
 |outgrown=>exact⟨_,a₁,w₁,hq,.of_steps (.one h0 kF) harr⟩
section
variable {P:Program} {r:Option Nat} {Q:Exit→Act→World→Prop} {B:Base} {E:Env} {H:Hp}
theorem sc {c:Code} (h:Ct r P (Exit.noGoto Q) B E H c):Ct r P Q B E H (.scope c):=fun a w hs=>Lg (h a w hs)
theorem lb {l:Nat} (h:At Q .normal B E H):Ct r P Q B E H (.label l):=fun a w hs=>wpIn_label (h a w hs)
theorem scR (h:At Q .ret B E H):At (Exit.noGoto Q) .ret B E H:=h
end
end AL
