/- The abstract logic. Own texts of this claim, packed: MkALRegion3. -/
import Derived.Test.YtnlfjojfgghchaaGreatDoorX25
set_option linter.all false
set_option linter.unusedVariables false
namespace AL
open Go
attribute [local semireducible] any eqv agg tup fp ptr sl eD emp cell own obj osl dX clo pf mp mpv
section
variable {P:Program} {r:Option Nat} {ops:Array Oper} {Q:Exit→Act→World→Prop} {rest:List Oper} {B:Base} {E:Env} {H:Hp} {a:Act} {w:World}
variable {d ty:Nat} {pos:String} {af:Array Edge} {ι:Type}
theorem Wm {α:Type} {W:World} {D:Fz} {T e n' n:Nat} {enc:α→List AV} {xs:List α} {v:Value} {x:Operand} (hx:lkO x E=eqv v) (hv:(sl n enc xs).p W D v) (hT:IsSlice P T e n')
 (k:St r P ops Q B ((d,int (xs.length:Int))::E) H rest) (hn:Nat.blt d B.nt=true:=by rfl):
 St r P ops Q B E H ({ dst:=some d,op:= .call { callee:= .builtin .len,args:= #[x],argTypes:= #[T] },type:=ty,pos:=pos,after:=af,guard:=none }::rest):=fun a w h=>
 cB h rfl rfl hn (fun _=>nofun) (fun F Ds hs=>by
  have h1:=hs.opd x
  rw[hx] at h1
  have h1:a.eval x=v:=h1
  obtain⟨A,cap,hv2,_⟩:=hv
  exact⟨.int .i64 xs.length,by simp[execOp,resolve,h1,hv2,invoke,builtin,Builtin.len_,hT.run,goInt],rfl⟩) (fun a w hs=>k a w hs)
instance (W:World) (D:Fz) (φ:AV) [h:One φ]:One (wv W D φ):=⟨fun {w F v} hv=>h.one (w:=W) (F:=D) hv⟩
theorem Kv {W:World} {D:Fz} {w:World} {F:Fz}:∀{ψs:List AV} {us:List Value},All2 W D ψs us→All2 w F (ψs.map (wv W D)) us
 | [],[],_=>trivial
 |_::_,_::_,h=>⟨h.1,Kv h.2⟩
 | [],_::_,h=>h.elim
 |_::_,[],h=>h.elim
theorem XB {α:Type} {W:World} {D:Fz} {T n k0 i key:Nat} {enc:α→List AV} {xs:List α} {v:Value} {x:Operand} (hx:lkO x E=xp v n i 0) (hk:lkH key H=rgz D W (eT v n k0)) (hv:(sl n enc xs).p W D v) {y:α} (hi:xs[i]?=some y) (hki:k0≤i)
 (hsl:∀(y:α) {w:World} {F:Fz} {us:List Value},All2 w F (enc y) us→∀(j:Nat) (u:Value),us[j]?=some u→∃A m c,u= .slice A m c) (ht:gX P T n)
 (k:St r P ops Q B ((d,agg ((enc y).map (wv W D)))::E) H rest) (hn:Nat.blt d B.nt=true:=by rfl):
 St r P ops Q B E H ({ dst:=some d,op:= .load T x,type:=ty,pos:=pos,after:=af,guard:=none }::rest):=fun a w h=>
 cB h rfl rfl hn (fun _=>nofun) (fun F Ds hs=>by
  have h1:=hs.opd x
  rw[hx] at h1
  obtain⟨b,o,m,c,hv2,hu⟩:=h1
  obtain⟨b',off,c',us,hv3,hD,hl,hr,ha⟩:=zS hv hi
  rw[hv2] at hv3
  simp at hv3
  obtain⟨⟨rfl,rfl⟩,_⟩:=hv3
  have h2:=hs.hp key
  rw[hk] at h2
  obtain⟨cc,t,c2,t',g1,g2,g3,g4⟩:=h2 b hD
  have hrd:rdAt w b (o+i*n) us:=by
   refine⟨c2,t',_,g2,fun j u hj=> ?_⟩
   obtain⟨c0,ty0,fr0,hc0,hu3⟩:=AG hr hj
   have e:c0=cc:=by rw[hc0] at g1;cases g1;rfl
   subst e
   obtain⟨u',hu',hkin⟩:=g4 _ u hu3
   obtain⟨A,m2,cp,rfl⟩:=hsl y ha j u hj
   have he:u'= .slice A m2 cp:=by
    rcases hkin with h|⟨_,_,_,_,h,_⟩|⟨_,_,h,_⟩|⟨hz,_⟩
    ·exact h
    ·cases h
    ·cases h
    ·exfalso
     obtain⟨off2,m3,c3,hv4,h5,h6⟩:=hz
     rw[hv2] at hv4
     simp at hv4
     obtain⟨rfl,_⟩:=hv4
     have:k0*n≤i*n:=Nat.mul_le_mul_right n hki
     omega
   rw[←he];exact hu'
  exact⟨.agg us.toArray,by simp only [execOp,hu,Instr.loadAt,Instr.sureAddr,Nat.add_zero,Sem.run_bind,Sem.run_pure,Result.andThen_ok,jJ ht hrd hl],us,rfl,Kv ha⟩) (fun a w hs=>k a w hs)
end
end AL
