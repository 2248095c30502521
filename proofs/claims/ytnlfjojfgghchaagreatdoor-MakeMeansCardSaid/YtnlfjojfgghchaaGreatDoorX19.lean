/- The abstract logic. Own texts of this claim, packed: MkALDraw3, MkALWh. -/
import Derived.Test.YtnlfjojfgghchaaGreatDoorX01
import Derived.Test.YtnlfjojfgghchaaGreatDoorX07
set_option linter.all false
set_option linter.unusedVariables false
namespace AL
open Go
section
variable {P:Program} {r:Option Nat} {ops:Array Oper} {Q:Exit→Act→World→Prop} {B:Base}
variable {ms:List Nat} {i:Nat} {E:(Nat→Value)→Env} {H:(Nat→Value)→Hp} {l:List Oper} {ks:List (Option Nat × List Nat)} {K:((Nat→Value)→Env)→((Nat→Value)→Hp)→Prop}
theorem sty {α:Type} {o:Oper} {d e n:Nat} {enc:α→List AV} {xs:List α} (key:Nat) (kr:List Nat) (ψ:Value→AV) (hd:o.dst=some d)
 (h:∀(β:Nat→Value) (Q:Exit→Act→World→Prop) (E':Env) (H':Hp) (rest:List Oper),Agr E' (E β) (o.looksAt ops)→xM H' (H β) kr→(∀v,St r P ops Q B ((d,ψ v)::E') ((key,own v e n enc xs)::H') rest)→St r P ops Q B E' H' (o::rest))
 (k:jI r P ops B ms (i+1) (fun β=>(d,ψ (sv (β i)))::E β) (fun β=>(key,own (sv (β i)) e n enc xs)::H β) l ks K):jI r P ops B ms i E H (o::l) ((some key,kr)::ks) K:=
 shH ⟨some d,fun β=>ψ (sv (β i)),some key,fun β=>own (sv (β i)) e n enc xs,kr⟩ (fun hm hb hi=>⟨hd,fun β β' hj=>by
  have e:=hj i (.inl rfl)
  simp only [e,and_self],fun β Q E' H' rest hl hk kk=>h β Q E' H' rest (jY hl) (oP hk) (fun v=>by
  have:=kk v
  have e:upd β i v i=v:=by simp[upd]
  simp only [lW,lX,e] at this
  intro a w hs
  obtain⟨F,Ds,hs'⟩:=hs
  have hp:=hs'.hp key
  rw[bB] at hp
  have hv:=JZ hp
  rw[hv] at this
  exact this a w ⟨F,Ds,hs'⟩)⟩) k
theorem Xy {k:Nat} {x:HA} {H:Hp} (e:lkH k H=x):SubH [(k,x)] H:=⟨⟨by rw[e],fun h=>by rw[e] at h;exact h⟩,tV⟩
theorem Wg {k:Nat} {x y:HA} {E:Env} {H:Hp} {rest:List Oper} (kq:St r P ops Q B E ((k,x)::H) rest):St r P ops Q B E (mQ [(k,x)] [(k,y)] H) rest:=fun a w hs=>kq a w (hs.less (fun t _ _ _ hv=>hv) (fun t=>by
 by_cases e:k=t
 ·subst e
  show _∧_
  rw[bB]
  have:lkH k (mQ [(k,x)] [(k,y)] H)=x:=bB _ _ _
  rw[this]
  exact⟨fun _ h=>h,fun h=>h⟩
 ·have h1:lkH t ((k,x)::H)=lkH t H:=bG _ _ e
  have h2:lkH t (mQ [(k,x)] [(k,y)] H)=lkH t H:=(bG _ _ e).trans (bG _ _ e)
  rw[h1,h2]
  exact⟨fun _ h=>h,fun h=>h⟩))
def whn (p:Prop) (φ:AV):AV:=⟨fun w F v=>p∧φ.p w F v,fun hF hw h=>⟨h.1,φ.st hF hw h.2⟩⟩
theorem ste {ι:Type} {o:Oper} {d:Nat} (enc:ι→Value) (dec:Value→ι) (hdec:∀z,dec (enc z)=z) (R:ι→Prop) (φ:ι→AV) (hd:o.dst=some d)
 (h:∀(β:Nat→Value) (Q:Exit→Act→World→Prop) (E':Env) (H':Hp) (rest:List Oper),Agr E' (E β) (o.looksAt ops)→xM H' (H β) []→(∀z,R z→St r P ops Q B ((d,φ z)::E') H' rest)→St r P ops Q B E' H' (o::rest))
 (k:jI r P ops B ms (i+1) (fun β=>(d,whn (R (dec (β i))) (φ (dec (β i))))::E β) H l ks K):jI r P ops B ms i E H (o::l) ((none,[])::ks) K:=
 shH ⟨some d,fun β=>whn (R (dec (β i))) (φ (dec (β i))),none,fun _=>emp,[]⟩ (fun hm hb hi=>⟨hd,fun β β' hj=>by
  have e:=hj i (.inl rfl)
  simp only [e,and_self],fun β Q E' H' rest hl hk kk=>h β Q E' H' rest (jY hl) (oP hk) (fun z hz=>by
  have:=kk (enc z)
  have e:upd β i (enc z) i=enc z:=by simp[upd]
  simp only [lW,lX,e,hdec] at this
  exact fun a w hs=>this a w (hs.less (fun t w F v hv=>by
   by_cases e:d=t
   ·subst e;rw[cR] at hv ⊢;exact⟨hz,hv⟩
   ·rw[bU _ _ e] at hv ⊢;exact hv) (fun t=>⟨fun _ h=>h,fun h=>h⟩)))⟩) k
variable {rest:List Oper} {ty:Nat} {pos:String} {af:Array Edge} {d:Nat}
attribute [local semireducible] tup in
theorem xtW {E:Env} {H:Hp} {x:Operand} {cs:List AV} {i:Nat} {φ:AV} {p:Prop} (hx:lkO x E=whn p (tup cs)) (hi:cs[i]?=some φ)
 (k:St r P ops Q B ((d,φ)::E) H rest) (hn:Nat.blt d B.nt=true:=by rfl):
 St r P ops Q B E H ({ dst:=some d,op:= .extract x i,type:=ty,pos:=pos,after:=af,guard:=none }::rest):=
 fun a w h=>cF h rfl rfl hn (fun _=>nofun) (fun F Ds hs=>by
  have h1:=hs.opd x
  rw[hx] at h1
  obtain⟨vs,hv,ha⟩:=h1.2
  obtain⟨v,hv',hp⟩:=ha.get hi
  exact⟨v,by simp[execOp,hv,Instr.extract,hv'],hp⟩) k
theorem Sim.wh {E:Env} {H:Hp} {a:Act} {w:World} {p:Prop} {φ:AV} (h:Sim B E H a w) (t:Nat) (hx:lk t E=whn p φ):p∧Sim B ((t,φ)::E) H a w:=by
 obtain⟨F,Ds,hs⟩:=h
 have h1:=hs.env t
 rw[hx] at h1
 refine⟨h1.1,F,Ds,{ hs with env:=fun s=> ?_ }⟩
 by_cases e:t=s
 ·subst e;rw[cR];exact h1.2
 ·rw[bU _ _ e];exact hs.env s
theorem Gx {E:Env} {H:Hp} {c:Code} {p:Prop} {φ:AV} (t:Nat) (hx:lk t E=whn p φ) (k:p→Ct r P Q B ((t,φ)::E) H c):Ct r P Q B E H c:=fun a w hs=>k (hs.wh t hx).1 a w (hs.wh t hx).2
end
end AL
set_option linter.unusedVariables false
namespace AL
open Go
section
variable {P:Program} {r:Option Nat} {ops:Array Oper} {Q:Exit→Act→World→Prop} {rest:List Oper} {B:Base} {E:Env} {H:Hp} {ty:Nat} {pos:String} {af:Array Edge}
end
end AL
