/- The abstract logic. Own texts of this claim, packed: MkALGuardN. -/
import Derived.Test.YtnlfjojfgghchaaGreatDoorX01
import Derived.Test.YtnlfjojfgghchaaGreatDoorX02
set_option linter.all false
set_option linter.unusedVariables false
namespace AL
open Go
theorem gQ {g:Bool} {φ:AV} (h:g=true):gif g φ=φ:=by subst h;rfl
theorem GP {g x:Bool} {φ:AV} (h:g=true):gif (g&&x) φ=gif x φ:=by subst h;rfl
theorem bO {a b:Bool} (h:(a&&b)=true):a=true:=by cases a;cases h;rfl
theorem dC {a c b:Bool} (h:(a&&(c==b))=true):c=b:=by cases a<;>cases c<;>cases b<;>first|rfl|cases h
theorem fI {c b:Bool} (h:(c==b)=true):c=b:=by cases c<;>cases b<;>first|rfl|cases h
theorem Nn {c b:Bool} (h:c=b):(c==b)=true:=by subst h;cases c<;>rfl
theorem gR {a c b:Bool} (h:a=true) (g:c=b):(a&&(c==b))=true:=by subst h;subst g;cases c<;>rfl
section
variable {P:Program} {r:Option Nat} {ops:Array Oper} {Q:Exit→Act→World→Prop} {B:Base} {E:Env} {H:Hp}
theorem kB {oo:Op} {ty:Nat} {pos:String} {af:Array Edge} {d i t:Nat} {φ:AV} {b c g:Bool} {l:List Oper} {K:Env→Prop} (hdn:Nat.blt d B.nt=true) (hi:(ops[i]?).bind (·.dst)=some t) (hn:Nat.blt t B.nt=true) (hb:lk t E=gif g (bl c))
 (hl:t∈({ dst:=some d,op:=oo,type:=ty,pos:=pos,after:=af,guard:=some (i,b) }:Oper).looksAt ops)
 (h:g=true→c=b→∀(Q:Exit→Act→World→Prop) (E':Env) (rest:List Oper),Agr E' E (({ dst:=some d,op:=oo,type:=ty,pos:=pos,after:=af,guard:=some (i,b) }:Oper).looksAt ops)→St r P ops Q B ((d,φ)::E') H rest→St r P ops Q B E' H ({ dst:=some d,op:=oo,type:=ty,pos:=pos,after:=af,guard:=none }::rest))
 (k:PlC r P ops B H ((d,gif (g&&(c==b)) φ)::E) l K):PlC r P ops B H E ({ dst:=some d,op:=oo,type:=ty,pos:=pos,after:=af,guard:=some (i,b) }::l) K:=⟨k.choose,.cons ⟨rfl,fun Q E' rest hx kk=>by
 have hb':lk t E'=gif g (bl c):=(hx t hl).trans hb
 cases hg:g with
 |true=>
  rw[hg] at hb' kk
  have hb2:lk t E'=bl c:=hb'
  by_cases hcb:c=b
  ·subst hcb
   exact gy hi hn hb2 J (h hg J Q E' rest (kP hx) (by simpa [gif] using kk))
  ·have hc:c= !b:=by revert hcb;cases b<;>cases c<;>simp
   have h2:(c==b)=false:=by simp[hcb]
   refine gn hi hn hb2 hc rfl hdn ?_
   rw[h2] at kk
   exact kk
 |false=>
  rw[hg] at hb' kk
  exact gu hi hn hb' J hdn kk⟩ k.choose_spec.1,k.choose_spec.2⟩
end
attribute [local semireducible] any eqv agg tup fp ptr sl eQ emp cell own obj osl dW
inductive Ko (E:Env) (H:Hp) (x:Operand):AV→Prop
 |here {φ:AV} (h:lkO x E=φ):Ko E H x φ
 |own {α:Type} (key:Nat) {v:Value} {e n:Nat} {enc:α→List AV} {xs:List α} (h:lkO x E=osl key v) (hk:lkH key H=own v e n enc xs):Ko E H x (sl n enc xs)
 |tab {α:Type} (keyO key:Nat) {v:Value} {us:List Value} {e n e':Nat} {enc:α→List AV} {enc':List α→List AV} {xss:List (List α)} (h:lkO x E=osl keyO v) (hO:lkH keyO H=own v e' 1 cQ us) (hk:lkH key H=aX us e n enc xss none) (he:enc'=fun xs=> [sl n enc xs]):Ko E H x (sl 1 enc' xss)
def BorTs (E:Env) (H:Hp):List Operand→List AV→Prop
 | [],[]=>True
 |x::xs,φ::φs=>Ko E H x φ∧BorTs E H xs φs
 |_,_=>False
section
variable {P:Program} {r:Option Nat} {ops:Array Oper} {Q:Exit→Act→World→Prop} {rest:List Oper} {B:Base} {E:Env} {H:Hp} {a:Act} {w:World}
variable {d ty:Nat} {pos:String} {af:Array Edge}
theorem Wg {α:Type} {F:Fz} {Ds:List Nat} (h:SimF B E H a w F Ds) {keyO key:Nat} {v:Value} {us:List Value} {e n e':Nat} {enc:α→List AV} {xss:List (List α)} (hO:lkH keyO H=own v e' 1 cQ us) (hk:lkH key H=aX us e n enc xss none):
 (sl 1 (fun xs=> [sl n enc xs]) xss).p w (fun b=>F b∨eM H b) v:=by
 have hb:=h.hp key
 rw[hk] at hb
 obtain⟨g1,g2,_⟩:=hb
 have h1:=h.hp keyO
 rw[hO] at h1
 obtain⟨hm,vs,hr,he⟩:=h1
 rw[g1] at hm hr
 have hw:(own v e' 1 (fun xs=> [sl n enc xs]) xss).p w (fun b=>F b∨eM H b):=by
  refine⟨hm,vs,hr,by rw[he.len,g1],fun i xs hi=> ?_⟩
  have hil:i<us.length:=by rw[g1];exact(List.getElem?_eq_some_iff.1 hi).1
  obtain⟨u,hu⟩:∃u,us[i]?=some u:=⟨us[i],List.getElem?_eq_getElem hil⟩
  have h2:=he.el i u hu
  have h3:=pY (g2 i u xs hu hi (by simp))
  have h3:(sl n enc xs).p w (fun b=>F b∨eM H b) u:=(sl n enc xs).st (fun b hb=>hb.imp id (fun hb=>⟨key,by rw[hk];exact⟨i,u,hu,by simp,hb⟩⟩)) (fun _ _=>rfl) h3
  match hv:(vs.drop (i*1)).take 1,h2 with
  | [z],h2=>
    have h4:z=u:=h2.1
    subst h4
    exact⟨h3,tV⟩
 exact AV.st _ (fun b hb=>hb.elim id (fun hf=> .inr ⟨keyO,by rw[hO];exact hf⟩)) (fun _ _=>rfl) (pY hw)
theorem BorTs.all {F:Fz} {Ds:List Nat} (h:SimF B E H a w F Ds):∀{xs:List Operand} {φs:List AV},BorTs E H xs φs→All2 w (fun b=>F b∨eM H b) φs (xs.map a.eval)
 | [],[],_=>trivial
 |x::_,_::_,hb=>by
  refine⟨?_,BorTs.all h hb.2⟩
  have h0:=h.opd x
  rcases hb.1 with hφ|⟨key,hφ,hk⟩|⟨keyO,key,hφ,hO,hk,he⟩
  ·rw[hφ] at h0;exact AV.st _ (fun _ h=> .inl h) (fun _ _=>rfl) h0
  ·rw[hφ] at h0
   have h0:a.eval x=_:=h0
   have hp:=h.hp key
   rw[hk] at hp
   rw[h0]
   exact AV.st _ (fun b hb=>hb.imp id (fun hf=>⟨key,by rw[hk];exact hf⟩)) (fun _ _=>rfl) (pY hp)
  ·rw[hφ] at h0
   have h0:a.eval x=_:=h0
   rw[h0,he]
   exact Wg h hO hk
 | [],_::_,h=>h.elim
 |_::_,[],h=>h.elim
theorem Rj {f:FuncId} {xs:List Operand} {φs:List AV} {y:Value} {ts:Array TypeId} (hx:BorTs E H xs φs) (hf:Fn0 P f φs (eqv y)) (he:Ent P f)
 (k:St r P ops Q B ((d,eqv y)::E) H rest) (hn:Nat.blt d B.nt=true:=by rfl):
 St r P ops Q B E H ({ dst:=some d,op:= .call { callee:= .value (.func f),args:=xs.toArray,argTypes:=ts },type:=ty,pos:=pos,after:=af,guard:=none }::rest):=fun a w h=>by
 obtain⟨F,Ds,hs⟩:=h
 refine vK (f:=f) (args:=(xs.map a.eval).toArray) rfl (fun _=>nofun) ?_ (hf w _ _ (hx.all hs) (fun b hb=>hb.elim (fun h=>(hs.Fb b h).1) (fun⟨k,h⟩=>(hs.hN k b h).1)) ⟨fun _=>trivial,fun _ _ h=>h.elim,fun _ _ _ _ h=>h.elim,fun _ _ h=>h.elim⟩) (fun e w' hR=> ?_)
 ·simp[execOp,resolve,Act.eval,Deferred.ofValue,invoke,he.run]
 ·obtain⟨i,v,F',rfl,hl⟩:=hR
  have hv:v=y:=hl.res
  subst hv
  have hnf:∀b,¬eM [] b:=fun b ⟨k,h⟩=>h
  exact⟨v,rfl,k _ _ ⟨F,Ds,(hs.grow (w':=w') hl.size hl.os hl.tape hl.out (fun b hb=>hl.old b hb (hnf b)) (fun _ h=>h) (fun _ h=> .inl h)).put (by simpa using hn) rfl⟩⟩
end
end AL
