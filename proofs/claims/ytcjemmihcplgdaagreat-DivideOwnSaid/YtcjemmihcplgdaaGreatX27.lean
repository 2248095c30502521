/- The abstract logic. Own texts of this claim, packed: ZzALRegion2. -/
import Derived.Test.YtcjemmihcplgdaaGreatX12
set_option linter.all false
set_option linter.unusedVariables false
namespace AL
open Go
attribute [local semireducible] any eqv agg tup fp ptr sl exi andp above emp cell own obj osl eptr clo pf mp mpv
section
variable {P:Program} {r:Option Nat} {ops:Array Oper} {Q:Exit→Act→World→Prop} {rest:List Oper} {B:Base} {E:Env} {H:Hp} {a:Act} {w:World}
variable {d ty:Nat} {pos:String} {af:Array Edge}
theorem stZ1 {α:Type} {W:World} {D:Fz} {T i key:Nat} {enc:α→List AV} {xs:List α} {v:Value} {x y:Operand} (hx:lkO x E=xp v 1 i 0) (hk:lkH key H=rgz D W (firstZ v 1 i)) (hv:(sl 1 enc xs).p W D v) (hi:i<xs.length) (hs2:∀(y:α) {w F us},All2 w F (enc y) us→∀(j:Nat) (u:Value),us[j]?=some u→∃A m c,u= .slice A m c) (ht:IsOne P T) (hy:lkO y E=eqv (.slice none 0 0))
 (k:St r P ops Q B E ((key,rgz D W (firstZ v 1 (i+1)))::H) rest):St r P ops Q B E H ({ dst:=none,op:= .store T x y,type:=ty,pos:=pos,after:=af,guard:=none }::rest):=
 rgM (Z':=firstZ v 1 (i+1)) key hk (fun b o h=>by obtain⟨off,m,c,h1,h2,h3⟩:=h;exact⟨off,m,c,h1,h2,O⟩) (fun a w h=>
 op_skp (ι:=Unit) (E':=fun _=>E) (H':=fun _=>(key,rgz D W (firstZ v 1 (i+1)))::H) h rfl (fun _=>nofun) (fun F Ds hs=>by
  have h1:=hs.opd x
  have hvy:=hs.opd y
  rw[hx] at h1
  rw[hy] at hvy
  obtain⟨b,o,m,c,hv2,hu⟩:=h1
  have hvy:a.eval y= .slice none 0 0:=hvy
  obtain⟨b',off,c1,us1,hv3,hD,hl,hr,ha⟩:=sl_elem hv (i:=i) (x:=xs[i]) (List.getElem?_eq_getElem hi)
  rw[hv2] at hv3
  simp at hv3
  obtain⟨⟨rfl,rfl⟩,_⟩:=hv3
  have h2:=hs.hp key
  rw[lkH_same] at h2
  obtain⟨c0,t,c',t',g1,g2,g3,g4⟩:=h2 b hD
  have hall:∀(j:Nat) (u:Value),[Value.slice none 0 0][j]?=some u→∃u0,cellW W b (o+i*1+j) u0∧kin (firstZ v 1 (i+1) b (o+i*1+j)) u0 u:=fun j u hj=>by
   have hj2:j<1:=by have:=(List.getElem?_eq_some_iff.1 hj).1;simpa using this
   refine⟨us1[j],rd_cellW hr (List.getElem?_eq_getElem O),.inr (.inr (.inr ⟨⟨o,m,c,hv2,O,O⟩,hs2 _ ha j _ (List.getElem?_eq_getElem O),?_⟩))⟩
   match j,hj2 with
   |0,_=>simpa using hj.symm
  have hst:=rgs_store (key:=key) (vs:= [.slice none 0 0]) hs (lkH_same _ _ _) hD g2 (by simp) hall
  refine⟨_,?_,(),hst⟩
  have hlt:=(kinB_set (o:=o+i*1) (vs:= [.slice none 0 0]) g2 (h2 b hD) (by simp) hall).1
  have:=run_storeVar_one (P:=P) (v:=a.eval y) (o:=o+i*1) ht g2 (by simp at hlt;omega) (by rw[hvy];rfl)
  simp only [execOp,hu,Instr.storeAt,Instr.sureAddr,Sem.run_bind,Sem.run_pure,Result.andThen_ok,Nat.add_zero]
  rw[this,hvy];rfl) (fun _ a w hs=>k a w hs))
theorem calRI {ι:Type} {f:FuncId} {xs:List Operand} {φs:List AV} {res:Nat→ι→AV} {ts:Array TypeId} (key:Nat) (S:ι→List Value→AV) (ψs:ι→List AV) (hx:OpdsIs E xs φs) (hf:Fn P f φs [] res (fun _=> [])) (he:Ent P f) (hk:lkH key H=emp)
 (hres:∀N i {w F v},(res N i).p w F v→∃vs,(∀{w' F'},(S i vs).p w' F' v)∧All2 w (newF N w F) (ψs i) vs)
 (k:∀i D vs,St r P ops Q B ((d,S i vs)::E) ((key,reg D (ψs i) vs)::H) rest) (hn:Nat.blt d B.nt=true:=by rfl):
 St r P ops Q B E H ({ dst:=some d,op:= .call { callee:= .value (.func f),args:=xs.toArray,argTypes:=ts },type:=ty,pos:=pos,after:=af,guard:=none }::rest):=fun a w h=>by
 obtain⟨F,Ds,hs⟩:=h
 have hf:Fn P f (opds xs E) [] res (fun _=> []):=by rw[hx.eq];exact hf
 refine wl_enter (f:=f) (args:=(xs.map a.eval).toArray) rfl (fun _=>nofun) ?_ (hf w F _ (hs.opds xs) (fun b hb=>(hs.Fb b hb).1) (hpOk_nil _ _)) (fun e w' hR=> ?_)
 ·simp[execOp,resolve,Act.eval,Deferred.ofValue,invoke,he.run]
 ·obtain⟨i,v,F',rfl,hl⟩:=hR
  obtain⟨vs,hS,hvs⟩:=hres _ i hl.res
  have hnf:∀b,¬footH [] b:=fun b ⟨k,h⟩=>h
  refine⟨v,rfl,k i (newF w.heap.size w' F') vs _ _ ⟨F,Ds,(hs.upd key (reg (newF w.heap.size w' F') (ψs i) vs) hl.size hl.os hl.tape hl.out (fun b hb _=>hl.old b hb (hnf b)) (fun b hb=>⟨.inr hb.2.1,?_⟩) ⟨hvs,fun b hb=>hb.2.2⟩).put (by simpa using hn) hS⟩⟩
  obtain⟨c,t,hc⟩:=hb.2.2
  exact(Array.getElem?_eq_some_iff.1 hc).1
theorem resV2 {α β:Type} {N n m:Nat} {enc:α→List AV} {xs:List α} {enc':β→List AV} {ys:List β} {z x:Value} {w:World} {F:Fz} {v:Value} (h:(tup [agg [eqv z,fre N (sl n enc xs),fre N (sl m enc' ys)],eqv x]).p w F v):
 ∃vs,(∀{w':World} {F':Fz},(tup [agg [eqv z,eqv (sv (ix vs 0)),eqv (sv (ix vs 1))],eqv x]).p w' F' v)∧All2 w (newF N w F) [sl n enc xs,sl m enc' ys] vs:=by
 obtain⟨us,hu,ha⟩:=h
 match us,ha with
 | [u0,u1],⟨g0,g1,_⟩=>
   obtain⟨ts,ht,hb⟩:=g0
   match ts,hb with
   | [t0,t1,t2],⟨k0,k1,k2,_⟩=>exact⟨[t1,t2],fun {w' F'}=>⟨[u0,u1],hu,⟨[t0,t1,t2],ht,k0,(leaf1 k1).1,(leaf1 k2).1,tV⟩,g1,tV⟩,k1,k2,tV⟩
end
end AL
