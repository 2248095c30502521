/- The abstract logic. Own texts of this claim, packed: MkALTab, MkALPair, MkALFresh. -/
import Derived.Test.YtnlfjojfgghchaaGreatDoorX01
set_option linter.all false
set_option linter.unusedVariables false
namespace AL
open Go
attribute [local semireducible] emp osl
def both (φ ψ:AV):AV:=⟨fun w F v=>φ.p w F v∧ψ.p w F v,fun hF hw h=>⟨φ.st hF hw h.1,ψ.st hF hw h.2⟩⟩
class Amb (ψ:AV):Prop where
 amb:∀{w F v} (u:Value),ψ.p w F v→ψ.p w F u
section
variable {P:Program} {r:Option Nat} {ops:Array Oper} {Q:Exit→Act→World→Prop} {rest:List Oper} {B:Base} {E:Env} {H:Hp} {ψ:AV} [hA:Amb ψ]
theorem Sim.tbI {a:Act} {w:World} {φ:AV} (h:Sim B E H a w) (t t':Nat) (hx:lk t E=both φ ψ):Sim B ((t,φ)::(t',ψ)::E) H a w:=by
 obtain⟨F,Ds,hs⟩:=h
 have h1:=hs.env t
 rw[hx] at h1
 refine⟨F,Ds,{ hs with env:=fun s=> ?_ }⟩
 by_cases e:t=s
 ·subst e;rw[cR];exact h1.1
 ·rw[bU _ _ e]
  by_cases e':t'=s
  ·subst e';rw[cR];exact hA.amb _ h1.2
  ·rw[bU _ _ e'];exact hs.env s
theorem Sim.tbU {a:Act} {w:World} {φ:AV} (h:Sim B E H a w) (t t':Nat) (hx:lk t E=φ) (ht:lk t' E=ψ):Sim B ((t,both φ ψ)::E) H a w:=by
 obtain⟨F,Ds,hs⟩:=h
 have h1:=hs.env t
 have h2:=hs.env t'
 rw[hx] at h1
 rw[ht] at h2
 refine⟨F,Ds,{ hs with env:=fun s=> ?_ }⟩
 by_cases e:t=s
 ·subst e;rw[cR];exact⟨h1,hA.amb _ h2⟩
 ·rw[bU _ _ e];exact hs.env s
theorem tbI {φ:AV} {c:Code} (t t':Nat) (hx:lk t E=both φ ψ) (k:Ct r P Q B ((t,φ)::(t',ψ)::E) H c):Ct r P Q B E H c:=fun a w hs=>k a w (hs.tbI t t' hx)
theorem tbU {φ:AV} (t t':Nat) (hx:lk t E=φ) (ht:lk t' E=ψ) (k:St r P ops Q B ((t,both φ ψ)::E) H rest):St r P ops Q B E H rest:=fun a w hs=>k a w (hs.tbU t t' hx ht)
end
def dS (ψ:AV):HA:=⟨fun _=>False,fun w F=>ψ.p w F undef,fun hF hw h=>ψ.st hF (fun b hb=>hw b (.inl hb)) h⟩
section
variable {P:Program} {r:Option Nat} {ops:Array Oper} {Q:Exit→Act→World→Prop} {rest:List Oper} {B:Base} {E:Env} {H:Hp} {ψ:AV} [hA:Amb ψ]
variable {d ty:Nat} {pos:String} {af:Array Edge}
theorem tbH {c:Code} (t key:Nat) (hk:lkH key H=dS ψ) (k:Ct r P Q B ((t,ψ)::E) H c):Ct r P Q B E H c:=fun a w ⟨F,Ds,hs⟩=>by
 have h1:=hs.hp key
 rw[hk] at h1
 refine k a w ⟨F,Ds,{ hs with env:=fun s=> ?_ }⟩
 by_cases e:t=s
 ·subst e;rw[cR];exact hA.amb _ h1
 ·rw[bU _ _ e];exact hs.env s
theorem UY {f:FuncId} {xs:List Operand} {φs:List AV} {φ:AV} {ts:Array TypeId} (hx:OpdsIs E xs φs) (hf:Fn P f φs [(998,dS ψ)] (ι:=Unit) (fun _ _=>φ) (fun _=> [])) (he:Ent P f) (t:Nat) (ht:lk t E=ψ) (hk:lkH 998 H=emp)
 (k:St r P ops Q B ((d,φ)::E) H rest) (hn:Nat.blt d B.nt=true:=by rfl):
 St r P ops Q B E H ({ dst:=some d,op:= .call { callee:= .value (.func f),args:=xs.toArray,argTypes:=ts },type:=ty,pos:=pos,after:=af,guard:=none }::rest):=fun a w hs=>by
 obtain⟨F,Ds,hs⟩:=hs
 have h1:=hs.env t
 rw[ht] at h1
 have hs2:Sim B E ((998,dS ψ)::H) a w:=⟨F,Ds,hs.upd 998 (dS ψ) (Nat.le_refl _) rfl rfl rfl (fun _ _ _=>rfl) (fun b hb=>hb.elim) (hA.amb _ h1)⟩
 refine cal (Hi:= [(998,dS ψ)]) hx hf he ⟨by rw[bB];exact rI,tV⟩ (fun N _=> ?_) hn a w hs2
 intro a w hs3
 refine k a w (hs3.less (fun _ _ _ _ h=>h) (fun j=> ?_))
 show(∀b,(lkH j H).foot b→_)∧_
 by_cases e:998=j
 ·subst e;rw[hk];exact⟨fun b h=>h.elim,fun _=>trivial⟩
 ·have:lkH j (mQ [] [(998,dS ψ)] ((998,dS ψ)::H))=lkH j H:=by
   show lkH j ((998,emp)::(998,dS ψ)::H)=_
   rw[bG _ _ e,bG _ _ e]
  rw[this];exact⟨fun _ h=>h,fun h=>h⟩
end
instance (φ ψ:AV) [h:One φ]:One (both φ ψ):=⟨fun hp=>h.one hp.1⟩
end AL
set_option linter.unusedVariables false
namespace AL
open Go
attribute [local semireducible] any eqv agg tup fp ptr sl eG emp cell own obj osl dL clo pf mp mpv
section
variable {P:Program} {r:Option Nat} {ops:Array Oper} {Q:Exit→Act→World→Prop} {rest:List Oper} {B:Base} {E:Env} {H:Hp} {a:Act} {w:World}
variable {d ty:Nat} {pos:String} {af:Array Edge}
theorem kd {φ φ':AV} (h:∀{w F v},φ.p w F v→φ'.p w F v) (k:St r P ops Q B ((d,φ')::E) H rest):St r P ops Q B ((d,φ)::E) H rest:=fun a w hs=>k a w (hs.less (fun t _ _ _ hv=>by
 by_cases e:d=t
 ·subst e;rw[cR] at hv ⊢;exact h hv
 ·rw[bU _ _ e] at hv ⊢;exact hv) (fun t=>⟨fun _ h=>h,fun h=>h⟩))
theorem Xk {f:FuncId} {cs:List AV} {x:Operand} {xs:List Operand} {φs:List AV} {φ:AV} {ts:Array TypeId} (hc:lkO x E=clo f cs) (hx:OpdsIs E xs φs) (hf:Fn0 P f (φs++cs) φ) (he:Ent P f)
 (k:St r P ops Q B ((d,φ)::E) H rest) (hn:Nat.blt d B.nt=true:=by rfl):
 St r P ops Q B E H ({ dst:=some d,op:= .call { callee:= .value x,args:=xs.toArray,argTypes:=ts },type:=ty,pos:=pos,after:=af,guard:=none }::rest):=
 Rs (Hi:= []) (ι:=Unit) (res:=fun _ _=>φ) (Ho:=fun _=> []) hc (by rw[hx.eq];exact hf) he trivial (fun _ _=>k) hn
theorem svI {α:Type} (key:Nat) {v:Value} {e n:Nat} {enc:α→List AV} {xs:List α} (hk:lkH key H=own v e n enc xs):∀a w,Sim B E H a w→sv v=v:=fun a w ⟨F,Ds,hs⟩=>by
 have:=hs.hp key
 rw[hk] at this
 exact JZ this
end
end AL
set_option linter.unusedVariables false
namespace AL
open Go
attribute [local semireducible] any eqv agg tup fp ptr sl eG emp cell own obj osl dL clo pf mp mpv
def wr (w:World) (b:Nat):Prop:=∃c ty,w.heap[b]?=some (.cells c ty (0,0))
theorem Xl {w w':World} {b:Nat} (h:w'.heap[b]?=w.heap[b]?) (hw:wr w b):wr w' b:=by
 obtain⟨c,ty,hc⟩:=hw
 exact⟨c,ty,h.trans hc⟩
def Kc (N:Nat) (w:World) (F:Fz):Fz:=fun b=>F b∧N≤b∧wr w b
def fre (N:Nat) (φ:AV):AV:=⟨fun w F v=>φ.p w (Kc N w F) v,fun hF hw h=>φ.st (fun b hb=>⟨hF b hb.1,hb.2.1,Xl (hw b hb.1) hb.2.2⟩) (fun b hb=>hw b hb.1) h⟩
theorem bV {N:Nat} {φ:AV} {w:World} {F:Fz} {v:Value} (h:(fre N φ).p w F v):φ.p w F v:=φ.st (fun b hb=>hb.1) (fun _ _=>rfl) h
theorem iW {N N':Nat} (hN:N≤N') {φ:AV} {w:World} {F:Fz} {v:Value} (h:(fre N' φ).p w F v):(fre N φ).p w F v:=φ.st (fun b hb=>⟨hb.1,Nat.le_trans hN hb.2.1,hb.2.2⟩) (fun _ _=>rfl) h
theorem IQ {N:Nat} {w:World} {F:Fz}:∀{cs:List AV} {vs:List Value},All2 w F (cs.map (fre N)) vs↔All2 w (Kc N w F) cs vs
 | [],[]=>Iff.rfl
 |c::cs,v::vs=>by
  show(_∧_)↔(_∧_)
  rw[IQ];exact Iff.rfl
 | [],_::_=>Iff.rfl
 |_::_,[]=>Iff.rfl
instance (N:Nat) (φ:AV) [h:One φ]:One (fre N φ):=⟨fun {w F v} hv=>h.one (w:=w) (F:=Kc N w F) hv⟩
class FlatE {α:Type} (enc:α→List AV):Prop where
 flat:∀(N:Nat) (x:α),enc x=(enc x).map (fre N)
theorem flat {α:Type} {enc:α→List AV} [h:FlatE enc] {N:Nat}:∀x,enc x=(enc x).map (fre N):=h.flat N
theorem Kd {α:Type} {f:α→Value}:FlatE (fun x=> [eqv (f x)]):=⟨fun _ _=>rfl⟩
theorem Xm {α:Type} {f g:α→Value}:FlatE (fun x=> [eqv (f x),eqv (g x)]):=⟨fun _ _=>rfl⟩
theorem mA {α:Type} {N n:Nat} {enc:α→List AV} {w:World} {F:Fz} {v:Value} (h:(eqv (.slice none 0 0)).p w F v):(fre N (sl n enc [])).p w F v:=slnil (w:=w) (F:=Kc N w F) h
def frb (c:Bool) (N:Nat) (φ:AV):AV:=cond c (fre N φ) φ
theorem Xn {c:Bool} (h:c=true) {N:Nat} {φ:AV} {w:World} {F:Fz} {v:Value} (hv:(fre N φ).p w F v):(frb c N φ).p w F v:=by subst h;exact hv
theorem Xo {c:Bool} (h:c=false) {N:Nat} {φ:AV} {w:World} {F:Fz} {v:Value} (hv:φ.p w F v):(frb c N φ).p w F v:=by subst h;exact hv
theorem BK {c:Bool} {N:Nat} {φ:AV} {w:World} {F:Fz} {v:Value} (hv:(frb c N φ).p w F v):φ.p w F v:=by
 cases c with
 |true=>exact bV hv
 |false=>exact hv
instance (c:Bool) (N:Nat) (φ:AV) [h:One φ]:One (frb c N φ):=⟨fun hv=>h.one (BK hv)⟩
theorem Da {α:Type} {w:World} {F:Fz} {N:Nat} {v:Value} {et n:Nat} {enc enc':α→List AV} {xs:List α} (h:(own v et n enc' xs).p w F) (he:∀x,enc' x=(enc x).map (fre N)) (hb:∀b,ownB v b→N≤b):(fre N (sl n enc xs)).p w (fun b=>F b∨ownB v b) v:=by
 obtain⟨hm,vs,h,hel⟩:=h
 rcases h.2 with⟨hv,hx⟩|⟨b,cap,cur,hv,h0,hc,hcap,hmx,hsz,htake⟩
 ·exact⟨none,0,by simp[hv,hx],O,hm,fun hne=>absurd (List.eq_nil_of_length_eq_zero hx) hne⟩
 ·refine⟨some ⟨b,0,none⟩,cap,hv,hcap,hm,fun _=>⟨b,0,vs,rfl,⟨.inr (by subst hv;rfl),hb b (by subst hv;rfl),cur,et,hc⟩,⟨cur,et,(0,0),hc,fun j u hj=> ?_⟩,⟨hel.len,fun i x hi=> ?_⟩⟩⟩
  ·rw[←htake,List.getElem?_take] at hj
   split at hj
   ·simpa using hj
   ·simp at hj
  ·have h2:=hel.el i x hi
   rw[he x] at h2
   exact(IQ.1 h2).st (fun b hb=>⟨.inl hb.1,hb.2⟩) (fun _ _=>rfl)
section
variable {P:Program} {r:Option Nat} {ops:Array Oper} {Q:Exit→Act→World→Prop} {rest:List Oper} {B:Base} {E:Env} {H:Hp} {a:Act} {w:World}
variable {d ty:Nat} {pos:String} {af:Array Edge} {ι:Type}
theorem Sim.freezeN {α:Type} {v:Value} {et n:Nat} {enc enc':α→List AV} {xs:List α} (h:Sim B E H a w) (key t:Nat) (hM:∀b,¬B.M b) (he:∀x,enc' x=(enc x).map (fre B.N)) (hk:lkH key H=own v et n enc' xs) (ht:lk t E=osl key v):
 Sim B ((t,fre B.N (sl n enc xs))::E) ((key,emp)::H) a w:=by
 obtain⟨F,Ds,h⟩:=h
 refine⟨_,Ds,{ h.freeze key with env:=fun s=> ?_ }⟩
 by_cases e:t=s
 ·subst e
  rw[cR]
  have h1:=h.env t
  rw[ht] at h1
  have h1:a.tmps.getD t undef=v:=h1
  rw[h1]
  have h2:=h.hp key
  rw[hk] at h2 ⊢
  exact Da h2 he (fun b hb=>((h.hN key b (by rw[hk];exact hb)).2).elim id (fun hm=>absurd hm (hM b)))
 ·rw[bU _ _ e]
  exact(h.freeze key).env s
theorem Sim.freezeCN {α:Type} {v:Value} {et n b o:Nat} {cs:List AV} {enc enc':α→List AV} {xs:List α} (h:Sim B E H a w) (kc key:Nat) (hM:∀b,¬B.M b) (he:∀x,enc' x=(enc x).map (fre B.N)) (hc:lkH kc H=cell b cs) (hk:lkH key H=own v et n enc' xs) (ho:cs[o]?=some (osl key v)) (hne:kc≠key):
 Sim B E ((kc,cell b (cs.set o (fre B.N (sl n enc xs))))::(key,emp)::H) a w:=by
 obtain⟨F,Ds,h⟩:=h
 have h0:=h.freeze key
 have hl:lkH kc ((key,emp)::H)=cell b cs:=by rw[bG _ _ (Ne.symm hne)];exact hc
 refine⟨_,Ds,h0.upd kc _ (Nat.le_refl _) rfl rfl rfl (fun _ _ _=>rfl) (fun x hx=>⟨.inl (by rw[hl];exact hx),(h0.hN kc x (by rw[hl];exact hx)).1⟩) ?_⟩
 have h1:=h0.hp kc
 rw[hl] at h1
 obtain⟨vs,t,hvs,ha⟩:=h1
 obtain⟨u,hu,hp⟩:=ha.get ho
 have hu':u=v:=hp
 subst hu'
 refine⟨vs,t,hvs,?_⟩
 have h2:=h.hp key
 rw[hk] at h2
 have h3:=Da h2 he (fun b hb=>((h.hN key b (by rw[hk];exact hb)).2).elim id (fun hm=>absurd hm (hM b)))
 have h4:=ha.set o (v:=u) (φ:=fre B.N (sl n enc xs)) (by rw[hk];exact h3)
 have e:vs.set o u=vs:=by
  apply List.ext_getElem?
  intro j
  by_cases e:o=j
  ·subst e;rw[List.getElem?_set_self (List.getElem?_eq_some_iff.1 hu).1,hu]
  ·rw[List.getElem?_set_ne e]
 rw[e] at h4;exact h4
theorem noM (b:Nat):¬fQ [] b:=fun⟨_,h⟩=>h
theorem fzN {α:Type} {v:Value} {et n:Nat} {enc':α→List AV} {xs:List α} (enc:α→List AV) (key t:Nat) (hM:∀b,¬B.M b) (he:∀x,enc' x=(enc x).map (fre B.N)) (hk:lkH key H=own v et n enc' xs) (ht:lk t E=osl key v)
 (k:St r P ops Q B ((t,fre B.N (sl n enc xs))::E) ((key,emp)::H) rest):St r P ops Q B E H rest:=fun a w hs=>k a w (hs.freezeN key t hM he hk ht)
theorem Ya {α:Type} {x:Exit} {v:Value} {et n:Nat} {enc':α→List AV} {xs:List α} (enc:α→List AV) (key t:Nat) (hM:∀b,¬B.M b) (he:∀x,enc' x=(enc x).map (fre B.N)) (hk:lkH key H=own v et n enc' xs) (ht:lk t E=osl key v)
 (k:At Q x B ((t,fre B.N (sl n enc xs))::E) ((key,emp)::H)):At Q x B E H:=fun a w hs=>k a w (hs.freezeN key t hM he hk ht)
theorem Ke {α:Type} {v:Value} {et n b:Nat} {cs:List AV} {enc':α→List AV} {xs:List α} (enc:α→List AV) (kc key o:Nat) (hM:∀b,¬B.M b) (he:∀x,enc' x=(enc x).map (fre B.N)) (hc:lkH kc H=cell b cs) (hk:lkH key H=own v et n enc' xs) (ho:cs[o]?=some (osl key v)) (hne:kc≠key)
 (k:St r P ops Q B E ((kc,cell b (cs.set o (fre B.N (sl n enc xs))))::(key,emp)::H) rest):St r P ops Q B E H rest:=fun a w hs=>k a w (hs.freezeCN kc key hM he hc hk ho hne)
theorem UZ {f:FuncId} {xs:List Operand} {φs:List AV} {Hi:Hp} {res:Nat→ι→AV} {Ho:ι→Hp} {ts:Array TypeId} (hx:OpdsIs E xs φs) (hf:Fn P f φs Hi res Ho) (he:Ent P f) (hHi:SubH Hi H)
 (k:∀N i,B.N≤N→St r P ops Q B ((d,res N i)::E) (mQ (Ho i) Hi H) rest) (hn:Nat.blt d B.nt=true:=by rfl):
 St r P ops Q B E H ({ dst:=some d,op:= .call { callee:= .value (.func f),args:=xs.toArray,argTypes:=ts },type:=ty,pos:=pos,after:=af,guard:=none }::rest):=fun a w h=>by
 obtain⟨F,Ds,hs⟩:=h
 have hNs:=hs.Ns
 have hf:Fn P f (opds xs E) Hi res Ho:=by rw[hx.eq];exact hf
 have hH:HpOk Hi w F:=⟨fun k=>(hHi.lk k).2 (hs.hp k),fun k b hb=>hs.hF k b ((hHi.lk k).1 b hb),fun k k' b e hb hb'=>hs.hd k k' b e ((hHi.lk k).1 b hb) ((hHi.lk k').1 b hb'),fun k b hb=>(hs.hN k b ((hHi.lk k).1 b hb)).1⟩
 refine Aj (f:=f) (args:=(xs.map a.eval).toArray) rfl (fun _=>nofun) ?_ (hf w F _ (hs.opds xs) (fun b hb=>(hs.Fb b hb).1) hH) (fun e w' hR=> ?_)
 ·simp[execOp,resolve,Act.eval,Deferred.ofValue,invoke,he.run]
 ·obtain⟨i,v,F',rfl,hl⟩:=hR
  exact⟨v,rfl,k w.heap.size i hNs _ _ ⟨F',Ds,(hs.called hHi hl).put (by simpa using hn) hl.res⟩⟩
theorem eI {f:FuncId} {xs:List Operand} {φs:List AV} {res:Nat→Unit→AV} {φ:AV} {ts:Array TypeId} (hx:OpdsIs E xs φs) (hf:Fn P f φs [] res (fun _=> [])) (he:Ent P f)
 (hr:∀N,B.N≤N→∀{w F v},(res N ()).p w F v→φ.p w F v) (k:St r P ops Q B ((d,φ)::E) H rest) (hn:Nat.blt d B.nt=true:=by rfl):
 St r P ops Q B E H ({ dst:=some d,op:= .call { callee:= .value (.func f),args:=xs.toArray,argTypes:=ts },type:=ty,pos:=pos,after:=af,guard:=none }::rest):=
 UZ hx hf he trivial (fun N _ hN=>kd (fun h=>hr N hN h) k) hn
theorem uT {α:Type} {T e n by_:Nat} {z:List Value} {enc:α→List AV} {ys:List α} {s x:Operand} (hs:lkO s E=eqv (.slice none 0 0))
 (hx:lkO x E=sl n enc ys) (hT:dW P T e n by_ z) [h1:∀y,OneAll (enc y)] (hby:ys.length*by_≤aN) (hfl:∀y,enc y=(enc y).map (fre B.N))
 (k:St r P ops Q B ((d,fre B.N (sl n enc ys))::E) H rest) (hn:Nat.blt d B.nt=true:=by rfl):
 St r P ops Q B E H ({ dst:=some d,op:= .call { callee:= .builtin .append,args:= #[s,x],argTypes:= #[T,T] },type:=ty,pos:=pos,after:=af,guard:=none }::rest):=fun a w h=>
 iD (ι:=Unit) (E':=fun _=>(d,fre B.N (sl n enc ys))::E) (H':=fun _=>H) h rfl (fun _=>nofun) (fun F Ds hS=>by
  have hv1:=hS.opd s
  rw[hs] at hv1
  have hv1:a.eval s= .slice none 0 0:=hv1
  have hv2:=hS.opd x
  rw[hx] at hv2
  obtain⟨A,cap,hv2,hcap,hm,hA⟩:=hv2
  have hown:w.ownsRow 0 e n (.slice none 0 0) 0 []:=⟨by simp,.inl ⟨rfl,rfl⟩⟩
  by_cases hy:ys= []
  ·subst hy
   refine⟨.slice none 0 0,w,?_,(),F,Ds,hS.put (by simpa using hn) ⟨none,0,rfl,Nat.le_refl _,hm,fun h=>absurd rfl h⟩⟩
   have:=Aa (P:=P) (ty:=ty) hT hown A cap
   simp only [execOp,resolve,Sem.run_bind,Sem.run_pure,Result.andThen_ok,invoke,builtin,List.map_toArray,List.map_cons,List.map_nil,hv1,hv2,List.length_nil,this]
  ·obtain⟨b,off,us,rfl,hb,hr,hu⟩:=hA hy
   have hone:∀u∈us,u.oneCell'=true:=fun u hu'=>by
    obtain⟨t,ht⟩:=List.getElem?_of_mem hu'
    have hlu:=hu.len
    have htl:t<us.length:=(List.getElem?_eq_some_iff.1 ht).1
    have hn0:=hT.pos
    have hq:t/n<ys.length:=by rw[Nat.div_lt_iff_lt_mul hn0,←hlu];exact htl
    have he:=hu.el (t/n) ys[t/n] (by simp[hq])
    refine(h1 _).all he u ?_
    refine List.mem_of_getElem? (i:=t % n) ?_
    rw[List.getElem?_take,if_pos (Nat.mod_lt _ hn0),List.getElem?_drop,Nat.mul_comm,Nat.div_add_mod]
    exact ht
   obtain⟨v',w',hrun,hown',hg,hfr⟩:=Bq (P:=P) (ty:=ty) (c:=cap) hT hown (ad:=⟨b,off,none⟩) (m:=ys.length) hu.len (fun j u hj=>by rw[iZ];exact hr.cell hj) hone O (by simpa using hby)
   have hold:∀b,b<w.heap.size→w'.heap[b]?=w.heap[b]?:=fun b hb=>hg.block b hb (by simp[Value.ownBlock])
   have hnew:∀b,ownB v' b→w.heap.size≤b∧b<w'.heap.size:=fun b hb=>⟨(hfr b hb).elim (fun h=>h.elim) id,nR hown' hb⟩
   have hS':=hS.grow (w':=w') (F':=fun b=>F b∨ownB v' b) hg.size hg.os hg.tape hg.output hold (fun _ h=> .inl h) (fun b hb=>hb.imp id (hnew b))
   have hp:(own v' e n enc ys).p w' F:=⟨hm,us,by simpa using hown',hu.st (fun _ h=>h) (fun b hb=>hold b (hS.Fb b hb).1)⟩
   refine⟨v',w',?_,(),_,Ds,hS'.put (by simpa using hn) (Da hp hfl (fun b hb=>Nat.le_trans hS.Ns (hnew b hb).1))⟩
   simp only [execOp,resolve,Sem.run_bind,Sem.run_pure,Result.andThen_ok,invoke,builtin,List.map_toArray,List.map_cons,List.map_nil,hv1,hv2,hrun]) (fun _=>k)
theorem pZ {cs ds:List AV} (hl:EV cs ds) {w:World} {F:Fz} {v:Value} (h:(tup cs).p w F v):(tup ds).p w F v:=by
 obtain⟨vs,hv,ha⟩:=h
 exact⟨vs,hv,CZ hl ha⟩
end
end AL
