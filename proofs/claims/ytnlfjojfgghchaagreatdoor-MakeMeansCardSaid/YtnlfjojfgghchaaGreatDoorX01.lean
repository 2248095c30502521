/- The abstract logic. Own texts of this claim, packed: MkALSt, MkALDraw, MkALRange, MkALDraw2. -/
import Derived.Test.YtnlfjojfgghchaaGreatDoorX00
import Derived.OrdersIn
import Derived.RangeFuncRecord
set_option linter.all false
set_option linter.unusedVariables false
namespace AL
open Go
attribute [local semireducible] any eqv agg tup fp ptr sl eG emp cell own obj osl dL
attribute [local semireducible] clo pf mp mpv
def St (r:Option Nat) (P:Program) (ops:Array Oper) (Q:Exit→Act→World→Prop) (B:Base) (E:Env) (H:Hp) (rest:List Oper):Prop:=∀a w,Sim B E H a w→wl r P ops Q rest a w
def Ct (r:Option Nat) (P:Program) (Q:Exit→Act→World→Prop) (B:Base) (E:Env) (H:Hp) (c:Code):Prop:=∀a w,Sim B E H a w→c.wpIn (FW r) 0 P Q a w
def At (Q:Exit→Act→World→Prop) (e:Exit) (B:Base) (E:Env) (H:Hp):Prop:=∀a w,Sim B E H a w→Q e a w
section
variable {P:Program} {r:Option Nat} {ops:Array Oper} {Q:Exit→Act→World→Prop} {rest:List Oper} {B:Base} {E:Env} {H:Hp}
variable {d ty:Nat} {pos:String} {af:Array Edge} {ι:Type} {a:Act} {w:World}
theorem rg {id:Nat} {l:List Oper} (h:St r P l.toArray Q B E H l):Ct r P Q B E H (.region id l.toArray false):=fun a w hs=>Ou (h a w hs)
theorem nl (h:At Q .normal B E H):St r P ops Q B E H []:=h
theorem sq {x y:Code} (h:Ct r P (Exit.then (fun a w=>y.wpIn (FW r) 0 P Q a w) Q) B E H x):Ct r P Q B E H (.seq x y):=fun a w hs=>wpIn_seq (h a w hs)
theorem th {y:Code} (h:Ct r P Q B E H y):At (Exit.then (fun a w=>y.wpIn (FW r) 0 P Q a w) Q) .normal B E H:=h
theorem bk {id:Nat} {c:Code} (h:Ct r P (Exit.inBlock id Q) B E H c):Ct r P Q B E H (.block id c):=fun a w hs=>wpIn_block (h a w hs)
theorem eb {id:Nat} (h:At Q .normal B E H):At (Exit.inBlock id Q) .normal B E H:=h
theorem xb {id:Nat} (h:At Q .normal B E H):At (Exit.inBlock id Q) (.exit id) B E H:=fun a w hs=>by show(if id=id then _ else _);rw[if_pos rfl];exact h a w hs
theorem xt_ {id:Nat} {K:Act→World→Prop} (h:At Q (.exit id) B E H):At (Exit.then K Q) (.exit id) B E H:=h
theorem rt_ {K:Act→World→Prop} (h:At Q .ret B E H):At (Exit.then K Q) .ret B E H:=h
theorem rb {id:Nat} (h:At Q .ret B E H):At (Exit.inBlock id Q) .ret B E H:=h
theorem sk (h:At Q .normal B E H):Ct r P Q B E H .skip:=fun a w hs=>wpIn_skip (h a w hs)
theorem ex {id:Nat} (h:At Q (.exit id) B E H):Ct r P Q B E H (.exit id):=fun a w hs=>wpIn_exit (h a w hs)
theorem rt (h:At Q .ret B E H):Ct r P Q B E H .ret:=fun a w hs=>wpIn_ret (h a w hs)
theorem cd {c:Operand} {x y:Code} {b:Bool} (hc:lkO c E=bl b) (ht:b=true→Ct r P Q B E H x) (hf:b=false→Ct r P Q B E H y):Ct r P Q B E H (.cond c x y):=
 fun a w hs=>UR hs hc (fun h=>ht h a w hs) (fun h=>hf h a w hs)
theorem lp {κ:Type} (Ei:κ→Env) (Hi:κ→Hp) (G:κ→Prop) (μ:κ→Nat) (k0:κ) (g0:G k0) (hE:Sub (Ei k0) E) (hH:SubH (Hi k0) H) {c:Code}
 (round:∀k,G k→Ct r P (Exit.then (fun a' w'=> ∃k',G k'∧μ k'<μ k∧Sim B (Ei k') (Hi k') a' w') Q) B (Ei k) (Hi k) c):Ct r P Q B E H (.loop c):=
 fun a w hs=>US Ei Hi G μ k0 g0 (hs.weak hE hH) (fun k a w g h=>round k g a w h)
theorem ln {κ:Type} {Ei:κ→Env} {Hi:κ→Hp} {G:κ→Prop} {μ:κ→Nat} {k:κ} (k':κ) (g:G k') (hμ:μ k'<μ k) (hE:Sub (Ei k') E) (hH:SubH (Hi k') H):
 At (Exit.then (fun a' w'=> ∃k',G k'∧μ k'<μ k∧Sim B (Ei k') (Hi k') a' w') Q) .normal B E H:=fun _ _ hs=>⟨k',g,hμ,hs.weak hE hH⟩
theorem jn {κ:Type} (Ej:κ→Env) (Hj:κ→Hp) (G:κ→Prop) {c:Code} (h1:Ct r P (Exit.then (fun a w=> ∃k,G k∧Sim B (Ej k) (Hj k) a w) Q) B E H c) (h2:∀k,G k→At Q .normal B (Ej k) (Hj k)):
 Ct r P Q B E H c:=fun a w hs=>wpIn_mono (h1 a w hs) (fun e a' w' hq=>by
 cases e with
 |normal=>obtain⟨k,g,h⟩:=hq;exact h2 k g a' w' h
 |_=>exact hq)
theorem jx {κ:Type} {Ej:κ→Env} {Hj:κ→Hp} {G:κ→Prop} (k:κ) (g:G k) (hE:Sub (Ej k) E) (hH:SubH (Hj k) H):At (Exit.then (fun a w=> ∃k,G k∧Sim B (Ej k) (Hj k) a w) Q) .normal B E H:=
 fun _ _ hs=>⟨k,g,hs.weak hE hH⟩
theorem r0 {fn:Func} {res:Nat→ι→AV} {Ho:ι→Hp} {e:Exit} (i:ι) (hr:fn.results= #[]) (hφ:∀{w F v},(tup []).p w F v→(res B.N i).p w F v) (hH:SubH (Ho i) H) (he:e= .normal∨e= .ret):
 At (vS P fn B res Ho) e B E H:=fun a w h=>by
 obtain⟨F,Ds,hs⟩:=h.less (E':=E) (H':=Ho i) (fun _ _ _ _ h=>h) hH.less
 have:∃i F Ds E,SimF B E (Ho i) a w F Ds∧∃v,(∀w',(∀b,b∉Ds→w'.heap[b]?=w.heap[b]?)→(results fn a.tmps).run P w'= .ok v w')∧(res B.N i).p w F v:=
  ⟨i,F,Ds,E,hs,.tuple #[],fun w' _=>by simp[results,hr],hφ ⟨[],rfl,tV⟩⟩
 rcases he with rfl|rfl<;>exact this
theorem r3 {fn:Func} {t u x:Nat} {res:Nat→ι→AV} {Ho:ι→Hp} {e:Exit} (i:ι) (hr:fn.results= #[.tmp t,.tmp u,.tmp x]) (hφ:∀{w F v},(tup [lk t E,lk u E,lk x E]).p w F v→(res B.N i).p w F v) (hH:SubH (Ho i) H) (he:e= .normal∨e= .ret):
 At (vS P fn B res Ho) e B E H:=fun a w h=>by
 obtain⟨F,Ds,hs⟩:=h.less (E':=E) (H':=Ho i) (fun _ _ _ _ h=>h) hH.less
 have:∃i F Ds E,SimF B E (Ho i) a w F Ds∧∃v,(∀w',(∀b,b∉Ds→w'.heap[b]?=w.heap[b]?)→(results fn a.tmps).run P w'= .ok v w')∧(res B.N i).p w F v:=
  ⟨i,F,Ds,E,hs,.tuple #[a.tmps.getD t undef,a.tmps.getD u undef,a.tmps.getD x undef],fun w' _=>by simp[results,hr],hφ ⟨[a.tmps.getD t undef,a.tmps.getD u undef,a.tmps.getD x undef],rfl,⟨hs.env t,hs.env u,hs.env x,tV⟩⟩⟩
 rcases he with rfl|rfl<;>exact this
theorem r4 {fn:Func} {t u x y:Nat} {res:Nat→ι→AV} {Ho:ι→Hp} {e:Exit} (i:ι) (hr:fn.results= #[.tmp t,.tmp u,.tmp x,.tmp y]) (hφ:∀{w F v},(tup [lk t E,lk u E,lk x E,lk y E]).p w F v→(res B.N i).p w F v) (hH:SubH (Ho i) H) (he:e= .normal∨e= .ret):
 At (vS P fn B res Ho) e B E H:=fun a w h=>by
 obtain⟨F,Ds,hs⟩:=h.less (E':=E) (H':=Ho i) (fun _ _ _ _ h=>h) hH.less
 have:∃i F Ds E,SimF B E (Ho i) a w F Ds∧∃v,(∀w',(∀b,b∉Ds→w'.heap[b]?=w.heap[b]?)→(results fn a.tmps).run P w'= .ok v w')∧(res B.N i).p w F v:=
  ⟨i,F,Ds,E,hs,.tuple #[a.tmps.getD t undef,a.tmps.getD u undef,a.tmps.getD x undef,a.tmps.getD y undef],fun w' _=>by simp[results,hr],hφ ⟨[a.tmps.getD t undef,a.tmps.getD u undef,a.tmps.getD x undef,a.tmps.getD y undef],rfl,⟨hs.env t,hs.env u,hs.env x,hs.env y,tV⟩⟩⟩
 rcases he with rfl|rfl<;>exact this
inductive BC (P:Program) (E:Env) (H:Hp):ResultVar→AV→Prop
 |tmp {t:Nat} {ψ:AV} (h:lk t E=ψ):BC P E H (.tmp t) ψ
 |agg {t T key b n:Nat} {cs:List AV} {ψ:AV} (h:lk t E=ptr key b 0) (hk:lkH key H=cell b cs) (hT:gS P T n) (hn:Nat.ble n cs.length=true) (he:AL.agg (cs.take n)=ψ):BC P E H (.cell t T) ψ
 |one {t T key b:Nat} {cs:List AV} {φ:AV} (h:lk t E=ptr key b 0) (hk:lkH key H=cell b cs) (hT:dI P T) (hc:cs[0]?=some φ):BC P E H (.cell t T) φ
def FG (P:Program) (E:Env) (H:Hp):List ResultVar→List AV→Prop
 | [],[]=>True
 |x::xs,φ::φs=>BC P E H x φ∧FG P E H xs φs
 |_,_=>False
def Ao (tmps:Array Value) (x:ResultVar):Sem Value:=match x with
 | .tmp t=>pure (tmps.getD t undef)
 | .cell a t=>do loadVar t (←asAddr (tmps.getD a undef))
theorem LC {a:Act} {w:World} {F:Fz} {Ds:List Nat} (hs:SimF B E H a w F Ds) {x:ResultVar} {ψ:AV} (h:BC P E H x ψ):∃v,(∀w',(∀b,b∉Ds→w'.heap[b]?=w.heap[b]?)→(Ao a.tmps x).run P w'= .ok v w')∧ψ.p w F v:=by
 cases h with
 |tmp h=>exact⟨_,fun w' _=>by simp only [Ao,Sem.run_pure],h▸hs.env _⟩
 |agg h hk hT hn he=>
  rename_i t T key b n cs
  subst he
  have h1:=hs.env t
  rw[h] at h1
  have h1:a.tmps.getD t undef= .pointer (some ⟨b,0,none⟩):=h1
  have h2:=hs.hp key
  rw[hk] at h2
  obtain⟨vs,hr,ha⟩:=uN h2 0
  have hb:b∉Ds:=fun hD=>(hs.dD b hD).2.2.2 key (by rw[hk];rfl)
  have hle:n≤cs.length:=by simpa using hn
  have hlen:(vs.take n).length=n:=by
   have:=ha.length
   simp at this ⊢;omega
  refine⟨.agg (vs.take n).toArray,fun w' hw=> ?_,vs.take n,rfl,by simpa using ha.take n⟩
  simp only [Ao,h1,asAddr,Sem.run_bind,Sem.run_pure,Result.andThen_ok,kJ hT ((hr.take n).st (hw b hb)) hlen]
 |one h hk hT hc=>
  rename_i t T key b cs
  have h1:=hs.env t
  rw[h] at h1
  have h1:a.tmps.getD t undef= .pointer (some ⟨b,0,none⟩):=h1
  have h2:=hs.hp key
  rw[hk] at h2
  obtain⟨vs,hr,ha⟩:=uN h2 0
  have hb:b∉Ds:=fun hD=>(hs.dD b hD).2.2.2 key (by rw[hk];rfl)
  obtain⟨v,hv,hp⟩:=ha.get (i:=0) (by simpa using hc)
  refine⟨v,fun w' hw=> ?_,hp⟩
  simp only [Ao,h1,asAddr,Sem.run_bind,Sem.run_pure,Result.andThen_ok,kK hT ((hr.st (hw b hb)).cell hv)]
theorem BD {a:Act} {w:World} {F:Fz} {Ds:List Nat} (hs:SimF B E H a w F Ds):∀{rs:List ResultVar} {ψs:List AV},FG P E H rs ψs→∃vs:List Value,(∀w',(∀b,b∉Ds→w'.heap[b]?=w.heap[b]?)→(rs.mapM (Ao a.tmps)).run P w'= .ok vs w')∧All2 w F ψs vs
 | [],[],_=>⟨[],fun _ _=>rfl,tV⟩
 |x::xs,φ::φs,h=>by
  obtain⟨v,h1,h2⟩:=LC hs h.1
  obtain⟨vs,h3,h4⟩:=BD hs h.2
  exact⟨v::vs,fun w' hw=>by simp only [List.mapM_cons,Sem.run_bind,h1 w' hw,Result.andThen_ok,h3 w' hw,Sem.run_pure],h2,h4⟩
 | [],_::_,h=>h.elim
 |_::_,[],h=>h.elim
def rV:List AV→AV
 | [ψ]=>ψ
 |ψs=>tup ψs
theorem rE {fn:Func} {res:Nat→ι→AV} {Ho:ι→Hp} {e:Exit} (i:ι) (rs:List ResultVar) (hr:fn.results=rs.toArray) (ψs:List AV) (hx:FG P E H rs ψs) (he:rV ψs=res B.N i) (hH:SubH (Ho i) H) (hn:e= .normal∨e= .ret):
 At (vS P fn B res Ho) e B E H:=fun a w h=>by
 obtain⟨F,Ds,hs0⟩:=h
 obtain⟨vs,h1,h2⟩:=BD hs0 hx
 have hlen:=h2.length
 obtain⟨F',Ds',hs⟩:=(Sim.less (E':=E) (H':=Ho i) ⟨F,Ds,hs0⟩ (fun _ _ _ _ h=>h) hH.less:Sim B E (Ho i) a w)
 have key:∃i F Ds E,SimF B E (Ho i) a w F Ds∧∃v,(∀w',(∀b,b∉Ds→w'.heap[b]?=w.heap[b]?)→(results fn a.tmps).run P w'= .ok v w')∧(res B.N i).p w F v:=by
  have hs2:SimF B E (Ho i) a w F Ds:= { hs0 with
   hp:=fun k=>((hH.less) k).2 (hs0.hp k)
   hF:=fun k b hb=>hs0.hF k b (((hH.less) k).1 b hb)
   hd:=fun k k' b e hb hb'=>hs0.hd k k' b e (((hH.less) k).1 b hb) (((hH.less) k').1 b hb')
   hN:=fun k b hb=>hs0.hN k b (((hH.less) k).1 b hb)
   dD:=fun D hD=>by
    obtain⟨g1,g2,g3,g4⟩:=hs0.dD D hD
    exact⟨g1,g2,g3,fun k hk=>g4 k (((hH.less) k).1 D hk)⟩ }
  have hrun:∀w',(∀b,b∉Ds→w'.heap[b]?=w.heap[b]?)→(results fn a.tmps).run P w'= .ok (if h:vs.toArray.size=1 then vs.toArray[0] else .tuple vs.toArray) w':=fun w' hw=>by
   have h3:=h1 w' hw
   have:(rs.toArray.mapM (Ao a.tmps)).run P w'= .ok vs.toArray w':=by
    rw[List.mapM_toArray];simp only [Sem.run_map,h3,Result.andThen_ok]
   unfold results
   rw[hr]
   show((rs.toArray.mapM (Ao a.tmps)>>=fun vs=>pure (if h:vs.size=1 then vs[0] else .tuple vs):Sem Value)).run P w'=_
   rw[Sem.run_bind,this]
   rfl
  match vs,ψs,h2,hlen,he,hrun with
  | [],[],_,_,he,hrun=>exact⟨i,F,Ds,E,hs2,_,hrun,he▸⟨[],rfl,tV⟩⟩
  | [v],[ψ],h2,_,he,hrun=>exact⟨i,F,Ds,E,hs2,_,hrun,he▸h2.1⟩
  |v::u::vs,ψ::φ::ψs,h2,_,he,hrun=>exact⟨i,F,Ds,E,hs2,_,hrun,he▸⟨_,by simp,h2⟩⟩
 rcases hn with rfl|rfl<;>exact key
theorem fnI {f:FuncId} {fn:Func} {c:Code} {args:List AV} {Hi:Hp} {res:Nat→ι→AV} {Ho:ι→Hp} (hf:P.funcs[f]?=some fn) (hb:fn.body=some c) (hl:Nat.ble args.length fn.ntmps=true)
 (h:∀(w0:World) (F0:Fz),Ct none P (vS P fn { w0:=w0,M:=fQ Hi,F0:=F0,nt:=fn.ntmps } res Ho) { w0:=w0,M:=fQ Hi,F0:=F0,nt:=fn.ntmps } (lY 0 args) Hi c):Fn P f args Hi res Ho:=
 Xh hf hb hl (fun w0 F0 a w hs=>h w0 F0 a w hs)
theorem fc {q:Prop} (hq:∀a w,Sim B E H a w→q) (k:q→St r P ops Q B E H rest):St r P ops Q B E H rest:=fun a w hs=>k (hq a w hs) a w hs
theorem fcC {q:Prop} {c:Code} (hq:∀a w,Sim B E H a w→q) (k:q→Ct r P Q B E H c):Ct r P Q B E H c:=fun a w hs=>k (hq a w hs) a w hs
theorem XW {α:Type} (t:Nat) {n:Nat} {enc:α→List AV} {xs:List α} (hx:lk t E=sl n enc xs):∀a w,Sim B E H a w→xs.length≤aN:=fun a w ⟨F,Ds,hs⟩=>by
 have:=hs.env t
 rw[hx] at this
 obtain⟨_,_,_,_,h,_⟩:=this
 exact h
theorem bL {α:Type} (t:Nat) {n:Nat} {enc:α→List AV} {xs:List α} (hx:lk t E=sl n enc xs):∀a w,Sim B E H a w→xs.length≤140737488355328:=XW t hx
def Inh (φ:AV):Prop:=∃w F v,φ.p w F v
theorem bW (t:Nat) {φ:AV} (hx:lk t E=φ):∀a w,Sim B E H a w→Inh φ:=fun a w ⟨F,Ds,hs⟩=>⟨w,F,_,hx▸hs.env t⟩
theorem Inh.len {α:Type} {n:Nat} {enc:α→List AV} {xs:List α} (h:Inh (sl n enc xs)):xs.length≤140737488355328:=by
 obtain⟨w,F,v,_,_,_,_,h,_⟩:=h
 exact h
theorem Inh.agg {cs:List AV} (h:Inh (agg cs)) (i:Nat) {φ:AV} (hc:cs[i]?=some φ):Inh φ:=by
 obtain⟨w,F,v,vs,_,ha⟩:=h
 obtain⟨u,_,hp⟩:=ha.get hc
 exact⟨w,F,u,hp⟩
theorem Inh.el {α:Type} {n:Nat} {enc:α→List AV} {xs:List α} (h:Inh (sl n enc xs)) {i:Nat} {y:α} (hi:xs[i]?=some y) (j:Nat) {φ:AV} (hc:(enc y)[j]?=some φ):Inh φ:=by
 obtain⟨w,F,v,_,_,_,_,_,h⟩:=h
 obtain⟨b,off,vs,_,_,_,he⟩:=h (fun e=>by rw[e] at hi;simp at hi)
 obtain⟨u,_,hp⟩:=(he.el i y hi).get hc
 exact⟨w,F,u,hp⟩
theorem oan (t:Nat) {q:Prop} {φ:AV} (hx:lk t E=eG q φ) (k:q→St r P ops Q B ((t,φ)::E) H rest):St r P ops Q B E H rest:=fun a w ⟨F,Ds,hs⟩=>by
 have:=hs.env t
 rw[hx] at this
 obtain⟨hq,hp⟩:=this
 refine k hq a w ⟨F,Ds,{ hs with env:=fun s=> ?_ }⟩
 by_cases e:t=s
 ·subst e;rw[cR];exact hp
 ·rw[bU _ _ e];exact hs.env s
theorem nw {α:Type} (key e n:Nat) (enc:α→List AV) (k:St r P ops Q B E ((key,own (.slice none 0 0) e n enc [])::H) rest):St r P ops Q B E H rest:=fun a w hs=>k a w (hs.newNil key e n enc)
theorem nwC {α:Type} {c:Code} (key e n:Nat) (enc:α→List AV) (k:Ct r P Q B E ((key,own (.slice none 0 0) e n enc [])::H) c):Ct r P Q B E H c:=fun a w hs=>k a w (hs.newNil key e n enc)
theorem fz {α:Type} (key t:Nat) {v:Value} {et n:Nat} {enc:α→List AV} {xs:List α} (hk:lkH key H=own v et n enc xs) (ht:lk t E=osl key v) (k:St r P ops Q B ((t,sl n enc xs)::E) ((key,emp)::H) rest):St r P ops Q B E H rest:=
 fun a w hs=>k a w (hs.freeze key t hk ht)
theorem fzA {α:Type} {e:Exit} (key t:Nat) {v:Value} {et n:Nat} {enc:α→List AV} {xs:List α} (hk:lkH key H=own v et n enc xs) (ht:lk t E=osl key v) (k:At Q e B ((t,sl n enc xs)::E) ((key,emp)::H)):At Q e B E H:=
 fun a w hs=>k a w (hs.freeze key t hk ht)
theorem fzC {α:Type} {c:Code} (key t:Nat) {v:Value} {et n:Nat} {enc:α→List AV} {xs:List α} (hk:lkH key H=own v et n enc xs) (ht:lk t E=osl key v) (k:Ct r P Q B ((t,sl n enc xs)::E) ((key,emp)::H) c):Ct r P Q B E H c:=
 fun a w hs=>k a w (hs.freeze key t hk ht)
theorem mv' {x:Operand} {φ:AV} (hx:lkO x E=φ) (k:St r P ops Q B ((d,φ)::E) H rest) (hn:Nat.blt d B.nt=true:=by rfl):
 St r P ops Q B E H ({ dst:=some d,op:= .move x,type:=ty,pos:=pos,after:=af,guard:=none }::rest):=fun a w h=>Lt h (hx▸k) hn
theorem ag' {x:Operand} {φ:AV} (hx:lkO x E=φ) (k:St r P ops Q B ((d,φ)::E) H rest) (hn:Nat.blt d B.nt=true:=by rfl):
 St r P ops Q B E H ({ dst:=some d,op:= .assign x,type:=ty,pos:=pos,after:=af,guard:=none }::rest):=fun a w h=>Fq h (hx▸k) hn
theorem fzv {cs:List AV} {b o:Nat} (key t:Nat) (hk:lkH key H=cell b cs) (ht:lk t E=ptr key b o) (k:St r P ops Q B ((t,fp (cs.drop o))::E) ((key,emp)::H) rest):St r P ops Q B E H rest:=fun a w hs=>k a w (hs.freezeV key t hk ht)
theorem kn (t:Nat) {ψ:AV} (φ:AV) (hx:lk t E=ψ) (h:∀{w F v},ψ.p w F v→φ.p w F v) (k:St r P ops Q B ((t,φ)::E) H rest):St r P ops Q B E H rest:=fun a w ⟨F,Ds,hs⟩=>by
 refine k a w ⟨F,Ds,{ hs with env:=fun s=> ?_ }⟩
 by_cases e:t=s
 ·subst e;rw[cR];have:=hs.env t;rw[hx] at this;exact h this
 ·rw[bU _ _ e];exact hs.env s
theorem knA (t:Nat) {ψ:AV} {e:Exit} (φ:AV) (hx:lk t E=ψ) (h:∀{w F v},ψ.p w F v→φ.p w F v) (k:At Q e B ((t,φ)::E) H):At Q e B E H:=fun a w ⟨F,Ds,hs⟩=>by
 refine k a w ⟨F,Ds,{ hs with env:=fun s=> ?_ }⟩
 by_cases e:t=s
 ·subst e;rw[cR];have:=hs.env t;rw[hx] at this;exact h this
 ·rw[bU _ _ e];exact hs.env s
theorem fzc {α:Type} {v:Value} {et n b:Nat} {cs:List AV} {enc:α→List AV} {xs:List α} (kc key o:Nat) (hk:lkH key H=own v et n enc xs) (hc:lkH kc H=cell b cs) (hne:Nat.beq kc key=false)
 (ho:cs[o]?=some (osl key v)) (k:St r P ops Q B E ((kc,cell b (cs.set o (sl n enc xs)))::(key,emp)::H) rest):St r P ops Q B E H rest:=fun a w hs=>k a w (hs.freezeC key hk hc (fun e=>by subst e;simp at hne) ho)
theorem Oz {α:Type} {v:Value} {et n b:Nat} {cs:List AV} {enc:α→List AV} {xs:List α} {c:Code} (kc key o:Nat) (hk:lkH key H=own v et n enc xs) (hc:lkH kc H=cell b cs) (hne:Nat.beq kc key=false)
 (ho:cs[o]?=some (osl key v)) (k:Ct r P Q B E ((kc,cell b (cs.set o (sl n enc xs)))::(key,emp)::H) c):Ct r P Q B E H c:=fun a w hs=>k a w (hs.freezeC key hk hc (fun e=>by subst e;simp at hne) ho)
theorem OA {b:Nat} {cs:List AV} {ψ:AV} (hs:Sim B E H a w) (kc o:Nat) (φ:AV) (hc:lkH kc H=cell b cs) (ho:cs[o]?=some ψ) (h:∀{w F v},ψ.p w F v→φ.p w F v):Sim B E ((kc,cell b (cs.set o φ))::H) a w:=by
 obtain⟨F,Ds,hs⟩:=hs
 have h1:=hs.hp kc
 rw[hc] at h1
 obtain⟨vs,ty,hcell,ha⟩:=h1
 obtain⟨u,hu,hp⟩:=ha.get ho
 refine⟨F,Ds,hs.upd kc _ (Nat.le_refl _) rfl rfl rfl (fun _ _ _=>rfl) (fun x hx=>⟨.inl (by rw[hc];exact hx),(hs.hN kc x (by rw[hc];exact hx)).1⟩) ⟨vs,ty,hcell,?_⟩⟩
 have h3:=ha.set o (h hp)
 have e:vs.set o u=vs:=by
  apply List.ext_getElem?
  intro t
  by_cases ht:o=t
  ·subst ht
   rw[List.getElem?_set_self (List.getElem?_eq_some_iff.1 hu).1];exact hu.symm
  ·rw[List.getElem?_set_ne ht]
 rwa [e] at h3
theorem knc {b:Nat} {cs:List AV} {ψ:AV} (kc o:Nat) (φ:AV) (hc:lkH kc H=cell b cs) (ho:cs[o]?=some ψ) (h:∀{w F v},ψ.p w F v→φ.p w F v) (k:St r P ops Q B E ((kc,cell b (cs.set o φ))::H) rest):St r P ops Q B E H rest:=
 fun a w hs=>k a w (OA hs kc o φ hc ho h)
theorem nS {b:Nat} {cs:List AV} {ψ:AV} {c:Code} (kc o:Nat) (φ:AV) (hc:lkH kc H=cell b cs) (ho:cs[o]?=some ψ) (h:∀{w F v},ψ.p w F v→φ.p w F v) (k:Ct r P Q B E ((kc,cell b (cs.set o φ))::H) c):Ct r P Q B E H c:=
 fun a w hs=>k a w (OA hs kc o φ hc ho h)
theorem eB {b:Nat} {cs:List AV} {ψ:AV} {e:Exit} (kc o:Nat) (φ:AV) (hc:lkH kc H=cell b cs) (ho:cs[o]?=some ψ) (h:∀{w F v},ψ.p w F v→φ.p w F v) (k:At Q e B E ((kc,cell b (cs.set o φ))::H)):At Q e B E H:=
 fun a w hs=>k a w (OA hs kc o φ hc ho h)
theorem rtg {key:Nat} (t:Nat) {x:Value} (hx:lk t E=eqv x) (k:St r P ops Q B ((t,osl key x)::E) H rest):St r P ops Q B E H rest:=fun a w ⟨F,Ds,hs⟩=>by
 refine k a w ⟨F,Ds,{ hs with env:=fun s=> ?_ }⟩
 by_cases e:t=s
 ·subst e;rw[cR];have:=hs.env t;rw[hx] at this;exact this
 ·rw[bU _ _ e];exact hs.env s
theorem gy {dd:Option Tmp} {oo:Op} {i t:Nat} {b c:Bool} (hi:(ops[i]?).bind (·.dst)=some t) (hn:Nat.blt t B.nt=true) (hb:lk t E=bl c) (hc:c=b) (k:St r P ops Q B E H ({ dst:=dd,op:=oo,type:=ty,pos:=pos,after:=af,guard:=none }::rest)):
 St r P ops Q B E H ({ dst:=dd,op:=oo,type:=ty,pos:=pos,after:=af,guard:=some (i,b) }::rest):=fun a w hs=>by
 subst hc
 have h1:=k a w hs
 obtain⟨F,Ds,hs⟩:=hs
 have h2:=hs.env t
 rw[hb] at h2
 have h2:a.tmps.getD t undef= .bool c:=h2
 have hlt:t<a.tmps.size:=by rw[hs.sz];simpa using hn
 have h3:a.tmps[t]?=some (.bool c):=by simpa [hlt] using h2
 simp only [wl,wpListIn,Region.wanted,if_true] at h1 ⊢
 simp only [yielded,hi,h3,Option.bind_some,beq_self_eq_true,if_true]
 exact h1
theorem gn {dd:Option Tmp} {oo:Op} {i t:Nat} {b c:Bool} (hi:(ops[i]?).bind (·.dst)=some t) (hn:Nat.blt t B.nt=true) (hb:lk t E=bl c) (hc:c= !b) {d:Nat} (hd:dd=some d) (hdn:Nat.blt d B.nt=true)
 (k:St r P ops Q B ((d,eqv undef)::E) H rest):St r P ops Q B E H ({ dst:=dd,op:=oo,type:=ty,pos:=pos,after:=af,guard:=some (i,b) }::rest):=fun a w hs=>by
 obtain⟨F,Ds,hs⟩:=hs
 have h2:=hs.env t
 rw[hb] at h2
 have h2:a.tmps.getD t undef= .bool c:=h2
 have hlt:t<a.tmps.size:=by rw[hs.sz];simpa using hn
 have h3:a.tmps[t]?=some (.bool c):=by simpa [hlt] using h2
 subst hc
 simp only [wl,wpListIn,Region.wanted]
 simp only [yielded,hi,h3,Option.bind_some]
 have:(some (!b)==some b)=false:=by cases b<;>rfl
 simp only [this,Bool.false_eq_true,if_false]
 refine⟨fun _ _=>trivial,?_⟩
 rw[hd]
 exact k _ _ ⟨F,Ds,hs.put (φ:=eqv undef) (by simpa using hdn) rfl⟩
theorem gu {dd:Option Tmp} {oo:Op} {i t:Nat} {b:Bool} (hi:(ops[i]?).bind (·.dst)=some t) (hn:Nat.blt t B.nt=true) (hb:lk t E=eqv undef) {d:Nat} (hd:dd=some d) (hdn:Nat.blt d B.nt=true)
 (k:St r P ops Q B ((d,eqv undef)::E) H rest):St r P ops Q B E H ({ dst:=dd,op:=oo,type:=ty,pos:=pos,after:=af,guard:=some (i,b) }::rest):=fun a w hs=>by
 obtain⟨F,Ds,hs⟩:=hs
 have h2:=hs.env t
 rw[hb] at h2
 have h2:a.tmps.getD t undef=undef:=h2
 have hlt:t<a.tmps.size:=by rw[hs.sz];simpa using hn
 have h3:a.tmps[t]?=some undef:=by simpa [hlt] using h2
 simp only [wl,wpListIn,Region.wanted]
 simp only [yielded,hi,h3,Option.bind_some,undef]
 refine⟨fun _ _=>trivial,?_⟩
 rw[hd]
 exact k _ _ ⟨F,Ds,hs.put (φ:=eqv undef) (by simpa using hdn) rfl⟩
theorem pkT {c x y:Operand} {b:Bool} {φ:AV} (hc:lkO c E=bl b) (hb:b=true) (hz:lkO x E=φ) (k:St r P ops Q B ((d,φ)::E) H rest) (hn:Nat.blt d B.nt=true:=by rfl):
 St r P ops Q B E H ({ dst:=some d,op:= .pick c x y,type:=ty,pos:=pos,after:=af,guard:=none }::rest):=by
 subst hb;exact fun a w h=>Fs h hc hz k hn
theorem pkF {c x y:Operand} {b:Bool} {φ:AV} (hc:lkO c E=bl b) (hb:b=false) (hz:lkO y E=φ) (k:St r P ops Q B ((d,φ)::E) H rest) (hn:Nat.blt d B.nt=true:=by rfl):
 St r P ops Q B E H ({ dst:=some d,op:= .pick c x y,type:=ty,pos:=pos,after:=af,guard:=none }::rest):=by
 subst hb;exact fun a w h=>Fs h hc hz k hn
theorem fT {t pd:Nat} {c e:Bool} {l:List Oper} (hc:lk t E=bl c) (k:St r P ops Q B ((pd,bl (c&&e))::E) H l)
 (hy:c=true→St r P ops Q B ((pd,bl e)::E) H l→St r P ops Q B E H rest) (hn:c=false→St r P ops Q B ((pd,bl false)::E) H l→St r P ops Q B E H rest):St r P ops Q B E H rest:=by
 cases c
 ·exact hn rfl k
 ·exact hy rfl (by simpa using k)
theorem gOr {t pd:Nat} {c e:Bool} {l:List Oper} (hc:lk t E=bl c) (k:St r P ops Q B ((pd,bl (c||e))::E) H l)
 (hy:c=false→St r P ops Q B ((pd,bl e)::E) H l→St r P ops Q B E H rest) (hn:c=true→St r P ops Q B ((pd,bl true)::E) H l→St r P ops Q B E H rest):St r P ops Q B E H rest:=by
 cases c
 ·exact hy rfl (by simpa using k)
 ·exact hn rfl k
def FH (E:Env):Env→Prop
 | []=>True
 |x::r=>lk x.1 E=any∧FH E r
theorem LD {E:Env}:∀{X:Env},FH E X→∀(t:Nat) {w:World} {F:Fz} {v:Value},(lk t (X++E)).p w F v→(lk t E).p w F v
 | [],_,_,_,_,_,h=>h
 |(s,φ)::X,hX,t,w,F,v,h=>by
  by_cases e:s=t
  ·subst e;rw[hX.1];trivial
  ·rw[List.cons_append,bU _ _ e] at h
   exact LD hX.2 t h
theorem drp {pd:Nat} {φ:AV} {X:Env} {l:List Oper} (hX:FH E X) (k:St r P ops Q B ((pd,φ)::E) H l):St r P ops Q B ((pd,φ)::(X++E)) H l:=fun a w hs=>by
 refine k a w (hs.less (fun t {w F v} h=> ?_) (tC H))
 by_cases e:pd=t
 ·subst e;rw[cR] at h ⊢;exact h
 ·rw[bU _ _ e] at h ⊢;exact LD hX t h
def ix {α:Type} [Inhabited α] (xs:List α) (i:Nat):α:=xs.getD i default
theorem aG {α:Type} [Inhabited α] {xs:List α} {i:Nat} (h:i<xs.length):ix xs i=xs[i]:=by simp[ix,h]
theorem gN {α:Type} [Inhabited α] {xs:List α} {k:Nat} (h:k<xs.length):xs[((k:Int)).toNat]?=some (ix xs k):=by simp[aG h,h]
theorem gI {α:Type} [Inhabited α] {xs:List α} {m:Int} (h0:0≤m) (h:m<(xs.length:Int)):xs[m.toNat]?=some (ix xs m.toNat):=by
 have:m.toNat<xs.length:=by omega
 rw[aG this,List.getElem?_eq_getElem this]
theorem gK {α:Type} [Inhabited α] {xs:List α} {k:Nat} (h:k<xs.length):xs[k]?=some (ix xs k):=by rw[aG h,List.getElem?_eq_getElem h]
theorem XX {α:Type} {T T' e n:Nat} {enc:α→List AV} {xs:List α} {x:Operand} (hx:lkO x E=sl n enc xs) (hT:P.underlying T=some (.slice e)) (k:∀b:Bool,(b=true→xs= [])→St r P ops Q B ((d,bl b)::E) H rest) (hn:Nat.blt d B.nt=true:=by rfl):
 St r P ops Q B E H ({ dst:=some d,op:= .binOp .eql T x (.const (.slice none 0 0)) T',type:=ty,pos:=pos,after:=af,guard:=none }::rest):=fun a w hs=>Sk hs hx hT (fun b hb=>k b hb) hn
theorem tkB {α:Type} {us:List Value} {e n:Nat} {enc:α→List AV} {xss:List (List α)} {u:Value} {xs:List α} (key key' i:Nat) (hk:lkH key H=aX us e n enc xss none) (hk':lkH key' H=emp) (hne:key'≠key) (hu:us[i]?=some u) (hx:xss[i]?=some xs)
 (k:St r P ops Q B E ((key',own u e n enc xs)::(key,aX us e n enc xss (some i))::H) rest):St r P ops Q B E H rest:=fun a w hs=>k a w (hs.takeB key key' i hk hk' hne hu hx)
theorem gvB {α:Type} {us:List Value} {e n:Nat} {enc:α→List AV} {xss:List (List α)} {u:Value} {xs:List α} (key key' i:Nat) (hk:lkH key H=aX us e n enc xss (some i)) (hk':lkH key' H=own u e n enc xs) (hne:key'≠key) (hi:i<us.length)
 (k:St r P ops Q B E ((key',emp)::(key,aX (us.set i u) e n enc (xss.set i xs) none)::H) rest):St r P ops Q B E H rest:=fun a w hs=>k a w (hs.giveB key key' i hk hk' hne hi)
theorem dV {key:Nat} {x:Value}:osl key x=eqv x:=rfl
theorem OB {α:Type} {c:Code} {us:List Value} {e n:Nat} {enc:α→List AV} {xss:List (List α)} {u:Value} {xs:List α} (key key' i:Nat) (hk:lkH key H=aX us e n enc xss none) (hk':lkH key' H=emp) (hne:key'≠key) (hu:us[i]?=some u) (hx:xss[i]?=some xs)
 (k:Ct r P Q B E ((key',own u e n enc xs)::(key,aX us e n enc xss (some i))::H) c):Ct r P Q B E H c:=fun a w hs=>k a w (hs.takeB key key' i hk hk' hne hu hx)
theorem jO {α:Type} {l:List α} {i:Nat} {u:α} (h:l[i]?=some u):l.set i u=l:=by
 apply List.ext_getElem?
 intro j
 by_cases e:i=j
 ·subst e;rw[List.getElem?_set_self (List.getElem?_eq_some_iff.1 h).1,h]
 ·rw[List.getElem?_set_ne e]
theorem gvU {α:Type} {us:List Value} {e n:Nat} {enc:α→List AV} {xss:List (List α)} {u:Value} {xs:List α} (key key' i:Nat) (hk:lkH key H=aX us e n enc xss (some i)) (hk':lkH key' H=own u e n enc xs) (hne:key'≠key) (hu:us[i]?=some u)
 (k:St r P ops Q B E ((key',emp)::(key,aX us e n enc (xss.set i xs) none)::H) rest):St r P ops Q B E H rest:=fun a w hs=>k a w (by
 have:=hs.giveB key key' i hk hk' hne (List.getElem?_eq_some_iff.1 hu).1
 rw[jO hu] at this;exact this)
theorem gvR {α:Type} {us:List Value} {e n:Nat} {enc:α→List AV} {xss:List (List α)} {u:Value} {xs:List α} (key key' i:Nat) (hk:lkH key H=aX us e n enc xss none) (hk':lkH key' H=emp) (hne:key'≠key) (hu:us[i]?=some u) (hx:xss[i]?=some xs)
 (k:St r P ops Q B E H rest):St r P ops Q B E ((key',own u e n enc xs)::(key,aX us e n enc xss (some i))::H) rest:=fun a w hs=>k a w (by
 have l1:lkH key ((key',own u e n enc xs)::(key,aX us e n enc xss (some i))::H)=aX us e n enc xss (some i):=by rw[bG _ _ hne,bB]
 obtain⟨F,Ds,h⟩:=hs.giveB key key' i l1 (bB _ _ _) hne (List.getElem?_eq_some_iff.1 hu).1
 rw[jO hu,jO hx] at h
 refine Sim.less ⟨F,Ds,h⟩ (fun _ _ _ _ h=>h) (fun t=> ?_)
 by_cases e1:t=key'
 ·subst e1;rw[bB,hk'];exact⟨fun _ h=>h,fun h=>h⟩
 ·rw[bG _ _ (Ne.symm e1)]
  by_cases e2:t=key
  ·subst e2;rw[bB,hk];exact⟨fun _ h=>h,fun h=>h⟩
  ·rw[bG _ _ (Ne.symm e2),bG _ _ (Ne.symm e1),bG _ _ (Ne.symm e2)];exact⟨fun _ h=>h,fun h=>h⟩)
theorem gvS {α:Type} {us:List Value} {e n:Nat} {enc:α→List AV} {xss:List (List α)} {u:Value} {xs:List α} (key key' i:Nat) (hk:lkH key H=aX us e n enc xss (some i)) (hk':lkH key' H=own u e n enc xs) (hne:key'≠key) (hu:us[i]?=some u) (hx:xss[i]?=some xs)
 (k:St r P ops Q B E ((key',emp)::(key,aX us e n enc xss none)::H) rest):St r P ops Q B E H rest:=fun a w hs=>k a w (by
 have:=hs.giveB key key' i hk hk' hne (List.getElem?_eq_some_iff.1 hu).1
 rw[jO hu,jO hx] at this;exact this)
theorem XY {α:Type} {c:Code} {us:List Value} {e n:Nat} {enc:α→List AV} {xss:List (List α)} {u:Value} {xs:List α} (key key' i:Nat) (hk:lkH key H=aX us e n enc xss (some i)) (hk':lkH key' H=own u e n enc xs) (hne:key'≠key) (hu:us[i]?=some u) (hx:xss[i]?=some xs)
 (k:Ct r P Q B E ((key',emp)::(key,aX us e n enc xss none)::H) c):Ct r P Q B E H c:=fun a w hs=>k a w (by
 have:=hs.giveB key key' i hk hk' hne (List.getElem?_eq_some_iff.1 hu).1
 rw[jO hu,jO hx] at this;exact this)
theorem nbB {α:Type} (key m e n:Nat) (enc:α→List AV) (k:St r P ops Q B E ((key,aX (List.replicate m (.slice none 0 0)) e n enc (List.replicate m []) none)::H) rest):St r P ops Q B E H rest:=fun a w hs=>k a w (hs.nilsB key m e n enc)
theorem eZ:pP [] []:=fun _ _=>trivial
theorem eC {x:Value} {cs:List AV} {vs:List Value} (h:pP cs vs):pP (eqv x::cs) (x::vs):=fun w F=>⟨rfl,h w F⟩
theorem slnil {α:Type} {n:Nat} {enc:α→List AV} {w:World} {F:Fz} {v:Value} (h:(eqv (.slice none 0 0)).p w F v):(sl n enc []).p w F v:=by
 have h:v= .slice none 0 0:=h
 subst h
 exact⟨none,0,rfl,Nat.le_refl _,Nat.zero_le _,fun h=>absurd rfl h⟩
def EV:List AV→List AV→Prop
 | [],[]=>True
 |φ::cs,ψ::ds=>(∀{w:World} {F:Fz} {v:Value},φ.p w F v→ψ.p w F v)∧EV cs ds
 |_,_=>False
theorem CZ {w:World} {F:Fz}:∀{cs ds:List AV} {vs:List Value},EV cs ds→All2 w F cs vs→All2 w F ds vs
 | [],[],_,_,h=>h
 |φ::cs,ψ::ds,[],_,h=>h.elim
 |φ::cs,ψ::ds,v::vs,hl,h=>⟨hl.1 h.1,CZ hl.2 h.2⟩
 | [],_::_,_,hl,_=>hl.elim
 |_::_,[],_,hl,_=>hl.elim
theorem cV {cs ds:List AV} (hl:EV cs ds) {w:World} {F:Fz} {v:Value} (h:(agg cs).p w F v):(agg ds).p w F v:=by
 obtain⟨vs,hv,ha⟩:=h
 exact⟨vs,hv,CZ hl ha⟩
theorem dR {key:Nat} {x v:Value} {w:World} {F:Fz} (h:(eqv x).p w F v):(osl key x).p w F v:=h
theorem cB {key:Nat} {x v:Value} {w:World} {F:Fz} (h:(osl key x).p w F v):v=x:=h
theorem jX {x v:Value} {w:World} {F:Fz} (h:(eqv x).p w F v):v=x:=h
variable {κ ν:Type} [DecidableEq κ]
theorem mv {x:Operand} (k:St r P ops Q B ((d,lkO x E)::E) H rest) (hn:Nat.blt d B.nt=true:=by rfl):
 St r P ops Q B E H ({ dst:=some d,op:= .move x,type:=ty,pos:=pos,after:=af,guard:=none }::rest):=
 fun a w h=>Lt h (k:=k) (hn:=hn)
theorem ag {x:Operand} (k:St r P ops Q B ((d,lkO x E)::E) H rest) (hn:Nat.blt d B.nt=true:=by rfl):
 St r P ops Q B E H ({ dst:=some d,op:= .assign x,type:=ty,pos:=pos,after:=af,guard:=none }::rest):=
 fun a w h=>Fq h (k:=k) (hn:=hn)
theorem pk {c x y:Operand} {b:Bool} {φ:AV} (hc:lkO c E=bl b) (hz:lkO (if b then x else y) E=φ) (k:St r P ops Q B ((d,φ)::E) H rest) (hn:Nat.blt d B.nt=true:=by rfl):
 St r P ops Q B E H ({ dst:=some d,op:= .pick c x y,type:=ty,pos:=pos,after:=af,guard:=none }::rest):=
 fun a w h=>Fs h (hc:=hc) (hz:=hz) (k:=k) (hn:=hn)
theorem bx {t key:Nat} {x:Operand} {cs:List AV} (hx:lkO x E=agg cs)
 (k:∀b,St r P ops Q B ((d,ptr key b 0)::E) ((key,cell b cs)::H) rest) (hn:Nat.blt d B.nt=true:=by rfl):
 St r P ops Q B E H ({ dst:=some d,op:= .box t x,type:=ty,pos:=pos,after:=af,guard:=none }::rest):=fun a w h=>
 iD (E':=fun b=>(d,ptr key b 0)::E) (H':=fun b=>(key,cell b cs)::H) h rfl (fun _=>nofun) (fun F Ds hs=>by
  have h1:=hs.opd x
  rw[hx] at h1
  obtain⟨vs,hv,ha⟩:=h1
  refine⟨.pointer (some ⟨w.heap.size,0,none⟩),w.alloc (.cells vs.toArray t (0,0)),?_,w.heap.size,F,Ds,
   (hs.alloc key (cell w.heap.size cs) (.cells vs.toArray t (0,0)) (fun b hb=>hb) ⟨vs,t,jM _ _,hs.stays _ ha⟩).put (by simpa using hn) rfl⟩
  simp[execOp,Instr.box,newVar,newRow,hv,Value.cells]) (fun b=>k b)
theorem bx1 {t key:Nat} {x:Operand} {φ:AV} (hx:lkO x E=φ) [ho:One φ]
 (k:∀b,St r P ops Q B ((d,ptr key b 0)::E) ((key,cell b [φ])::H) rest) (hn:Nat.blt d B.nt=true:=by rfl):
 St r P ops Q B E H ({ dst:=some d,op:= .box t x,type:=ty,pos:=pos,after:=af,guard:=none }::rest):=fun a w h=>
 iD (E':=fun b=>(d,ptr key b 0)::E) (H':=fun b=>(key,cell b [φ])::H) h rfl (fun _=>nofun) (fun F Ds hs=>by
  have h1:=hs.opd x
  rw[hx] at h1
  have hc:(a.eval x).cells= #[a.eval x]:=by
   have:=ho.one h1
   revert this
   cases a.eval x<;>simp[Value.oneCell',Value.cells]
  refine⟨.pointer (some ⟨w.heap.size,0,none⟩),w.alloc (.cells #[a.eval x] t (0,0)),?_,w.heap.size,F,Ds,
   (hs.alloc key (cell w.heap.size [φ]) (.cells #[a.eval x] t (0,0)) (fun b hb=>hb) ⟨[a.eval x],t,jM _ _,hs.stay _ h1,tV⟩).put (by simpa using hn) rfl⟩
  simp[execOp,Instr.box,newVar,newRow,hc]) (fun b=>k b)
theorem fP {t f off key b o:Nat} {x:Operand} (hx:lkO x E=ptr key b o) (hf:cS P t f off)
 (k:St r P ops Q B ((d,ptr key b (o+off))::E) H rest) (hn:Nat.blt d B.nt=true:=by rfl):
 St r P ops Q B E H ({ dst:=some d,op:= .fieldAddr t x f,type:=ty,pos:=pos,after:=af,guard:=none }::rest):=fun a w h=>
 cF h rfl rfl hn (fun _=>nofun) (fun F Ds hs=>by
  have h1:=hs.opd x
  rw[hx] at h1
  have h1:a.eval x= .pointer (some ⟨b,o,none⟩):=h1
  exact⟨.pointer (some ⟨b,o+off,none⟩),by simp[execOp,h1,hf.run],rfl⟩) k
theorem fF {t f off:Nat} {cs:List AV} {x:Operand} (hx:lkO x E=fp cs) (hf:cS P t f off)
 (k:St r P ops Q B ((d,fp (cs.drop off))::E) H rest) (hn:Nat.blt d B.nt=true:=by rfl):
 St r P ops Q B E H ({ dst:=some d,op:= .fieldAddr t x f,type:=ty,pos:=pos,after:=af,guard:=none }::rest):=fun a w h=>
 cF h rfl rfl hn (fun _=>nofun) (fun F Ds hs=>by
  have h1:=hs.opd x
  rw[hx] at h1
  obtain⟨b,o,vs,hv,hb,hr,ha⟩:=h1
  exact⟨.pointer (some ⟨b,o+off,none⟩),by simp[execOp,hv,hf.run],b,o+off,vs.drop off,rfl,hb,hr.drop off,ha.drop off⟩) k
theorem lP {t key b o:Nat} {cs:List AV} {φ:AV} {x:Operand} (hx:lkO x E=ptr key b o) (hk:lkH key H=cell b cs) (hc:cs[o]?=some φ) (ht:dI P t)
 (k:St r P ops Q B ((d,φ)::E) H rest) (hn:Nat.blt d B.nt=true:=by rfl):
 St r P ops Q B E H ({ dst:=some d,op:= .load t x,type:=ty,pos:=pos,after:=af,guard:=none }::rest):=fun a w h=>
 cF h rfl rfl hn (fun _=>nofun) (fun F Ds hs=>by
  have h1:=hs.opd x
  rw[hx] at h1
  have h1:a.eval x= .pointer (some ⟨b,o,none⟩):=h1
  have h2:=hs.hp key
  rw[hk] at h2
  obtain⟨vs,hr,ha⟩:=uN h2 0
  obtain⟨v,hv,hp⟩:=ha.get (i:=o) (φ:=φ) (by simpa using hc)
  exact⟨v,by simp[execOp,h1,Instr.loadAt,Instr.sureAddr,kK ht (by simpa using hr.cell hv)],hp⟩) k
theorem lPA {t n key b o:Nat} {cs:List AV} {x:Operand} (hx:lkO x E=ptr key b o) (hk:lkH key H=cell b cs) (ht:gS P t n) (hl:Nat.ble (o+n) cs.length=true)
 (k:St r P ops Q B ((d,agg ((cs.drop o).take n))::E) H rest) (hn:Nat.blt d B.nt=true:=by rfl):
 St r P ops Q B E H ({ dst:=some d,op:= .load t x,type:=ty,pos:=pos,after:=af,guard:=none }::rest):=fun a w h=>
 cF h rfl rfl hn (fun _=>nofun) (fun F Ds hs=>by
  have h1:=hs.opd x
  rw[hx] at h1
  have h1:a.eval x= .pointer (some ⟨b,o,none⟩):=h1
  have h2:=hs.hp key
  rw[hk] at h2
  obtain⟨vs,hr,ha⟩:=uN h2 o
  have hle:o+n≤cs.length:=by simpa using hl
  have hlen:(vs.take n).length=n:=by
   have:=ha.length
   simp at this ⊢;omega
  exact⟨.agg (vs.take n).toArray,by simp only [execOp,h1,Instr.loadAt,Instr.sureAddr,Sem.run_bind,Sem.run_pure,Result.andThen_ok,kJ ht (hr.take n) hlen],vs.take n,rfl,ha.take n⟩) k
theorem lF {t:Nat} {cs:List AV} {φ:AV} {x:Operand} (hx:lkO x E=fp cs) (hc:cs[0]?=some φ) (ht:dI P t)
 (k:St r P ops Q B ((d,φ)::E) H rest) (hn:Nat.blt d B.nt=true:=by rfl):
 St r P ops Q B E H ({ dst:=some d,op:= .load t x,type:=ty,pos:=pos,after:=af,guard:=none }::rest):=fun a w h=>
 cF h rfl rfl hn (fun _=>nofun) (fun F Ds hs=>by
  have h1:=hs.opd x
  rw[hx] at h1
  obtain⟨b,o,vs,hv,hb,hr,ha⟩:=h1
  obtain⟨v,hv',hp⟩:=ha.get hc
  exact⟨v,by simp[execOp,hv,Instr.loadAt,Instr.sureAddr,kK ht (by simpa using hr.cell hv')],hp⟩) k
theorem lFA {t n:Nat} {cs:List AV} {x:Operand} (hx:lkO x E=fp cs) (ht:gS P t n) (hl:n≤cs.length)
 (k:St r P ops Q B ((d,agg (cs.take n))::E) H rest) (hn:Nat.blt d B.nt=true:=by rfl):
 St r P ops Q B E H ({ dst:=some d,op:= .load t x,type:=ty,pos:=pos,after:=af,guard:=none }::rest):=fun a w h=>
 cF h rfl rfl hn (fun _=>nofun) (fun F Ds hs=>by
  have h1:=hs.opd x
  rw[hx] at h1
  obtain⟨b,o,vs,hv,hb,hr,ha⟩:=h1
  have hlen:(vs.take n).length=n:=by
   have:=ha.length
   simp;omega
  exact⟨.agg (vs.take n).toArray,by simp only [execOp,hv,Instr.loadAt,Instr.sureAddr,Sem.run_bind,Sem.run_pure,Result.andThen_ok,kJ ht (hr.take n) hlen],vs.take n,rfl,ha.take n⟩) k
theorem bi {op:BinOp} {T T':TypeId} {x y:Operand} {u v z:Value} (hx:lkO x E=eqv u) (hy:lkO y E=eqv v) (hz:cP P op T x y u v z)
 (k:St r P ops Q B ((d,eqv z)::E) H rest) (hn:Nat.blt d B.nt=true:=by rfl):
 St r P ops Q B E H ({ dst:=some d,op:= .binOp op T x y T',type:=ty,pos:=pos,after:=af,guard:=none }::rest):=fun a w h=>
 cF h rfl rfl hn (fun _=>nofun) (fun F Ds hs=>by
  have h1:=hs.opd x
  have h2:=hs.opd y
  rw[hx] at h1
  rw[hy] at h2
  have h1:a.eval x=u:=h1
  have h2:a.eval y=v:=h2
  refine⟨z,?_,rfl⟩
  have:=hz w
  simp only [execOp,h1,h2,Sem.run_bind] at this ⊢
  rw[this];rfl) k
theorem no {T:TypeId} {x:Operand} {b:Bool} (hx:lkO x E=bl b)
 (k:St r P ops Q B ((d,bl (!b))::E) H rest) (hn:Nat.blt d B.nt=true:=by rfl):
 St r P ops Q B E H ({ dst:=some d,op:= .unOp .not T x,type:=ty,pos:=pos,after:=af,guard:=none }::rest):=fun a w h=>
 cF h rfl rfl hn (fun _=>nofun) (fun F Ds hs=>by
  have h1:=hs.opd x
  rw[hx] at h1
  have h1:a.eval x= .bool b:=h1
  exact⟨.bool (!b),by simp[execOp,h1,Op.unary],rfl⟩) k
theorem xt {x:Operand} {cs:List AV} {i:Nat} {φ:AV} (hx:lkO x E=tup cs) (hi:cs[i]?=some φ)
 (k:St r P ops Q B ((d,φ)::E) H rest) (hn:Nat.blt d B.nt=true:=by rfl):
 St r P ops Q B E H ({ dst:=some d,op:= .extract x i,type:=ty,pos:=pos,after:=af,guard:=none }::rest):=fun a w h=>
 cF h rfl rfl hn (fun _=>nofun) (fun F Ds hs=>by
  have h1:=hs.opd x
  rw[hx] at h1
  obtain⟨vs,hv,ha⟩:=h1
  obtain⟨v,hv',hp⟩:=ha.get hi
  exact⟨v,by simp[execOp,hv,Instr.extract,hv'],hp⟩) k
theorem lnF {α:Type} {T e n m:Nat} {enc:α→List AV} {xs:List α} {x:Operand} (hx:lkO x E=sl m enc xs) (hT:IsSlice P T e n)
 (k:St r P ops Q B ((d,int (xs.length:Int))::E) H rest) (hn:Nat.blt d B.nt=true:=by rfl):
 St r P ops Q B E H ({ dst:=some d,op:= .call { callee:= .builtin .len,args:= #[x],argTypes:= #[T] },type:=ty,pos:=pos,after:=af,guard:=none }::rest):=fun a w h=>
 cF h rfl rfl hn (fun _=>nofun) (fun F Ds hs=>by
  have h1:=hs.opd x
  rw[hx] at h1
  obtain⟨A,cap,hv,_⟩:=h1
  exact⟨.int .i64 xs.length,by simp[execOp,resolve,hv,invoke,builtin,Builtin.len_,hT.run,goInt],rfl⟩) k
theorem lnO {α:Type} {T e n m key et:Nat} {v:Value} {enc:α→List AV} {xs:List α} {x:Operand} (hx:lkO x E=osl key v) (hk:lkH key H=own v et m enc xs) (hT:IsSlice P T e n)
 (k:St r P ops Q B ((d,int (xs.length:Int))::E) H rest) (hn:Nat.blt d B.nt=true:=by rfl):
 St r P ops Q B E H ({ dst:=some d,op:= .call { callee:= .builtin .len,args:= #[x],argTypes:= #[T] },type:=ty,pos:=pos,after:=af,guard:=none }::rest):=fun a w h=>
 cF h rfl rfl hn (fun _=>nofun) (fun F Ds hs=>by
  have h1:=hs.opd x
  rw[hx] at h1
  have h1:a.eval x=v:=h1
  have h2:=hs.hp key
  rw[hk] at h2
  obtain⟨A,cap,hv⟩:=Ft h2
  exact⟨.int .i64 xs.length,by simp[execOp,resolve,h1,hv,invoke,builtin,Builtin.len_,hT.run,goInt],rfl⟩) k
theorem lnS {T:Nat} {s:ByteArray} {x:Operand} (hx:lkO x E=str s) (hT:P.underlying T=some .string)
 (k:St r P ops Q B ((d,int (s.size:Int))::E) H rest) (hn:Nat.blt d B.nt=true:=by rfl):
 St r P ops Q B E H ({ dst:=some d,op:= .call { callee:= .builtin .len,args:= #[x],argTypes:= #[T] },type:=ty,pos:=pos,after:=af,guard:=none }::rest):=fun a w h=>
 cF h rfl rfl hn (fun _=>nofun) (fun F Ds hs=>by
  have h1:=hs.opd x
  rw[hx] at h1
  have h1:a.eval x= .string s:=h1
  exact⟨.int .i64 s.size,by simp[execOp,resolve,h1,invoke,builtin,Builtin.len_,underlying,program,Sem.run,hT,goInt],rfl⟩) k
theorem iF {α:Type} {T e n:Nat} {enc:α→List AV} {xs:List α} {x i:Operand} {m:Int} {y:α} (hx:lkO x E=sl n enc xs) (hi:lkO i E=int m) (hT:IsSlice P T e n)
 (h0:0≤m) (hy:xs[m.toNat]?=some y)
 (k:St r P ops Q B ((d,fp (enc y))::E) H rest) (hn:Nat.blt d B.nt=true:=by rfl):
 St r P ops Q B E H ({ dst:=some d,op:= .indexAddr T x i,type:=ty,pos:=pos,after:=af,guard:=none }::rest):=fun a w h=>
 cF h rfl rfl hn (fun _=>nofun) (fun F Ds hs=>by
  have h1:=hs.opd x
  have h2:=hs.opd i
  rw[hx] at h1
  rw[hi] at h2
  have h2:a.eval i= .int .i64 m:=h2
  obtain⟨A,cap,hv,hc,hm,hA⟩:=h1
  have hlt:m.toNat<xs.length:=(List.getElem?_eq_some_iff.1 hy).1
  obtain⟨b,off,vs0,rfl,hb,hr0,hs'⟩:=hA (by intro e;subst e;simp at hlt)
  have hr:=(hr0.drop (m.toNat*n)).take n
  have ha:=hs'.el _ _ hy
  have hlt':m<(xs.length:Int):=by omega
  refine⟨.pointer (some ⟨b,off+m.toNat*n,none⟩),?_,b,off+m.toNat*n,_,rfl,hb,hr,ha⟩
  simp[execOp,hv,h2,Instr.indexAt,asIntOf,hT.run,h0,hlt',hT.size,iZ]) k
theorem iO {α:Type} {T e n key et:Nat} {v:Value} {enc:α→List AV} {xs:List α} {x i:Operand} {m:Int} (hx:lkO x E=osl key v) (hk:lkH key H=own v et n enc xs)
 (hi:lkO i E=int m) (hT:IsSlice P T e n) (h0:0≤m) (hy:m<(xs.length:Int))
 (k:St r P ops Q B ((d,dL key v n m.toNat 0)::E) H rest) (hn:Nat.blt d B.nt=true:=by rfl):
 St r P ops Q B E H ({ dst:=some d,op:= .indexAddr T x i,type:=ty,pos:=pos,after:=af,guard:=none }::rest):=fun a w h=>
 cF h rfl rfl hn (fun _=>nofun) (fun F Ds hs=>by
  have h1:=hs.opd x
  have h2:=hs.opd i
  rw[hx] at h1
  rw[hi] at h2
  have h1:a.eval x=v:=h1
  have h2:a.eval i= .int .i64 m:=h2
  have h3:=hs.hp key
  rw[hk] at h3
  obtain⟨_,vs,h3,_⟩:=h3
  rcases h3.2 with⟨_,hx⟩|⟨b,cap,c,hv,_⟩
  ·rw[hx] at hy;omega
  ·refine⟨.pointer (some ⟨b,m.toNat*n,none⟩),?_,b,xs.length,cap,hv,by simp⟩
   simp[execOp,h1,hv,h2,Instr.indexAt,asIntOf,hT.run,h0,hy,hT.size,iZ]) k
theorem lO {α:Type} {T n key i j et:Nat} {v:Value} {enc:α→List AV} {xs:List α} {x:Operand} {y:α} {φ:AV} (hx:lkO x E=dL key v n i j) (hk:lkH key H=own v et n enc xs)
 (hy:xs[i]?=some y) (hj:(enc y)[j]?=some φ) (ht:dI P T)
 (k:St r P ops Q B ((d,φ)::E) H rest) (hn:Nat.blt d B.nt=true:=by rfl):
 St r P ops Q B E H ({ dst:=some d,op:= .load T x,type:=ty,pos:=pos,after:=af,guard:=none }::rest):=fun a w h=>
 cF h rfl rfl hn (fun _=>nofun) (fun F Ds hs=>by
  have h1:=hs.opd x
  rw[hx] at h1
  obtain⟨b,l,c,hv,hu⟩:=h1
  have h3:=hs.hp key
  rw[hk] at h3
  obtain⟨vs,_,hr,ha⟩:=IL h3 hy hv
  obtain⟨u,hu',hp⟩:=ha.get hj
  exact⟨u,by simp[execOp,hu,Instr.loadAt,Instr.sureAddr,kK ht (hr.cell hu')],hp⟩) k
theorem lOA {α:Type} {T n m key i j et:Nat} {v:Value} {enc:α→List AV} {xs:List α} {x:Operand} {y:α} (hx:lkO x E=dL key v n i j) (hk:lkH key H=own v et n enc xs)
 (hy:xs[i]?=some y) (ht:gS P T m) (hl:j+m≤n)
 (k:St r P ops Q B ((d,agg (((enc y).drop j).take m))::E) H rest) (hn:Nat.blt d B.nt=true:=by rfl):
 St r P ops Q B E H ({ dst:=some d,op:= .load T x,type:=ty,pos:=pos,after:=af,guard:=none }::rest):=fun a w h=>
 cF h rfl rfl hn (fun _=>nofun) (fun F Ds hs=>by
  have h1:=hs.opd x
  rw[hx] at h1
  obtain⟨b,l,c,hv,hu⟩:=h1
  have h3:=hs.hp key
  rw[hk] at h3
  obtain⟨vs,hlen,hr,ha⟩:=IL h3 hy hv
  have hlen':((vs.drop j).take m).length=m:=by simp;omega
  exact⟨.agg ((vs.drop j).take m).toArray,by simp only [execOp,hu,Instr.loadAt,Instr.sureAddr,Sem.run_bind,Sem.run_pure,Result.andThen_ok,kJ ht ((hr.drop j).take m) hlen'],_,rfl,(ha.drop j).take m⟩) k
theorem fO {T f off key n i j:Nat} {v:Value} {x:Operand} (hx:lkO x E=dL key v n i j) (hf:cS P T f off)
 (k:St r P ops Q B ((d,dL key v n i (j+off))::E) H rest) (hn:Nat.blt d B.nt=true:=by rfl):
 St r P ops Q B E H ({ dst:=some d,op:= .fieldAddr T x f,type:=ty,pos:=pos,after:=af,guard:=none }::rest):=fun a w h=>
 cF h rfl rfl hn (fun _=>nofun) (fun F Ds hs=>by
  have h1:=hs.opd x
  rw[hx] at h1
  obtain⟨b,l,c,hv,hu⟩:=h1
  exact⟨.pointer (some ⟨b,i*n+j+off,none⟩),by simp[execOp,hu,hf.run],b,l,c,hv,by rw[Nat.add_assoc]⟩) k
theorem sP {T key b o:Nat} {cs:List AV} {φ:AV} {x y:Operand} (hx:lkO x E=ptr key b o) (hk:lkH key H=cell b cs) (hy:lkO y E=φ) [h1:One φ] (ht:dI P T) (ho:Nat.blt o cs.length=true)
 (k:St r P ops Q B E ((key,cell b (cs.set o φ))::H) rest):
 St r P ops Q B E H ({ dst:=none,op:= .store T x y,type:=ty,pos:=pos,after:=af,guard:=none }::rest):=
 fun a w h=>Fu h (hx:=hx) (hk:=hk) (hy:=hy) (ht:=ht) (ho:=ho) (k:=k)
theorem sPA {T n key b o:Nat} {cs cs':List AV} {x y:Operand} (hx:lkO x E=ptr key b o) (hk:lkH key H=cell b cs) (hy:lkO y E=agg cs') [h1:OneAll cs'] (ht:gS P T n) (hn:cs'.length=n) (ho:Nat.ble (o+n) cs.length=true)
 (k:St r P ops Q B E ((key,cell b (cs.take o++cs'++cs.drop (o+cs'.length)))::H) rest):
 St r P ops Q B E H ({ dst:=none,op:= .store T x y,type:=ty,pos:=pos,after:=af,guard:=none }::rest):=
 fun a w h=>Ly h (hx:=hx) (hk:=hk) (hy:=hy) (ht:=ht) (hn:=hn) (ho:=ho) (k:=k)
theorem sO {α:Type} {T n key i j et:Nat} {v:Value} {enc:α→List AV} {xs:List α} {x z:Operand} {y y':α} {φ:AV} (hx:lkO x E=dL key v n i j) (hk:lkH key H=own v et n enc xs)
 (hz:lkO z E=φ) [h1:One φ] (ht:dI P T) (hy:xs[i]?=some y) (hj:Nat.blt j n=true) (he:enc y'=(enc y).take j++ [φ]++(enc y).drop (j+1))
 (k:St r P ops Q B E ((key,own v et n enc (xs.set i y'))::H) rest):
 St r P ops Q B E H ({ dst:=none,op:= .store T x z,type:=ty,pos:=pos,after:=af,guard:=none }::rest):=
 fun a w h=>Fv h (hx:=hx) (hk:=hk) (hz:=hz) (ht:=ht) (hy:=hy) (hj:=hj) (he:=he) (k:=k)
theorem sOA {α:Type} {T m n key i j et:Nat} {v:Value} {enc:α→List AV} {xs:List α} {x z:Operand} {y y':α} {cs':List AV} (hx:lkO x E=dL key v n i j) (hk:lkH key H=own v et n enc xs)
 (hz:lkO z E=agg cs') [h1:OneAll cs'] (ht:gS P T m) (hm:cs'.length=m) (hy:xs[i]?=some y) (hj:Nat.ble (j+m) n=true) (he:enc y'=(enc y).take j++cs'++(enc y).drop (j+cs'.length))
 (k:St r P ops Q B E ((key,own v et n enc (xs.set i y'))::H) rest):
 St r P ops Q B E H ({ dst:=none,op:= .store T x z,type:=ty,pos:=pos,after:=af,guard:=none }::rest):=fun a w h=>
 uM (ι:=Unit) (E':=fun _=>E) (H':=fun _=>(key,own v et n enc (xs.set i y'))::H) h rfl (fun _=>nofun) (fun F Ds hs=>by
  have hvx:=hs.opd x
  have hvz:=hs.opd z
  rw[hx] at hvx
  rw[hz] at hvz
  obtain⟨b,l,c,hv,hu⟩:=hvx
  obtain⟨us,hus,hau⟩:=hvz
  have h3:=hs.hp key
  rw[hk] at h3
  have hfoot:(lkH key H).foot b:=by rw[hk];subst hv;rfl
  have hj':j+m≤n:=by simpa using hj
  have hlu:=hau.length
  obtain⟨cur,hc,hl,hp⟩:=Bp h3 hy hv hau O he (hs.hF key b hfoot)
  refine⟨_,?_,(),F,Ds,SimF.putNone (hs.row key _ _ hfoot (fun b' hb'=>by rw[hk];exact hb') hp)⟩
  have:=rM (P:=P) (vs:=us) ht O hc (o:=i*n+j) O (h1.all hau)
  simp only [execOp,hu,hus,Instr.storeAt,Instr.sureAddr,Sem.run_bind,Sem.run_pure,Result.andThen_ok]
  rw[this];rfl) (fun _=>k)
theorem al {t key:Nat} {zs:List Value} (hz:dM P t zs) {cs:List AV} (hc:pP cs zs)
 (k:∀b,St r P ops Q B ((d,ptr key b 0)::E) ((key,cell b cs)::H) rest) (hn:Nat.blt d B.nt=true:=by rfl):
 St r P ops Q B E H ({ dst:=some d,op:= .alloc t,type:=ty,pos:=pos,after:=af,guard:=none }::rest):=fun a w h=>
 iD (E':=fun b=>(d,ptr key b 0)::E) (H':=fun b=>(key,cell b cs)::H) h rfl (fun _=>nofun) (fun F Ds hs=>by
  obtain⟨v,hv,hcs⟩:=hz.z
  refine⟨.pointer (some ⟨w.heap.size,0,none⟩),w.alloc (.cells zs.toArray t (0,0)),?_,w.heap.size,F,Ds,
   (hs.alloc key (cell w.heap.size cs) (.cells zs.toArray t (0,0)) (fun b hb=>hb) ⟨zs,t,jM _ _,hc _ _⟩).put (by simpa using hn) rfl⟩
  simp only [execOp,Instr.alloc,Sem.run_bind,hv,Result.andThen_ok,newVar,newRow,hcs]
  simp) (fun b=>k b)
theorem mk {α:Type} {T e n by_ key m:Nat} {z:List Value} {enc:α→List AV} {y:α} {l c:Operand} (hl:lkO l E=int (m:Int)) (hc:lkO c E=int (m:Int)) (hT:dW P T e n by_ z)
 (hy:pP (enc y) z) (hb:m*by_≤aN) (hm:m≤aN)
 (k:∀v,St r P ops Q B ((d,osl key v)::E) ((key,own v e n enc (List.replicate m y))::H) rest) (hn:Nat.blt d B.nt=true:=by rfl):
 St r P ops Q B E H ({ dst:=some d,op:= .makeSlice T l c,type:=ty,pos:=pos,after:=af,guard:=none }::rest):=fun a w h=>
 iD (E':=fun v=>(d,osl key v)::E) (H':=fun v=>(key,own v e n enc (List.replicate m y))::H) h rfl (fun _=>nofun) (fun F Ds hs=>by
  have h1:=hs.opd l
  have h2:=hs.opd c
  rw[hl] at h1
  rw[hc] at h2
  have h1:a.eval l= .int .i64 m:=h1
  have h2:a.eval c= .int .i64 m:=h2
  obtain⟨i,hi,hsz,hby,v,hv,hcells,hvs⟩:=hT.info
  have hzl:z.length=n:=by rw[hcells] at hvs;simpa using hvs
  have hb':i.bytes*m≤281474976710656:=by rw[hby,Nat.mul_comm];unfold aN at hb;omega
  obtain⟨w',hrun,hown,hg⟩:=run_make_full (P:=P) w 0 T e i v n hT.und hi hv hsz .i64 .i64 m hb' (by unfold maxLen;unfold aN at hm;omega) (Nat.zero_le _)
  refine⟨_,w',by simp only [execOp,h1,h2,Sem.run_bind,hrun];rfl,.slice (some ⟨w.heap.size,0,none⟩) m m,F,Ds,(hs.grown key (own (.slice (some ⟨w.heap.size,0,none⟩) m m) e n enc (List.replicate m y)) hg (fun b hb=>by cases hb) (fun b hb=>⟨.inr ?_,nR hown hb⟩) ?_).put (by simpa using hn) rfl⟩
  ·have hb:b=w.heap.size:=hb
   omega
  ·refine⟨by simpa using hm,_,by simpa using hown,?_⟩
   rw[uP hvs hT.pos,hcells]
   simpa [hzl] using Els.replicate (w:=w') (F:=F) hy m) (fun v=>k v)
theorem ap {α β:Type} {T e n by_ key:Nat} {z:List Value} {enc:α→List AV} {enc':β→List AV} {xs zs:List α} {ys:List β} {v:Value} {s x:Operand} (hs:∀{w F u},(lkO s E).p w F u→u=v)
 (hk:lkH key H=own v e n enc xs) (hx:lkO x E=sl n enc' ys) (hz:ys.map enc'=zs.map enc) (hT:dW P T e n by_ z) [h1:∀y,OneAll (enc y)] (hm:xs.length+ys.length≤aN) (hby:(xs.length+ys.length)*by_≤aN)
 (k:∀v,St r P ops Q B ((d,osl key v)::E) ((key,own v e n enc (xs++zs))::H) rest) (hn:Nat.blt d B.nt=true:=by rfl):
 St r P ops Q B E H ({ dst:=some d,op:= .call { callee:= .builtin .append,args:= #[s,x],argTypes:= #[T,T] },type:=ty,pos:=pos,after:=af,guard:=none }::rest):=fun a w h=>
 iD (E':=fun v=>(d,osl key v)::E) (H':=fun v=>(key,own v e n enc (xs++zs))::H) h rfl (fun _=>nofun) (fun F Ds hS=>by
  have hv1:=hs (hS.opd s)
  have hv2:=hS.opd x
  rw[hx] at hv2
  have hl:ys.length=zs.length:=by simpa using congrArg List.length hz
  obtain⟨A,cap,hv2,hcap,_,hA⟩:=hv2
  have h3:=hS.hp key
  rw[hk] at h3
  obtain⟨hmx,vs,hown,hels⟩:=h3
  by_cases hy:ys= []
  ·subst hy
   have hzs:zs= []:=List.eq_nil_of_length_eq_zero (by simpa using hl.symm)
   subst hzs
   refine⟨v,w,?_,v,F,Ds,?_⟩
   ·have:=Aa (P:=P) (ty:=ty) hT hown A cap
    simp only [execOp,resolve,Sem.run_bind,Sem.run_pure,Result.andThen_ok,invoke,builtin,List.map_toArray,List.map_cons,List.map_nil,hv1,hv2,List.length_nil,this]
   ·have:=(hS.upd key (own v e n enc xs) (Nat.le_refl _) rfl rfl rfl (fun _ _ _=>rfl) (fun b hb=>⟨.inl (by rw[hk];exact hb),nR hown hb⟩) ⟨hmx,vs,hown,hels⟩).put (d:=d) (φ:=osl key v) (v:=v) (by simpa using hn) rfl
    simpa using this
  ·obtain⟨b,off,us,rfl,hb,hr,hu⟩:=hA hy
   have hels':∀{w':World},(∀b,F b→w'.heap[b]?=w.heap[b]?)→Els w' F n enc zs us:=fun {w'} hw=>by
    refine⟨by rw[hu.len,hl],fun i q hq=> ?_⟩
    have hi:i<ys.length:=by rw[hl];exact(List.getElem?_eq_some_iff.1 hq).1
    have e1:(ys.map enc')[i]?=some (enc' ys[i]):=by simp[hi]
    rw[hz] at e1
    rw[List.getElem?_map,hq] at e1
    simp at e1
    rw[e1]
    exact(hu.el i _ (by simp[hi])).st (fun _ h=>h) hw
   have hone:∀u∈us,u.oneCell'=true:=fun u hu'=>by
    obtain⟨t,ht⟩:=List.getElem?_of_mem hu'
    have hlu:=hu.len
    have htl:t<us.length:=(List.getElem?_eq_some_iff.1 ht).1
    have hn0:=hT.pos
    have hq:t/n<zs.length:=by rw[Nat.div_lt_iff_lt_mul hn0,←hl,←hlu];exact htl
    have he:=(hels' (fun _ _=>rfl)).el (t/n) zs[t/n] (by simp[hq])
    refine(h1 _).all he u ?_
    refine List.mem_of_getElem? (i:=t % n) ?_
    rw[List.getElem?_take,if_pos (Nat.mod_lt _ hn0),List.getElem?_drop,Nat.mul_comm,Nat.div_add_mod]
    exact ht
   obtain⟨v',w',hrun,hown',hg,hfr⟩:=Bq (P:=P) (ty:=ty) (c:=cap) hT hown (ad:=⟨b,off,none⟩) (m:=ys.length) hu.len (fun j u hj=>by rw[iZ];exact hr.cell hj) hone hm hby
   have hrow:∀b,v.ownBlock=some b→(lkH key H).foot b:=fun b hb=>by
    rw[hk]
    show ownB v b
    revert hb
    cases v<;>simp[Value.ownBlock]
    rename_i A' _ _
    cases A'<;>simp
    rintro rfl;rfl
   refine⟨v',w',?_,v',F,Ds,(hS.grown key (own v' e n enc (xs++zs)) hg hrow (fun b hb=>⟨?_,nR hown' hb⟩) ⟨by simp;omega,_,by simpa [hl] using hown',?_⟩).put (by simpa using hn) rfl⟩
   ·simp only [execOp,resolve,Sem.run_bind,Sem.run_pure,Result.andThen_ok,invoke,builtin,List.map_toArray,List.map_cons,List.map_nil,hv1,hv2,hrun]
   ·rw[hk];exact hfr b hb
   ·exact(hels.st (fun _ h=>h) (hS.grownStay hg hrow)).append (hels' (hS.grownStay hg hrow))) (fun v=>k v)
theorem cl {f:FuncId} {xs:List Operand} {Hi:Hp} {res:Nat→ι→AV} {Ho:ι→Hp} {ts:Array TypeId} (hf:Fn P f (opds xs E) Hi res Ho) (he:Ent P f) (hHi:SubH Hi H)
 (k:∀N i,St r P ops Q B ((d,res N i)::E) (mQ (Ho i) Hi H) rest) (hn:Nat.blt d B.nt=true:=by rfl):
 St r P ops Q B E H ({ dst:=some d,op:= .call { callee:= .value (.func f),args:=xs.toArray,argTypes:=ts },type:=ty,pos:=pos,after:=af,guard:=none }::rest):=
 fun a w h=>FA h (hf:=hf) (he:=he) (hHi:=hHi) (k:=k) (hn:=hn)
theorem bs {T e n by_ len:Nat} {z:List Value} {ps:List (Nat × Operand)} {css:List (List AV)} (hT:dW P T e n by_ z) (hp:yX E n 0 ps css) (hl:Nat.beq css.length len=true) (h0:Nat.blt 0 len=true) (hm:Nat.ble (len*n) 1000=true)
 (k:St r P ops Q B ((d,sl n id css)::E) H rest) (hn:Nat.blt d B.nt=true:=by rfl):
 St r P ops Q B E H ({ dst:=some d,op:= .buildSlice T len ps.toArray,type:=ty,pos:=pos,after:=af,guard:=none }::rest):=
 fun a w h=>UT h (hT:=hT) (hp:=hp) (hl:=hl) (h0:=h0) (hm:=hm) (k:=k) (hn:=hn)
theorem bd {T:Nat} {pl:List (Nat × Nat)} {z:List Value} {zs:List AV} {ps:List (Nat × Operand)} {css:List (Nat × List AV)} (hT:fY P T pl z) (hz:pP zs z) (hp:FC E pl z.length ps css)
 (k:St r P ops Q B ((d,agg (JW zs css))::E) H rest) (hn:Nat.blt d B.nt=true:=by rfl):
 St r P ops Q B E H ({ dst:=some d,op:= .build T ps.toArray,type:=ty,pos:=pos,after:=af,guard:=none }::rest):=fun a w h=>
 cF h rfl rfl hn (fun _=>nofun) (fun F Ds hs=>by
  obtain⟨us,hf,ha⟩:=Bz hs hp (hz w F) rfl
  refine⟨.agg us.toArray,?_,us,rfl,ha⟩
  have:=hT.run w (ps.toArray.map fun(i,x)=>(i,a.eval x)) us.toArray (by simpa using hf)
  simp only [execOp,Sem.run_bind,this];rfl) k
theorem UW {T:Nat} {x i:Operand} {s:ByteArray} {m:Int} (hx:lkO x E=str s) (hi:lkO i E=int m) (hT:P.underlying T=some .string) (h0:0≤m) (h1:m<(s.size:Int))
 (k:St r P ops Q B ((d,u8 (iE s m.toNat))::E) H rest) (hn:Nat.blt d B.nt=true:=by rfl):
 St r P ops Q B E H ({ dst:=some d,op:= .index T x i,type:=ty,pos:=pos,after:=af,guard:=none }::rest):=fun a w h=>
 cF h rfl rfl hn (fun _=>nofun) (fun F Ds hs=>by
  have h2:=hs.opd x
  have h3:=hs.opd i
  rw[hx] at h2
  rw[hi] at h3
  have h2:a.eval x= .string s:=h2
  have h3:a.eval i= .int .i64 m:=h3
  have hlt:m.toNat<s.size:=by omega
  refine⟨.int .u8 (iE s m.toNat),?_,rfl⟩
  have e:s[m.toNat]?=some s[m.toNat]:=by simp[hlt]
  have e2:iE s m.toNat=(s[m.toNat].toNat:Int):=by
   unfold iE
   simp[Array.getD,hlt]
   rfl
  simp only [execOp,h2,h3,Sem.run_bind,Instr.index,asIntOf,Sem.run_pure,Result.andThen_ok,run_underlying hT]
  rw[if_pos h0,e,e2]
  rfl) k
theorem mkf {f:FuncId} {xs:List Operand}
 (k:St r P ops Q B ((d,clo f (opds xs E))::E) H rest) (hn:Nat.blt d B.nt=true:=by rfl):
 St r P ops Q B E H ({ dst:=some d,op:= .makeFunc (.func f) #[] xs.toArray,type:=ty,pos:=pos,after:=af,guard:=none }::rest):=fun a w h=>
 cF (φ:=clo f (opds xs E)) h rfl rfl hn (fun _=>nofun) (fun F Ds hs=>⟨.func (.func f) #[] (xs.map a.eval).toArray,by simp[execOp,Instr.makeFunc],_,rfl,hs.opds xs⟩) k
theorem Rp {x:Operand} {v:Value} {xs:List Operand} {Hi:Hp} {res:Nat→ι→AV} {Ho:ι→Hp} {ts:Array TypeId} (hx:lkO x E=eqv v) (hf:FnV P v (opds xs E) Hi res Ho) (hHi:SubH Hi H)
 (k:∀N i,St r P ops Q B ((d,res N i)::E) (mQ (Ho i) Hi H) rest) (hn:Nat.blt d B.nt=true:=by rfl):
 St r P ops Q B E H ({ dst:=some d,op:= .call { callee:= .value x,args:=xs.toArray,argTypes:=ts },type:=ty,pos:=pos,after:=af,guard:=none }::rest):=fun a w h=>by
 obtain⟨F,Ds,hs⟩:=h
 have hv:=hs.opd x
 rw[hx] at hv
 have hH:HpOk Hi w F:=⟨fun k=>(hHi.lk k).2 (hs.hp k),fun k b hb=>hs.hF k b ((hHi.lk k).1 b hb),fun k k' b e hb hb'=>hs.hd k k' b e ((hHi.lk k).1 b hb) ((hHi.lk k').1 b hb'),fun k b hb=>(hs.hN k b ((hHi.lk k).1 b hb)).1⟩
 refine Ak (v:=v) hv (hf w F _ (hs.opds xs) (fun b hb=>(hs.Fb b hb).1) hH) (fun e w' hR=> ?_)
 obtain⟨i,u,F',rfl,hl⟩:=hR
 exact⟨u,rfl,k w.heap.size i _ _ ⟨F',Ds,(hs.called hHi hl).put (by simpa using hn) hl.res⟩⟩
theorem Rq {α:Type} {x:Operand} {dom:α→Prop} {D:α→List AV} {p:α→AV} {xs:List Operand} {ts:Array TypeId} (hx:lkO x E=pf P dom D p) (y:α) (hy:dom y) (hD:opds xs E=D y)
 (k:St r P ops Q B ((d,p y)::E) H rest) (hn:Nat.blt d B.nt=true:=by rfl):
 St r P ops Q B E H ({ dst:=some d,op:= .call { callee:= .value x,args:=xs.toArray,argTypes:=ts },type:=ty,pos:=pos,after:=af,guard:=none }::rest):=fun a w h=>by
 obtain⟨F,Ds,hs⟩:=h
 have hv:=hs.opd x
 rw[hx] at hv
 have hb:∀b,F b→b<w.heap.size:=fun b hb=>(hs.Fb b hb).1
 refine Ak (v:=a.eval x) rfl (hv w F (fun _ h=>h) (fun _ _=>rfl) y hy _ (by have:=hs.opds xs;rw[hD] at this;exact this) hb) (fun e w' hR=> ?_)
 obtain⟨i,u,F',rfl,hl⟩:=hR
 exact⟨u,rfl,k _ _ ⟨F',Ds,(hs.called (Hi:= []) (Ho:=fun _=> []) trivial hl).put (by simpa using hn) hl.res⟩⟩
theorem Rs {f:FuncId} {cs:List AV} {x:Operand} {xs:List Operand} {Hi:Hp} {res:Nat→ι→AV} {Ho:ι→Hp} {ts:Array TypeId} (hx:lkO x E=clo f cs) (hf:Fn P f (opds xs E++cs) Hi res Ho) (he:Ent P f) (hHi:SubH Hi H)
 (k:∀N i,St r P ops Q B ((d,res N i)::E) (mQ (Ho i) Hi H) rest) (hn:Nat.blt d B.nt=true:=by rfl):
 St r P ops Q B E H ({ dst:=some d,op:= .call { callee:= .value x,args:=xs.toArray,argTypes:=ts },type:=ty,pos:=pos,after:=af,guard:=none }::rest):=fun a w h=>by
 obtain⟨F,Ds,hs⟩:=h
 have hv:=hs.opd x
 rw[hx] at hv
 obtain⟨us,hv,ha⟩:=hv
 have hH:HpOk Hi w F:=⟨fun k=>(hHi.lk k).2 (hs.hp k),fun k b hb=>hs.hF k b ((hHi.lk k).1 b hb),fun k k' b e hb hb'=>hs.hd k k' b e ((hHi.lk k).1 b hb) ((hHi.lk k').1 b hb'),fun k b hb=>(hs.hN k b ((hHi.lk k).1 b hb)).1⟩
 refine Ak (v:=a.eval x) rfl (.inl ⟨f,(xs.map a.eval++us).toArray,?_,hf w F _ ((hs.opds xs).append ha) (fun b hb=>(hs.Fb b hb).1) hH⟩) (fun e w' hR=> ?_)
 ·rw[hv];simp[Deferred.ofValue,invoke,he.run]
 ·obtain⟨i,u,F',rfl,hl⟩:=hR
  exact⟨u,rfl,k w.heap.size i _ _ ⟨F',Ds,(hs.called hHi hl).put (by simpa using hn) hl.res⟩⟩
theorem mkm {T key:Nat} {dom:κ→Prop} {kE:κ→Value} {vE:ν→AV}
 (k:∀b,St r P ops Q B ((d,mpv key b)::E) ((key,mp b kE dom vE [])::H) rest) (hn:Nat.blt d B.nt=true:=by rfl):
 St r P ops Q B E H ({ dst:=some d,op:= .makeMap T none,type:=ty,pos:=pos,after:=af,guard:=none }::rest):=fun a w h=>
 iD (E':=fun b=>(d,mpv key b)::E) (H':=fun b=>(key,mp b kE dom vE [])::H) h rfl (fun _=>nofun) (fun F Ds hs=>by
  refine⟨.map (some w.heap.size),w.alloc (.map #[] 0),?_,w.heap.size,F,Ds,
   (hs.alloc key (mp w.heap.size kE dom vE []) (.map #[] 0) (fun b hb=>hb) ⟨#[],0,jM _ _,rfl,trivial,by simp,by simp⟩).put (by simpa using hn) rfl⟩
  simp[execOp,Instr.makeMap]) (fun b=>k b)
theorem lookup {T K V b key:Nat} {kE:κ→Value} {dom:κ→Prop} {vE:ν→AV} {l:List (κ × ν)} {x y:Operand} {z:ν} {q:κ} (hx:lkO x E=mpv key b) (hk:lkH key H=mp b kE dom vE l) (hy:∀{w F v},(lkO y E).p w F v→v=kE q) (hT:jN P T K V kE dom)
 (hq:dom q) (hz:∀w F,∃v,(zeroValue V).run P w= .ok v w∧(vE z).p w F v)
 (k:St r P ops Q B ((d,vE ((bJ l q).getD z))::E) H rest) (hn:Nat.blt d B.nt=true:=by rfl):
 St r P ops Q B E H ({ dst:=some d,op:= .lookup T x y false,type:=ty,pos:=pos,after:=af,guard:=none }::rest):=fun a w h=>
 cF h rfl rfl hn (fun _=>nofun) (fun F Ds hs=>by
  have h1:=hs.opd x
  rw[hx] at h1
  have h1:a.eval x= .map (some b):=h1
  have h2:=hy (hs.opd y)
  have h3:=hs.hp key
  rw[hk] at h3
  obtain⟨es,c,hc,hkeys,hvals,hnd,hd⟩:=h3
  obtain⟨lq,hlq⟩:=hT.dk q hq
  have hgo:(getObj b).run P w= .ok (.map es c) w:=by simp[getObj,Sem.run,hc]
  rcases uA hT hkeys hnd hd q hq w with⟨g1,g2⟩|⟨i,u,e,g1,g2,g3,g4⟩
  ·obtain⟨zv,hz1,hz2⟩:=hz w F
   have hm:bJ l q=none:=by simp[bJ,g1]
   refine⟨zv,?_,by rw[hm];exact hz2⟩
   simp only [execOp,h1,h2,Instr.lookup,Sem.run_bind,run_underlying hT.und,Result.andThen_ok,hgo,Sem.run_pure,hT.kd.check w _ hlq,g2,hz1]
   try simp[hz1]
  ·have hm:bJ l q=some u:=by simp[bJ,g1]
   obtain⟨_,hl,_⟩:=nC g1 u
   obtain⟨v,hv,hp⟩:=hvals.get (i:=i) (φ:=vE u) (by simp[hl])
   have:v=e.val:=by rw[List.getElem?_map,g2] at hv;simpa using hv.symm
   subst this
   refine⟨e.val,?_,by rw[hm];exact hp⟩
   simp only [execOp,h1,h2,Instr.lookup,Sem.run_bind,run_underlying hT.und,Result.andThen_ok,hgo,Sem.run_pure,hT.kd.check w _ hlq,g4]
   simp) k
theorem uQ {T K V b key:Nat} {kE:κ→Value} {dom:κ→Prop} {vE:ν→AV} {l:List (κ × ν)} {x y:Operand} {z:ν} {q:κ} (hx:lkO x E=mpv key b) (hk:lkH key H=mp b kE dom vE l) (hy:∀{w F v},(lkO y E).p w F v→v=kE q) (hT:jN P T K V kE dom)
 (hq:dom q) (hz:∀w F,∃v,(zeroValue V).run P w= .ok v w∧(vE z).p w F v)
 (k:St r P ops Q B ((d,tup [vE ((bJ l q).getD z),bl (bJ l q).isSome])::E) H rest) (hn:Nat.blt d B.nt=true:=by rfl):
 St r P ops Q B E H ({ dst:=some d,op:= .lookup T x y true,type:=ty,pos:=pos,after:=af,guard:=none }::rest):=fun a w h=>
 cF h rfl rfl hn (fun _=>nofun) (fun F Ds hs=>by
  have h1:=hs.opd x
  rw[hx] at h1
  have h1:a.eval x= .map (some b):=h1
  have h2:=hy (hs.opd y)
  have h3:=hs.hp key
  rw[hk] at h3
  obtain⟨es,c,hc,hkeys,hvals,hnd,hd⟩:=h3
  obtain⟨lq,hlq⟩:=hT.dk q hq
  have hgo:(getObj b).run P w= .ok (.map es c) w:=by simp[getObj,Sem.run,hc]
  rcases uA hT hkeys hnd hd q hq w with⟨g1,g2⟩|⟨i,u,e,g1,g2,g3,g4⟩
  ·obtain⟨zv,hz1,hz2⟩:=hz w F
   have hm:bJ l q=none:=by simp[bJ,g1]
   refine⟨.tuple #[zv,.bool false],?_,[zv,.bool false],rfl,by rw[hm];exact⟨hz2,rfl,tV⟩⟩
   simp only [execOp,h1,h2,Instr.lookup,Sem.run_bind,run_underlying hT.und,Result.andThen_ok,hgo,Sem.run_pure,hT.kd.check w _ hlq,g2]
   simp[hz1]
  ·have hm:bJ l q=some u:=by simp[bJ,g1]
   obtain⟨_,hl,_⟩:=nC g1 u
   obtain⟨v,hv,hp⟩:=hvals.get (i:=i) (φ:=vE u) (by simp[hl])
   have:v=e.val:=by rw[List.getElem?_map,g2] at hv;simpa using hv.symm
   subst this
   refine⟨.tuple #[e.val,.bool true],?_,[e.val,.bool true],rfl,by rw[hm];exact⟨hp,rfl,tV⟩⟩
   simp only [execOp,h1,h2,Instr.lookup,Sem.run_bind,run_underlying hT.und,Result.andThen_ok,hgo,Sem.run_pure,hT.kd.check w _ hlq,g4]
   simp) k
theorem mapUpdate {T K V b key:Nat} {kE:κ→Value} {dom:κ→Prop} {vE:ν→AV} {l:List (κ × ν)} {x y z:Operand} {q:κ} {u:ν} (hx:lkO x E=mpv key b) (hk:lkH key H=mp b kE dom vE l) (hy:∀{w F v},(lkO y E).p w F v→v=kE q) (hz:lkO z E=vE u) (hT:jN P T K V kE dom)
 (hq:dom q) (k:St r P ops Q B E ((key,mp b kE dom vE (bQ l q u))::H) rest):
 St r P ops Q B E H ({ dst:=none,op:= .mapUpdate T x y z,type:=ty,pos:=pos,after:=af,guard:=none }::rest):=fun a w h=>
 uM (ι:=Unit) (E':=fun _=>E) (H':=fun _=>(key,mp b kE dom vE (bQ l q u))::H) h rfl (fun _=>nofun) (fun F Ds hs=>by
  have h1:=hs.opd x
  rw[hx] at h1
  have h1:a.eval x= .map (some b):=h1
  have h2:=hy (hs.opd y)
  have hv:=hs.opd z
  rw[hz] at hv
  have h3:=hs.hp key
  rw[hk] at h3
  obtain⟨es,c,hc,hkeys,hvals,hnd,hd⟩:=h3
  obtain⟨es',c',hrun,hp⟩:=xE hT hc hkeys hvals hnd hd hq hv (hs.hF key b (by rw[hk];rfl))
  exact⟨_,by simp only [execOp,h1,h2,Sem.run_bind,hrun];rfl,(),F,Ds,hs.mapped hk hp⟩) (fun _=>k)
theorem insert {T K V b key:Nat} {kE:κ→Value} {dom:κ→Prop} {vE:ν→AV} {l:List (κ × ν)} {x y z:Operand} {q:κ} {u:ν} (hx:lkO x E=mpv key b) (hk:lkH key H=mp b kE dom vE l) (hy:∀{w F v},(lkO y E).p w F v→v=kE q) (hz:lkO z E=vE u) (hT:jN P T K V kE dom)
 (hq:dom q) (k:St r P ops Q B E ((key,mp b kE dom vE (bQ l q u))::H) rest):
 St r P ops Q B E H ({ dst:=none,op:= .insert T x y z,type:=ty,pos:=pos,after:=af,guard:=none }::rest):=fun a w h=>
 uM (ι:=Unit) (E':=fun _=>E) (H':=fun _=>(key,mp b kE dom vE (bQ l q u))::H) h rfl (fun _=>nofun) (fun F Ds hs=>by
  have h1:=hs.opd x
  rw[hx] at h1
  have h1:a.eval x= .map (some b):=h1
  have h2:=hy (hs.opd y)
  have hv:=hs.opd z
  rw[hz] at hv
  have h3:=hs.hp key
  rw[hk] at h3
  obtain⟨es,c,hc,hkeys,hvals,hnd,hd⟩:=h3
  obtain⟨es',c',hrun,hp⟩:=xE hT hc hkeys hvals hnd hd hq hv (hs.hF key b (by rw[hk];rfl))
  exact⟨_,by simp only [execOp,h1,h2,Sem.run_bind,hrun];rfl,(),F,Ds,hs.mapped hk hp⟩) (fun _=>k)
theorem FI {T K V b key:Nat} {kE:κ→Value} {dom:κ→Prop} {vE:ν→AV} {l:List (κ × ν)} {x:Operand} (hx:lkO x E=mpv key b) (hk:lkH key H=mp b kE dom vE l) (hT:jN P T K V kE dom)
 (k:St r P ops Q B ((d,int (l.length:Int))::E) H rest) (hn:Nat.blt d B.nt=true:=by rfl):
 St r P ops Q B E H ({ dst:=some d,op:= .call { callee:= .builtin .len,args:= #[x],argTypes:= #[T] },type:=ty,pos:=pos,after:=af,guard:=none }::rest):=fun a w h=>
 cF h rfl rfl hn (fun _=>nofun) (fun F Ds hs=>by
  have h1:=hs.opd x
  rw[hx] at h1
  have h1:a.eval x= .map (some b):=h1
  have h3:=hs.hp key
  rw[hk] at h3
  obtain⟨es,c,hc,hkeys,_⟩:=h3
  have hl:es.size=l.length:=by simpa using congrArg List.length hkeys
  have hgo:(getObj b).run P w= .ok (.map es c) w:=by simp[getObj,Sem.run,hc]
  exact⟨.int .i64 l.length,by simp[execOp,resolve,h1,invoke,builtin,Builtin.len_,run_underlying hT.und,goInt,hgo,hl],rfl⟩) k
theorem bI {f:FuncId} {xs:List Operand} {φs:List AV} {φ:AV} {ts:Array TypeId} (hx:OpdsIs E xs φs) (hf:Fn0 P f φs φ) (he:Ent P f)
 (k:St r P ops Q B ((d,φ)::E) H rest) (hn:Nat.blt d B.nt=true:=by rfl):
 St r P ops Q B E H ({ dst:=some d,op:= .call { callee:= .value (.func f),args:=xs.toArray,argTypes:=ts },type:=ty,pos:=pos,after:=af,guard:=none }::rest):=fun a w h=>
 Sj h (by rw[hx.eq];exact hf) he k hn
theorem cal {ι:Type} {f:FuncId} {xs:List Operand} {φs:List AV} {Hi:Hp} {res:Nat→ι→AV} {Ho:ι→Hp} {ts:Array TypeId} (hx:OpdsIs E xs φs) (hf:Fn P f φs Hi res Ho) (he:Ent P f) (hHi:SubH Hi H)
 (k:∀N i,St r P ops Q B ((d,res N i)::E) (mQ (Ho i) Hi H) rest) (hn:Nat.blt d B.nt=true:=by rfl):
 St r P ops Q B E H ({ dst:=some d,op:= .call { callee:= .value (.func f),args:=xs.toArray,argTypes:=ts },type:=ty,pos:=pos,after:=af,guard:=none }::rest):=fun a w h=>
 FA h (by rw[hx.eq];exact hf) he hHi k hn
theorem XZ {f:FuncId} {xs:List Operand} {φs:List AV} {y:Value} {ts:Array TypeId} (hx:BorIs E H xs φs) (hf:Fn0 P f φs (eqv y)) (he:Ent P f)
 (k:St r P ops Q B ((d,eqv y)::E) H rest) (hn:Nat.blt d B.nt=true:=by rfl):
 St r P ops Q B E H ({ dst:=some d,op:= .call { callee:= .value (.func f),args:=xs.toArray,argTypes:=ts },type:=ty,pos:=pos,after:=af,guard:=none }::rest):=fun a w h=>by
 obtain⟨F,Ds,hs⟩:=h
 refine Aj (f:=f) (args:=(xs.map a.eval).toArray) rfl (fun _=>nofun) ?_ (hf w _ _ (hx.all hs) (fun b hb=>hb.elim (fun h=>(hs.Fb b h).1) (fun⟨k,h⟩=>(hs.hN k b h).1)) ⟨fun _=>trivial,fun _ _ h=>h.elim,fun _ _ _ _ h=>h.elim,fun _ _ h=>h.elim⟩) (fun e w' hR=> ?_)
 ·simp[execOp,resolve,Act.eval,Deferred.ofValue,invoke,he.run]
 ·obtain⟨i,v,F',rfl,hl⟩:=hR
  have hv:v=y:=hl.res
  subst hv
  have hnf:∀b,¬fQ [] b:=fun b ⟨k,h⟩=>h
  exact⟨v,rfl,k _ _ ⟨F,Ds,(hs.grow (w':=w') hl.size hl.os hl.tape hl.out (fun b hb=>hl.old b hb (hnf b)) (fun _ h=>h) (fun _ h=> .inl h)).put (by simpa using hn) rfl⟩⟩
theorem cK {α:Type} {T key b o k2 e n:Nat} {cs:List AV} {v:Value} {enc:α→List AV} {xs:List α} {x y:Operand} (hx:lkO x E=ptr key b o) (hk:lkH key H=cell b cs) (hy:lkO y E=osl k2 v) (hk2:lkH k2 H=own v e n enc xs) (ht:dI P T) (ho:Nat.blt o cs.length=true)
 (k:St r P ops Q B E ((key,cell b (cs.set o (osl k2 v)))::H) rest):
 St r P ops Q B E H ({ dst:=none,op:= .store T x y,type:=ty,pos:=pos,after:=af,guard:=none }::rest):=fun a w h=>by
 obtain⟨F,Ds,hs⟩:=h
 have h1:v.oneCell'=true:=by
  have h:=hs.hp k2
  rw[hk2] at h
  exact IK h
 exact Fu (h1:=⟨fun {w F u} hu=>by have hu:u=v:=hu;subst hu;exact h1⟩) ⟨F,Ds,hs⟩ hx hk hy ht ho k
theorem bsE {α:Type} {T e n by_ len:Nat} {z:List Value} {ps:List (Nat × Operand)} {css:List (List AV)} {enc:α→List AV} {xs:List α} (hT:dW P T e n by_ z) (hp:yX E n 0 ps css) (hl:Nat.beq css.length len=true) (h0:Nat.blt 0 len=true) (hm:Nat.ble (len*n) 1000=true) (he:xs.map enc=css)
 (k:St r P ops Q B ((d,sl n enc xs)::E) H rest) (hn:Nat.blt d B.nt=true:=by rfl):
 St r P ops Q B E H ({ dst:=some d,op:= .buildSlice T len ps.toArray,type:=ty,pos:=pos,after:=af,guard:=none }::rest):=fun a w h=>
 UT h hT hp hl h0 hm (fun a w ⟨F,Ds,hs⟩=>by
  refine k a w ⟨F,Ds,{ hs with env:=fun s=> ?_ }⟩
  by_cases e:d=s
  ·subst e;rw[cR];have:=hs.env d;rw[cR] at this;exact Xi he this
  ·rw[bU _ _ e];have:=hs.env s;rw[bU _ _ e] at this;exact this) hn
theorem bsO {α:Type} {T e n by_ len:Nat} {z:List Value} {ps:List (Nat × Operand)} {css:List (List AV)} {enc:α→List AV} {xs:List α} (key:Nat) (hT:dW P T e n by_ z) (hp:yX E n 0 ps css) (hl:Nat.beq css.length len=true) (h0:Nat.blt 0 len=true) (hm:Nat.ble (len*n) 1000=true) (he:xs.map enc=css)
 (k:∀v,St r P ops Q B ((d,osl key v)::E) ((key,own v e n enc xs)::H) rest) (hn:Nat.blt d B.nt=true:=by rfl):
 St r P ops Q B E H ({ dst:=some d,op:= .buildSlice T len ps.toArray,type:=ty,pos:=pos,after:=af,guard:=none }::rest):=fun a w h=>
 iD (E':=fun v=>(d,osl key v)::E) (H':=fun v=>(key,own v e n enc xs)::H) h rfl (fun _=>nofun) (fun F Ds hs=>by
  obtain⟨i,hi,hsz,hb,zv,hz,hcells,hzs⟩:=hT.info
  obtain⟨vs,h1,h2,h3,h4,h5⟩:=vT hs hp
  have hl:css.length=len:=by simpa using hl
  have h0:0<len:=by simpa using h0
  have hm:len*n≤1000:=by simpa using hm
  have hpos:=hT.pos
  have hfill:=Great.fill_whole hpos vs ((Array.range (len*i.size)).map (zv.cells[· % zv.cells.size]!)) h3 (by simp[h2,hl,hsz])
  have hne:¬len*i.size=0:=by rw[hsz];exact Nat.ne_of_gt (Nat.mul_pos h0 hpos)
  have hrun:=run_buildSlice (P:=P) w T e len (ps.toArray.map fun(i,x)=>(i,a.eval x)) (vs.flatMap fun v=>v.cells.toList).toArray i zv hT.und hi hz (by rw[hsz];omega) hne (by
   have:(ps.toArray.map fun(i,x)=>(i,a.eval x)).toList=((vs.zipIdx 0).map fun x=>(x.2,x.1)):=by simpa using h1
   rw[this,hsz];rw[hsz] at hfill;exact hfill)
  have hlen:len≤1000:=by have:len*1≤len*n:=Nat.mul_le_mul_left _ hpos;omega
  have hxl:xs.length=len:=by rw[←hl,←he,List.length_map]
  refine⟨_,_,by simp only [execOp,Sem.run_bind,hrun];rfl,.slice (some ⟨w.heap.size,0,none⟩) len len,F,Ds,
   (hs.alloc key (own (.slice (some ⟨w.heap.size,0,none⟩) len len) e n enc xs) (.cells (vs.flatMap fun v=>v.cells.toList).toArray e (0,0)) (fun b hb=>hb) ?_).put (by simpa using hn) rfl⟩
  refine⟨by unfold aN;omega,vs.flatMap fun v=>v.cells.toList,?_,?_⟩
  ·have hfl:=h5.len
   refine⟨by rw[hfl,hl,hxl],.inr ⟨w.heap.size,len,_,by rw[hxl],Nat.zero_le _,jM _ _,O,by unfold maxLen;omega,by simp[hfl,hl],List.take_of_length_le (by rw[hfl,hl,hxl];exact Nat.le_refl _)⟩⟩
  ·have h6:=h5.st (w':=w.alloc (.cells (vs.flatMap fun v=>v.cells.toList).toArray e (0,0))) (F':=F) (fun _ h=>h) (fun b hb=>heap_alloc w _ (hs.Fb b hb).1)
   exact⟨by rw[h6.len,hl,hxl],fun i x hi=>h6.el i (enc x) (by rw[←he];simp[hi])⟩) (fun v=>k v)
theorem UX {α:Type} {T e n l m:Nat} {enc:α→List AV} {xs:List α} {x:Operand} {lo hi:Option Operand} (hx:lkO x E=sl n enc xs) (hT:IsSlice P T e n) (hlo:CY E lo 0 l) (hhi:CY E hi xs.length m) (h1:l≤m) (h2:m≤xs.length)
 (k:St r P ops Q B ((d,sl n enc ((xs.take m).drop l))::E) H rest) (hn:Nat.blt d B.nt=true:=by rfl):
 St r P ops Q B E H ({ dst:=some d,op:= .slice T x lo hi none,type:=ty,pos:=pos,after:=af,guard:=none }::rest):=fun a w h=>
 cF h rfl rfl hn (fun _=>nofun) (fun F Ds hs=>by
  have hv:=hs.opd x
  rw[hx] at hv
  have hv0:=hv
  obtain⟨A,cap,hv1,hc,hm,_⟩:=hv
  rw[hv1] at hv0
  refine⟨_,?_,UU hv0 h1 h2⟩
  have hb:(Instr.sliceBounds true xs.length cap (lo.map a.eval) (hi.map a.eval) none).run P w= .ok (l,m,cap) w:=by
   have e1:∀(y:Operand) (j top:Nat) (c:BoundsCode),lkO y E=int (j:Int)→j≤top→(Instr.sliceBound (a.eval y) top c).run P w= .ok j w:=fun y j top c hy hj=>by
    have:=hs.opd y
    rw[hy] at this
    have this:a.eval y= .int .i64 (j:Int):=this
    have hcond:(0:Int)≤(j:Int)∧(j:Int)≤(top:Int):=by omega
    simp only [this,Instr.sliceBound,asIntOf,Sem.run_bind,Sem.run_pure,Result.andThen_ok]
    rw[if_pos hcond]
    simp
   cases lo with
   |none=>
    have hlo:l=0:=hlo
    subst hlo
    cases hi with
    |none=>
     have hhi:m=xs.length:=hhi
     subst hhi
     simp[Instr.sliceBounds]
    |some y=>simp[Instr.sliceBounds,e1 y m cap _ hhi O]
   |some z=>
    cases hi with
    |none=>
     have hhi:m=xs.length:=hhi
     subst hhi
     simp[Instr.sliceBounds,e1 z l xs.length _ hlo h1]
    |some y=>simp[Instr.sliceBounds,e1 y m cap _ hhi O,e1 z l m _ hlo h1]
  simp only [execOp,hv1,Instr.sliceAt,Instr.slice,Sem.run_bind,run_underlying hT.und,Result.andThen_ok,Option.map_none,hb,hT.size,Sem.run_pure]) k
theorem bs0 {α:Type} {T e n by_:Nat} {z:List Value} (key:Nat) (enc:α→List AV) (hT:dW P T e n by_ z)
 (k:∀v,St r P ops Q B ((d,osl key v)::E) ((key,own v e n enc [])::H) rest) (hn:Nat.blt d B.nt=true:=by rfl):
 St r P ops Q B E H ({ dst:=some d,op:= .buildSlice T 0 #[],type:=ty,pos:=pos,after:=af,guard:=none }::rest):=fun a w h=>
 iD (E':=fun v=>(d,osl key v)::E) (H':=fun v=>(key,own v e n enc [])::H) h rfl (fun _=>nofun) (fun F Ds hs=>by
  obtain⟨i,hi,hsz,hb,zv,hz,hcells,hzs⟩:=hT.info
  have hsize:(Go.sizeOf e).run P w= .ok n w:=by simp[Go.sizeOf,typeInfo,program,hi,Sem.run,hsz]
  refine⟨.slice (some ⟨w.heap.size,0,none⟩) 0 0,w.alloc (.cells #[] e (0,0)),?_,.slice (some ⟨w.heap.size,0,none⟩) 0 0,F,Ds,
   (hs.alloc key (own (.slice (some ⟨w.heap.size,0,none⟩) 0 0) e n enc []) (.cells #[] e (0,0)) (fun b hb=>hb) ⟨by simp[aN],[],⟨by simp,.inr ⟨w.heap.size,0,#[],rfl,Nat.zero_le _,jM _ _,by simp,by simp[maxLen],by simp,by simp⟩⟩,Els.nil _ _ _ _⟩).put (by simpa using hn) rfl⟩
  simp[execOp,Instr.buildSlice,run_underlying hT.und,hsize,Instr.fill,newRow]
  rw[show Array.range 0= #[] from by apply Array.ext<;>simp,Array.map_empty]) (fun v=>k v)
theorem mkB {α:Type} {T e n by_ key m:Nat} {z:List Value} {enc:α→List AV} {y:α} {l c:Operand} (hl:lkO l E=int (m:Int)) (hc:lkO c E=int (m:Int)) (hT:dW P T e n by_ z)
 (hy:pP (enc y) z) (hb:m*by_≤aN) (hm:m≤aN)
 (k:∀b,St r P ops Q B ((d,osl key (.slice (some ⟨b,0,none⟩) m m))::E) ((key,own (.slice (some ⟨b,0,none⟩) m m) e n enc (List.replicate m y))::H) rest) (hn:Nat.blt d B.nt=true:=by rfl):
 St r P ops Q B E H ({ dst:=some d,op:= .makeSlice T l c,type:=ty,pos:=pos,after:=af,guard:=none }::rest):=fun a w h=>
 iD (E':=fun b=>(d,osl key (.slice (some ⟨b,0,none⟩) m m))::E) (H':=fun b=>(key,own (.slice (some ⟨b,0,none⟩) m m) e n enc (List.replicate m y))::H) h rfl (fun _=>nofun) (fun F Ds hs=>by
  have h1:=hs.opd l
  have h2:=hs.opd c
  rw[hl] at h1
  rw[hc] at h2
  have h1:a.eval l= .int .i64 m:=h1
  have h2:a.eval c= .int .i64 m:=h2
  obtain⟨i,hi,hsz,hby,v,hv,hcells,hvs⟩:=hT.info
  have hzl:z.length=n:=by rw[hcells] at hvs;simpa using hvs
  have hb':i.bytes*m≤281474976710656:=by rw[hby,Nat.mul_comm];unfold aN at hb;omega
  obtain⟨w',hrun,hown,hg⟩:=run_make_full (P:=P) w 0 T e i v n hT.und hi hv hsz .i64 .i64 m hb' (by unfold maxLen;unfold aN at hm;omega) (Nat.zero_le _)
  refine⟨_,w',by simp only [execOp,h1,h2,Sem.run_bind,hrun];rfl,w.heap.size,F,Ds,(hs.grown key (own (.slice (some ⟨w.heap.size,0,none⟩) m m) e n enc (List.replicate m y)) hg (fun b hb=>by cases hb) (fun b hb=>⟨.inr ?_,nR hown hb⟩) ?_).put (by simpa using hn) rfl⟩
  ·have hb:b=w.heap.size:=hb
   omega
  ·refine⟨by simpa using hm,_,by simpa using hown,?_⟩
   rw[uP hvs hT.pos,hcells]
   simpa [hzl] using Els.replicate (w:=w') (F:=F) hy m) (fun b=>k b)
theorem iPA {T m e key b o j:Nat} {x i:Operand} (hx:lkO x E=ptr key b o) (hi:lkO i E=int (j:Int)) (hT:P.underlying T=some (.array m e)) (he:dI P e) (hj:Nat.blt j m=true)
 (k:St r P ops Q B ((d,ptr key b (o+j))::E) H rest) (hn:Nat.blt d B.nt=true:=by rfl):
 St r P ops Q B E H ({ dst:=some d,op:= .indexAddr T x i,type:=ty,pos:=pos,after:=af,guard:=none }::rest):=fun a w h=>
 cF h rfl rfl hn (fun _=>nofun) (fun F Ds hs=>by
  have h1:=hs.opd x
  have h2:=hs.opd i
  rw[hx] at h1
  rw[hi] at h2
  have h1:a.eval x= .pointer (some ⟨b,o,none⟩):=h1
  have h2:a.eval i= .int .i64 (j:Int):=h2
  have hlt:(j:Int)<(m:Int):=by
   have:j<m:=by simpa using hj
   omega
  refine⟨.pointer (some ⟨b,o+j,none⟩),?_,rfl⟩
  have hsz:=he.size w
  have hjm:j<m:=by omega
  by_cases ht:m≤1<;>simp[execOp,h1,h2,Instr.indexAt,asIntOf,run_underlying hT,hjm,Instr.sureAddr,iZ,hsz,ht]) k
theorem sOO {α β:Type} {T n key i j et k2 e2 n2:Nat} {v u:Value} {enc:α→List AV} {xs:List α} {enc2:β→List AV} {xs2:List β} {x z:Operand} {y y':α} (hx:lkO x E=dL key v n i j) (hk:lkH key H=own v et n enc xs)
 (hz:lkO z E=eqv u) (hk2:lkH k2 H=own u e2 n2 enc2 xs2) (ht:dI P T) (hy:xs[i]?=some y) (hj:Nat.blt j n=true) (he:enc y'=(enc y).take j++ [eqv u]++(enc y).drop (j+1))
 (k:St r P ops Q B E ((key,own v et n enc (xs.set i y'))::H) rest):
 St r P ops Q B E H ({ dst:=none,op:= .store T x z,type:=ty,pos:=pos,after:=af,guard:=none }::rest):=fun a w h=>by
 obtain⟨F,Ds,hs⟩:=h
 have h1:u.oneCell'=true:=by
  have h:=hs.hp k2
  rw[hk2] at h
  exact IK h
 exact Fv (h1:=⟨fun {w F u'} hu=>by have hu:u'=u:=hu;subst hu;exact h1⟩) ⟨F,Ds,hs⟩ hx hk hz ht hy hj he k
theorem cv {T T':Nat} {x:Operand} {k1 k2:IntKind} {m:Int} (hx:lkO x E=eqv (.int k1 m)) (hT:P.underlying T=some (.int k1)) (hT':P.underlying T'=some (.int k2)) (hw:k2.wrap m=m)
 (k:St r P ops Q B ((d,eqv (.int k2 m))::E) H rest) (hn:Nat.blt d B.nt=true:=by rfl):
 St r P ops Q B E H ({ dst:=some d,op:= .convert T T' x,type:=ty,pos:=pos,after:=af,guard:=none }::rest):=fun a w h=>
 cF h rfl rfl hn (fun _=>nofun) (fun F Ds hs=>by
  have h1:=hs.opd x
  rw[hx] at h1
  have h1:a.eval x= .int k1 m:=h1
  refine⟨.int k2 m,?_,rfl⟩
  simp[execOp,h1,convert,run_underlying hT,run_underlying hT',Conv.intToInt,hw]) k
theorem LF {T e n l m cap key b:Nat} {x:Operand} {lo hi:Option Operand} (hx:lkO x E=osl key (.slice (some ⟨b,0,none⟩) n cap)) (hT:IsSlice P T e 1) (hlo:CY E lo 0 l) (hhi:CY E hi n m) (h1:l≤m) (h2:m≤n) (h3:n≤cap) (h4:l<cap∨l=0)
 (k:St r P ops Q B ((d,eqv (.slice (some ⟨b,l,none⟩) (m- l) (cap- l)))::E) H rest) (hn:Nat.blt d B.nt=true:=by rfl):
 St r P ops Q B E H ({ dst:=some d,op:= .slice T x lo hi none,type:=ty,pos:=pos,after:=af,guard:=none }::rest):=fun a w h=>
 cF h rfl rfl hn (fun _=>nofun) (fun F Ds hs=>by
  have hv:=hs.opd x
  rw[hx] at hv
  have hv:a.eval x= .slice (some ⟨b,0,none⟩) n cap:=hv
  refine⟨_,?_,rfl⟩
  have hb:(Instr.sliceBounds true n cap (lo.map a.eval) (hi.map a.eval) none).run P w= .ok (l,m,cap) w:=by
   have e1:∀(y:Operand) (j top:Nat) (c:BoundsCode),lkO y E=int (j:Int)→j≤top→(Instr.sliceBound (a.eval y) top c).run P w= .ok j w:=fun y j top c hy hj=>by
    have:=hs.opd y
    rw[hy] at this
    have this:a.eval y= .int .i64 (j:Int):=this
    have hcond:(0:Int)≤(j:Int)∧(j:Int)≤(top:Int):=by omega
    simp only [this,Instr.sliceBound,asIntOf,Sem.run_bind,Sem.run_pure,Result.andThen_ok]
    rw[if_pos hcond]
    simp
   cases lo with
   |none=>
    have hlo:l=0:=hlo
    subst hlo
    cases hi with
    |none=>
     have hhi:m=n:=hhi
     subst hhi
     simp[Instr.sliceBounds]
    |some y=>simp[Instr.sliceBounds,e1 y m cap _ hhi O]
   |some z=>
    cases hi with
    |none=>
     have hhi:m=n:=hhi
     subst hhi
     simp[Instr.sliceBounds,e1 z l m _ hlo h1]
    |some y=>simp[Instr.sliceBounds,e1 y m cap _ hhi O,e1 z l m _ hlo h1]
  simp only [execOp,hv,Instr.sliceAt,run_underlying hT.und,Instr.slice,Sem.run_bind,Result.andThen_ok,Option.map_none,hb,hT.size,Sem.run_pure]
  have:(if cap=l then(some ⟨b,0,none⟩:Option Addr) else(some ⟨b,0,none⟩:Option Addr).map (·.add (l*1)))=some ⟨b,l,none⟩:=by
   split
   ·next e=>rcases h4 with h4|h4
            ·omega
            ·subst h4;rfl
   ·simp[iZ]
  rw[this]) k
theorem cpF {α:Type} {T T' e by_ m cap l c et b i key n:Nat} {z:List Value} {enc:α→List AV} {xs ys:List α} {x y:Operand} (hx:lkO x E=eqv (.slice (some ⟨b,i,none⟩) l c)) (hk:lkH key H=own (.slice (some ⟨b,0,none⟩) m cap) et 1 enc xs)
 (hy:lkO y E=sl 1 enc ys) (hT:dW P T e 1 by_ z) (hone:∀y:α,OneAll (enc y)) (hn:n=min ys.length l) (hfit:i+n≤xs.length)
 (k:St r P ops Q B ((d,int (n:Int))::E) ((key,own (.slice (some ⟨b,0,none⟩) m cap) et 1 enc (xs.take i++ys.take n++xs.drop (i+n)))::H) rest) (hd:Nat.blt d B.nt=true:=by rfl):
 St r P ops Q B E H ({ dst:=some d,op:= .call { callee:= .builtin .copy,args:= #[x,y],argTypes:= #[T,T'] },type:=ty,pos:=pos,after:=af,guard:=none }::rest):=fun a w h=>
 iD (ι:=Unit) (E':=fun _=>(d,int (n:Int))::E) (H':=fun _=>(key,own (.slice (some ⟨b,0,none⟩) m cap) et 1 enc (xs.take i++ys.take n++xs.drop (i+n)))::H) h rfl (fun _=>nofun) (fun F Ds hs=>by
  have h1:=hs.opd x
  have h2:=hs.opd y
  rw[hx] at h1
  rw[hy] at h2
  have h1:a.eval x= .slice (some ⟨b,i,none⟩) l c:=h1
  obtain⟨A,c2,hv,hc2,hmx,hA⟩:=h2
  have hlt:(ys.take n).length=n:=by simp;omega
  by_cases h0:ys= []
  ·subst h0
   have hn0:n=0:=by simpa using hn
   subst hn0
   obtain⟨w',hr,hs'⟩:=xJ (P:=P) (ty:=ty) (T':=T') (l:=l) (c:=c) (l2:=0) (c2:=c2) (A:=A) (i:=i) (ys:=([]:List α)) (cs:= []) hs hk hT (Els.nil _ _ _ _) (by simp) (by simpa using hfit) (fun h=>absurd h (by simp)) (by simp)
   refine⟨_,w',?_,(),F,Ds,hs'.put (by simpa using hd) rfl⟩
   simp only [List.length_nil] at hv
   simp only [execOp,resolve,Sem.run_bind,Sem.run_pure,Result.andThen_ok,invoke,builtin,List.map_toArray,List.map_cons,List.map_nil,h1,hv,hr]
   rfl
  ·obtain⟨b2,off,vs,rfl,hb2,hrd,hels⟩:=hA h0
   have hvl:=hels.len
   have hE:Els w F 1 enc (ys.take n) (vs.take n):=⟨by simp at hvl ⊢;omega,fun j x hj=>by
    have hj':j<n:=by
         have:=(List.getElem?_eq_some_iff.1 hj).1
         omega
    have h5:=hels.el j x (by rw[List.getElem?_take,if_pos hj'] at hj;exact hj)
    have e:((vs.take n).drop (j*1)).take 1=(vs.drop (j*1)).take 1:=by
         rw[List.drop_take,List.take_take]
         congr 1;omega
    rw[e];exact h5⟩
   have hones:∀v∈vs.take n,v.oneCell'=true:=fun v hv=>by
    obtain⟨j,hj,rfl⟩:=List.mem_iff_getElem.1 hv
    have hjn:j<n:=by simp at hj;omega
    have hjy:j<ys.length:=by omega
    have h5:=hels.el j ys[j] (List.getElem?_eq_getElem hjy)
    refine(hone ys[j]).all h5 _ ?_
    have:j<vs.length:=by simp at hj;omega
    rw[Nat.mul_one,List.drop_eq_getElem_cons this,List.take_succ_cons,List.getElem_take]
    exact List.mem_cons_self
   obtain⟨w',hr,hs'⟩:=xJ (P:=P) (ty:=ty) (T':=T') (l:=l) (c:=c) (l2:=ys.length) (c2:=c2) (A:=some ⟨b2,off,none⟩) (i:=i) hs hk hT hE (by rw[hlt];exact hn) (by rw[hlt];exact hfit) (fun _=>⟨_,rfl,fun j v hj=>by
    rw[iZ];exact(hrd.take n).cell hj⟩) hones
   rw[hlt] at hr hs'
   refine⟨_,w',?_,(),F,Ds,hs'.put (by simpa using hd) rfl⟩
   simp only [execOp,resolve,Sem.run_bind,Sem.run_pure,Result.andThen_ok,invoke,builtin,List.map_toArray,List.map_cons,List.map_nil,h1,hv,hr]) (fun _=>k)
theorem cpO {α:Type} {T T' e by_ m cap l c l2 c2 et b i key n:Nat} {z:List Value} {enc:α→List AV} {xs:List α} {x y:Operand} (hx:lkO x E=eqv (.slice (some ⟨b,i,none⟩) l c)) (hk:lkH key H=own (.slice (some ⟨b,0,none⟩) m cap) et 1 enc xs)
 (hy:lkO y E=eqv (.slice (some ⟨b,0,none⟩) l2 c2)) (hT:dW P T e 1 by_ z) (hone:∀y:α,OneAll (enc y)) (hn:n=min l2 l) (hl2:l2≤xs.length) (hfit:i+n≤xs.length)
 (k:St r P ops Q B ((d,int (n:Int))::E) ((key,own (.slice (some ⟨b,0,none⟩) m cap) et 1 enc (xs.take i++xs.take n++xs.drop (i+n)))::H) rest) (hd:Nat.blt d B.nt=true:=by rfl):
 St r P ops Q B E H ({ dst:=some d,op:= .call { callee:= .builtin .copy,args:= #[x,y],argTypes:= #[T,T'] },type:=ty,pos:=pos,after:=af,guard:=none }::rest):=fun a w h=>
 iD (ι:=Unit) (E':=fun _=>(d,int (n:Int))::E) (H':=fun _=>(key,own (.slice (some ⟨b,0,none⟩) m cap) et 1 enc (xs.take i++xs.take n++xs.drop (i+n)))::H) h rfl (fun _=>nofun) (fun F Ds hs=>by
  have h1:=hs.opd x
  have hv:=hs.opd y
  rw[hx] at h1
  rw[hy] at hv
  have h1:a.eval x= .slice (some ⟨b,i,none⟩) l c:=h1
  have hv:a.eval y= .slice (some ⟨b,0,none⟩) l2 c2:=hv
  have h3:=hs.hp key
  rw[hk] at h3
  obtain⟨hm,vs,ho,hels⟩:=h3
  have hvl:=hels.len
  rw[Nat.mul_one] at hvl
  have hlt:(xs.take n).length=n:=by simp;omega
  have hE:Els w F 1 enc (xs.take n) (vs.take n):=⟨by simp;omega,fun j x hj=>by
   have hj':j<n:=by
    have:=(List.getElem?_eq_some_iff.1 hj).1
    omega
   have h5:=hels.el j x (by rw[List.getElem?_take,if_pos hj'] at hj;exact hj)
   have e:((vs.take n).drop (j*1)).take 1=(vs.drop (j*1)).take 1:=by
    rw[List.drop_take,List.take_take]
    congr 1;omega
   rw[e];exact h5⟩
  have hones:∀v∈vs.take n,v.oneCell'=true:=fun v hv=>by
   obtain⟨j,hj,rfl⟩:=List.mem_iff_getElem.1 hv
   have hjn:j<n:=by simp at hj;omega
   have hjy:j<xs.length:=by omega
   have h5:=hels.el j xs[j] (List.getElem?_eq_getElem hjy)
   refine(hone xs[j]).all h5 _ ?_
   have:j<vs.length:=by simp at hj;omega
   rw[Nat.mul_one,List.drop_eq_getElem_cons this,List.take_succ_cons,List.getElem_take]
   exact List.mem_cons_self
  obtain⟨w',hr,hs'⟩:=xJ (P:=P) (ty:=ty) (T':=T') (l:=l) (c:=c) (l2:=l2) (c2:=c2) (A:=some ⟨b,0,none⟩) (i:=i) hs hk hT hE (by rw[hlt];exact hn) (by rw[hlt];exact hfit) (fun _=>⟨_,rfl,fun j v hj=>by
   rcases ho.2 with⟨hv',_⟩|⟨b',cap',cur,hv',_,hcc,_,_,_,htake⟩
   ·cases hv'
   ·simp only [Value.slice.injEq,Option.some.injEq,Addr.mk.injEq,and_true] at hv'
    obtain⟨rfl,_,_⟩:=hv'
    rw[Nat.mul_one] at htake
    have hcur:cur[j]?=some v:=by
         rw[←htake,List.getElem?_take] at hj
         split at hj
         ·rw[List.getElem?_take] at hj
          split at hj
          ·simpa using hj
          ·cases hj
         ·cases hj
    have:rdAt w b 0 [v]∨True:= .inr trivial
    have hrd:rdAt w b j [v]:=⟨cur,et,(0,0),hcc,fun t u ht=>by
         cases t with
         |zero=>simp at ht;subst ht;exact hcur
         |succ t=>simp at ht⟩
    have:=hrd.cell (j:=0) rfl
    rw[iZ]
    simpa using this⟩) hones
  rw[hlt] at hr hs'
  refine⟨_,w',?_,(),F,Ds,hs'.put (by simpa using hd) rfl⟩
  simp only [execOp,resolve,Sem.run_bind,Sem.run_pure,Result.andThen_ok,invoke,builtin,List.map_toArray,List.map_cons,List.map_nil,h1,hv,hr]) (fun _=>k)
end
end AL
set_option linter.unusedVariables false
namespace AL
open Go
def wf (ops:Array Oper) (i j:Nat):Bool:=
 match ops[i]? with
 |some o=>o.after.any fun e=>Region.binds .any e&&Nat.beq e.on j
 |none=>false
theorem rH {ops:Array Oper} {i j:Nat} {o:Oper} (ho:ops[i]?=some o) (h:wf ops i j=true):∃e∈o.after,Region.binds .any e=true∧e.on=j:=by
 unfold wf at h
 rw[ho] at h
 obtain⟨e,he,hb⟩:=Array.any_eq_true'.1 h
 simp only [Bool.and_eq_true] at hb
 exact⟨e,he,hb.1,by simpa using hb.2⟩
inductive nT (ops:Array Oper):Nat→Nat→Prop
 |one {i j:Nat} (h:wf ops i j=true):nT ops i j
 |more {i m j:Nat} (h:wf ops i m=true) (k:nT ops m j):nT ops i j
def BF (ms:List Nat) (o:Oper):Nat:=o.after.toList.foldl (fun m e=>bif Region.binds .any e then Nat.lor (Nat.lor m (Nat.shiftLeft 1 e.on)) (ms.getD e.on 0) else m) 0
def nD (ops:Array Oper) (ms:List Nat):Bool:=(List.range ops.size).all fun i=>match ops[i]? with
 |none=>true
 |some o=>Nat.beq (Nat.lor (ms.getD i 0) (BF ms o)) (BF ms o)
theorem BG {ms:List Nat} {j:Nat}:∀(l:List Edge) (m0:Nat),Nat.testBit (l.foldl (fun m e=>bif Region.binds .any e then Nat.lor (Nat.lor m (Nat.shiftLeft 1 e.on)) (ms.getD e.on 0) else m) m0) j=true→
 Nat.testBit m0 j=true∨∃e∈l,Region.binds .any e=true∧(e.on=j∨Nat.testBit (ms.getD e.on 0) j=true)
 | [],m0,h=> .inl h
 |e::l,m0,h=>by
  rcases BG l _ h with h1|⟨e',he,h1,h2⟩
  ·dsimp only at h1
   cases hb:Region.binds .any e with
   |false=>rw[hb] at h1;exact .inl h1
   |true=>
    rw[hb] at h1
    have h1:Nat.testBit (m0|||(1<<<e.on)|||ms.getD e.on 0) j=true:=h1
    rw[Nat.testBit_or,Nat.testBit_or] at h1
    simp only [Bool.or_eq_true] at h1
    rcases h1 with(h2|h2)|h2
    ·exact .inl h2
    ·refine .inr ⟨e,by simp,hb,.inl ?_⟩
     rw[Nat.one_shiftLeft,Nat.testBit_two_pow] at h2
     simpa using h2
    ·exact .inr ⟨e,by simp,hb,.inr h2⟩
  ·exact .inr ⟨e',List.mem_cons_of_mem _ he,h1,h2⟩
theorem nU {ops:Array Oper} {ms:List Nat} (hm:nD ops ms=true) (hback:∀(i:Nat) (o:Oper),ops[i]?=some o→∀e∈o.after,Region.binds .any e=true→e.on<i):∀(i:Nat),i<ops.size→∀j,Nat.testBit (ms.getD i 0) j=true→nT ops i j:=by
 intro i
 induction i using Nat.strongRecOn with
 |_ i ih=>
  intro hi j hj
  have ho:ops[i]?=some ops[i]:=by simp[hi]
  have h1:=(List.all_eq_true.1 hm) i (List.mem_range.2 hi)
  rw[ho] at h1
  have h1:(ms.getD i 0)|||(BF ms ops[i])=BF ms ops[i]:=by simpa using h1
  have h2:Nat.testBit (BF ms ops[i]) j=true:=by rw[←h1,Nat.testBit_or,hj];rfl
  rcases BG _ _ h2 with h3|⟨e,he,hb,h3⟩
  ·simp at h3
  ·have he':e∈ops[i].after:=by simpa using he
   have hw:wf ops i e.on=true:=by
    unfold wf
    rw[ho]
    exact Array.any_eq_true'.2 ⟨e,he',by simp[hb]⟩
   have hlt:=hback i _ ho e he' hb
   rcases h3 with rfl|h3
   ·exact .one hw
   ·exact .more hw (ih e.on hlt O j h3)
def yY (ops:Array Oper) (nh:Nat) (ms:List Nat):Bool:=
 nD ops ms&&Nat.ble nh ops.size&&
 (List.range ops.size).all fun i=>match ops[i]? with
   |none=>true
   |some oi=>
    (oi.after.all fun e=> !Region.binds .any e||Nat.blt e.on i)&&
    (Nat.blt i nh||(List.range i).all fun j=>Nat.testBit (ms.getD i 0) j)&&
    (!Nat.blt i nh||(List.range ops.size).all fun j=>match ops[j]? with
      |none=>true
      |some oj=>match oj.dst with
       |none=>true
       |some d=>(!(oi.looksAt ops).contains d||(Nat.blt j i&&wf ops i j)||(Nat.blt i j&&wf ops j i))&&(Nat.beq i j|| !Nat.blt j nh||oi.dst !=some d))
structure xK (ops:Array Oper) (nh:Nat):Prop where
 le:nh≤ops.size
 back:∀(i:Nat) (o:Oper),ops[i]?=some o→∀e∈o.after,Region.binds .any e=true→e.on<i
 tail:∀(i:Nat) (o:Oper),ops[i]?=some o→nh≤i→∀j,j<i→nT ops i j
 dep:∀(i j:Nat) (oi oj:Oper) (d:Nat),ops[i]?=some oi→ops[j]?=some oj→i<nh→oj.dst=some d→d∈oi.looksAt ops→(j<i∧wf ops i j=true)∨(i<j∧wf ops j i=true)
 dst:∀(i j:Nat) (oi oj:Oper) (d:Nat),ops[i]?=some oi→ops[j]?=some oj→i<nh→j<nh→i≠j→oj.dst=some d→oi.dst≠some d
theorem Eb {ops:Array Oper} {nh:Nat} {ms:List Nat} (h:yY ops nh ms=true):xK ops nh:=by
 unfold yY at h
 simp only [Bool.and_eq_true] at h
 obtain⟨⟨h0,h1⟩,h2⟩:=h
 rw[List.all_eq_true] at h2
 have key:∀(i:Nat) (o:Oper),ops[i]?=some o→_:=fun i o ho=>by
  have:=h2 i (List.mem_range.2 (Array.getElem?_eq_some_iff.1 ho).1)
  rw[ho] at this
  simp only [Bool.and_eq_true] at this
  exact this
 have hback:∀(i:Nat) (o:Oper),ops[i]?=some o→∀e∈o.after,Region.binds .any e=true→e.on<i:=fun i o ho e he hb=>by
  have:=(key i o ho).1.1
  have:=(Array.all_eq_true_iff_forall_mem.1 this) e he
  simp only [hb,Bool.not_true,Bool.false_or] at this
  simpa using this
 refine⟨by simpa using h1,hback,fun i o ho hi j hj=> ?_,fun i j oi oj d hi hj hin hd hm=> ?_,fun i j oi oj d hi hj hin hjn hne hd=> ?_⟩
 ·have:=(key i o ho).1.2
  simp only [Bool.or_eq_true] at this
  rcases this with h3|h3
  ·have:i<nh:=by simpa using h3
   omega
  ·exact nU h0 hback i (Array.getElem?_eq_some_iff.1 ho).1 j ((List.all_eq_true.1 h3) j (List.mem_range.2 hj))
 ·have:=(key i oi hi).2
  simp only [Bool.or_eq_true] at this
  rcases this with h3|h3
  ·have hb:Nat.blt i nh=true:=by simpa using hin
   rw[hb] at h3;cases h3
  ·have:=(List.all_eq_true.1 h3) j (List.mem_range.2 (Array.getElem?_eq_some_iff.1 hj).1)
   rw[hj] at this
   simp only [hd,Bool.and_eq_true,Bool.or_eq_true] at this
   rcases this.1 with(h4|h4)|h4
   ·simp[hm] at h4
   ·exact .inl ⟨by simpa using h4.1,h4.2⟩
   ·exact .inr ⟨by simpa using h4.1,h4.2⟩
 ·have:=(key i oi hi).2
  simp only [Bool.or_eq_true] at this
  rcases this with h3|h3
  ·have hb:Nat.blt i nh=true:=by simpa using hin
   rw[hb] at h3;cases h3
  ·have:=(List.all_eq_true.1 h3) j (List.mem_range.2 (Array.getElem?_eq_some_iff.1 hj).1)
   rw[hj] at this
   simp only [hd,Bool.and_eq_true,Bool.or_eq_true] at this
   rcases this.2 with(h4|h4)|h4
   ·exact absurd (by simpa using h4) hne
   ·have hb:Nat.blt j nh=true:=by simpa using hjn
    rw[hb] at h4;cases h4
   ·intro e;rw[e] at h4;simp at h4
section
variable {P:Program} {r:Option Nat} {ops:Array Oper} {Q:Exit→Act→World→Prop} {B:Base} {E:Env} {H:Hp}
def Agr (E' E:Env):List Nat→Prop
 | []=>True
 |x::r=>lk x E'=lk x E∧Agr E' E r
theorem jY {E' E:Env}:∀{l:List Nat},(∀x∈l,lk x E'=lk x E)→Agr E' E l
 | [],_=>trivial
 |x::r,h=>⟨h x (by simp),jY (fun y hy=>h y (List.mem_cons_of_mem _ hy))⟩
def Step (r:Option Nat) (P:Program) (ops:Array Oper) (B:Base) (H:Hp) (o:Oper) (E:Env) (d:Nat) (φ:AV):Prop:=
 o.dst=some d∧∀(Q:Exit→Act→World→Prop) (E':Env) (rest:List Oper),(∀x∈o.looksAt ops,lk x E'=lk x E)→St r P ops Q B ((d,φ)::E') H rest→St r P ops Q B E' H (o::rest)
inductive Pl (r:Option Nat) (P:Program) (ops:Array Oper) (B:Base) (H:Hp):Env→List Oper→Env→Prop
 |nil (E:Env):Pl r P ops B H E [] E
 |cons {E E':Env} {o:Oper} {l:List Oper} {d:Nat} {φ:AV} (h:Step r P ops B H o E d φ) (k:Pl r P ops B H ((d,φ)::E) l E'):Pl r P ops B H E (o::l) E'
theorem Pl.list {l:List Oper} {Ef:Env} (h:Pl r P ops B H E l Ef):∃ps:List (Nat × AV),ps.length=l.length∧Ef=ps.reverse++E∧∀(i:Nat) (o:Oper),l[i]?=some o→∃d φ,ps[i]?=some (d,φ)∧Step r P ops B H o ((ps.take i).reverse++E) d φ:=by
 induction h with
 |nil E=>exact⟨[],rfl,rfl,fun i o h=>by simp at h⟩
 |cons hs _ ih=>
  rename_i E E' o l d φ _
  obtain⟨ps,h1,h2,h3⟩:=ih
  refine⟨(d,φ)::ps,by simp[h1],by simp[h2],fun i o' hi=> ?_⟩
  cases i with
  |zero=>simp at hi;subst hi;exact⟨d,φ,rfl,by simpa using hs⟩
  |succ i=>
   obtain⟨d',φ',h4,h5⟩:=h3 i o' (by simpa using hi)
   exact⟨d',φ',by simpa using h4,by simpa using h5⟩
theorem uR (x:Nat):∀(ps:List (Nat × AV)) (E:Env),(∀y∈ps,y.1≠x)→lk x (ps.reverse++E)=lk x E
 | [],E,_=>rfl
 |(d,φ)::ps,E,h=>by
  have ih:=uR x ps ((d,φ)::E) (fun y hy=>h y (List.mem_cons_of_mem _ hy))
  simp only [List.reverse_cons,List.append_assoc,List.singleton_append] at ih ⊢
  rw[ih];exact bU _ _ (h (d,φ) (by simp))
theorem tH {x:Nat} {φ:AV}:∀(ps:List (Nat × AV)) (E:Env) (j:Nat),ps[j]?=some (x,φ)→(∀(i:Nat) (y:Nat × AV),ps[i]?=some y→y.1=x→i=j)→lk x (ps.reverse++E)=φ
 | [],_,_,h,_=>by simp at h
 |(d,ψ)::ps,E,j,h,hu=>by
  simp only [List.reverse_cons,List.append_assoc,List.singleton_append]
  cases j with
  |zero=>
   simp at h
   obtain⟨rfl,rfl⟩:=h
   rw[uR d ps _ (fun y hy e=>by
     obtain⟨i,hi⟩:=List.getElem?_of_mem hy
     have:=hu (i+1) y (by simpa using hi) e
     omega)]
   exact cR _ _ _
  |succ j=>
   exact tH ps _ j (by simpa using h) (fun i y hi e=>by
     have:=hu (i+1) y (by simpa using hi) e
     omega)
theorem Ka {o:Oper} {a:Act} {w:World} {K:Act→World→Prop} {Q':Exit→Act→World→Prop} (hq:∀e a w,e≠ .normal→Q' e a w→Q e a w) (h:o.wpIn (FW r) 0 P a w K Q'):o.wpIn (FW r) 0 P a w K Q:=by
 unfold Oper.wpIn at*
 refine⟨h.1,?_⟩
 have hh:=h.2
 generalize (o.semAt (FW r).round a.eval).run P w=z at*
 have hL:LetsOut Q'→LetsOut Q:=fun⟨a,w,h⟩=>⟨a,w,hq _ _ _ (by simp) h⟩
 cases z with
 |ok x w'=>
  cases x<;>simp only [Oper.uponIn] at hh ⊢ <;>
   first
    |exact hh
    |exact⟨hh.1,CallsIn.mono hh.2 (fun e w'' he=>by cases e<;>first|exact he|exact hq _ _ _ (by simp) he|exact hL he)⟩
    |exact⟨hh.1,RoundIn.mono hh.2 (fun e w'' he=>by cases e<;>first|exact he|exact hq _ _ _ (by simp) he|exact hL he)⟩
 |halt x w'=>cases x<;>simp only [Oper.uponIn] at hh ⊢ <;>first|exact hh|exact hq _ _ _ (by simp) hh
theorem nV:∀(l:List Bool) (i:Nat),l[i]?=some false→(l.set i true).countP (· ==true)=l.countP (· ==true)+1
 | [],_,h=>by simp at h
 |b::l,0,h=>by simp at h;subst h;simp
 |b::l,i+1,h=>by
  have ih:=nV l i (by simpa using h)
  simp only [List.set_cons_succ,List.countP_cons,ih];omega
theorem FJ {o:Oper} {a:Act} {w:World} {K:Act→World→Prop} {i:Nat} (ho:ops[i]?=some o) (h:∀Q':Exit→Act→World→Prop,(∀a w,K a w→Q' .normal a w)→wl r P ops Q' [o] a w):
 wpOpIn (FW r) 0 P ops Q i K a w:=by
 have h1:=h (fun e a w=>match e with| .normal=>K a w|e=>Q e a w) (fun _ _ h=>h)
 unfold wpOpIn
 rw[ho]
 simp only [wl,wpListIn] at h1
 simp only []
 split
 ·next hw=>
  rw[if_pos hw] at h1
  exact Ka (fun e a w he hq=>by cases e<;>first|exact absurd rfl he|exact hq) h1
 ·next hw=>
  rw[if_neg hw] at h1
  exact h1
theorem lZ {ops:Array Oper} {listed:Array Bool} (hcl:∀(j:Nat) (o:Oper),ops[j]?=some o→listed.getD j false=true→∀e∈o.after,Region.binds .any e=true→listed.getD e.on false=true) {i j:Nat} (h:nT ops i j):
 ∀(o:Oper),ops[i]?=some o→(∀e∈o.after,Region.binds .any e=true→listed.getD e.on false=true)→listed.getD j false=true:=by
 induction h with
 |one hw=>
  intro o ho hall
  obtain⟨e,he,hb,heq⟩:=rH ho hw
  exact heq▸hall e he hb
 |more hw _ ih=>
  intro o ho hall
  obtain⟨e,he,hb,heq⟩:=rH ho hw
  have hl:=hall e he hb
  rename_i i m j _
  cases hm:ops[m]? with
  |none=>
   rename_i hp
   cases hp with
   |one h'=>unfold wf at h';rw[hm] at h';cases h'
   |more h' _=>unfold wf at h';rw[hm] at h';cases h'
  |some om=>exact ih om hm (hcl m om hm (heq▸hl))
theorem qY {nh:Nat} (hB:xK ops nh):∀(fuel t:Nat) (listed:Array Bool) (a:Act) (w:World),nh≤t→fuel+t=ops.size→listed.size=ops.size→(∀j,j<t→listed.getD j false=true)→(∀j,t≤j→j<ops.size→listed.getD j true=false)→
 wl r P ops Q (ops.toList.drop t) a w→wpAnyIn (FW r) 0 P .any ops Q fuel listed a w
 |0,t,listed,a,w,hn,hf,hsz,hl,hu,h=>by
  have ht:t=ops.size:=by omega
  subst ht
  refine⟨?_,by rw[List.drop_of_length_le (by simp)] at h;exact h⟩
  apply List.eq_nil_iff_forall_not_mem.2
  intro j hj
  obtain⟨h1,o,ho,_⟩:=mem_ready.1 hj
  have hlt:=(Array.getElem?_eq_some_iff.1 ho).1
  have h2:=hl j hlt
  simp[hsz,hlt] at h1 h2
  rw[h1] at h2;cases h2
 |fuel+1,t,listed,a,w,hn,hf,hsz,hl,hu,h=>by
  have ht:t<ops.size:=by omega
  have ho:ops[t]?=some ops[t]:=by simp[ht]
  have hl':∀(i:Nat) (o:Oper),ops[i]?=some o→listed.getD i false=true→∀e∈o.after,Region.binds .any e=true→listed.getD e.on false=true:=fun i o ho hli e he hb=>by
   have hlt:i<t:=by
    rcases Nat.lt_or_ge i t with h|h
    ·exact h
    ·have hi:=(Array.getElem?_eq_some_iff.1 ho).1
     have h3:=hu i h hi
     simp[hsz,hi] at hli h3
     rw[hli] at h3;cases h3
   exact hl e.on (Nat.lt_trans (hB.back i o ho e he hb) hlt)
  have hready:∀j,j∈Region.ready .any ops listed→j=t:=fun j hj=>by
   obtain⟨h1,o,ho',hall⟩:=mem_ready.1 hj
   have hlt:=(Array.getElem?_eq_some_iff.1 ho').1
   rcases Nat.lt_trichotomy j t with hlt'|e|hgt
   ·have h2:=hl j hlt'
    simp[hsz,hlt] at h1 h2
    rw[h1] at h2;cases h2
   ·exact e
   ·have h2:listed.getD t false=true:=lZ (fun i o ho hl e he hb=>hl' i o ho hl e he hb) (hB.tail j o ho' O t hgt) o ho' hall
    have h3:=hu t (Nat.le_refl _) ht
    simp[hsz,ht] at h2 h3
    rw[h2] at h3;cases h3
  refine⟨fun h0=> ?_,fun j hj=> ?_⟩
  ·have:t∈Region.ready .any ops listed:=mem_ready.2 ⟨hu t (Nat.le_refl _) ht,_,ho,fun e he hb=>hl _ (hB.back t _ ho e he hb)⟩
   rw[h0] at this;cases this
  ·have:=hready j hj
   subst this
   have hd:ops.toList.drop j=ops[j]::ops.toList.drop (j+1):=by rw[List.drop_eq_getElem_cons (by simpa using ht)];simp
   rw[hd] at h
   unfold wpOpIn
   rw[ho]
   simp only [wl,wpListIn] at h
   have ih:∀a w,wpListIn (FW r) 0 P ops Q (ops.toList.drop (j+1)) a w→wpAnyIn (FW r) 0 P .any ops Q fuel (listed.setIfInBounds j true) a w:=fun a w hw=>
    qY hB fuel (j+1) _ a w O O (by simpa using hsz) (fun i hi=>by
     by_cases e:i=j
     ·subst e;simp[hsz,ht]
     ·rw[getD_set_ne _ (Ne.symm e)];exact hl i O) (fun i hi hi'=>by rw[getD_set_ne _ O];exact hu i O hi') hw
   simp only []
   split
   ·next hw=>rw[if_pos hw] at h;exact Oper.wpIn_mono ih h
   ·next hw=>rw[if_neg hw] at h;exact⟨h.1,ih _ _ h.2⟩
theorem OC {nh:Nat} (hB:xK ops nh) {ps:List (Nat × AV)} (hlen:ps.length=nh) (hps:∀(i:Nat) (o:Oper),i<nh→ops[i]?=some o→∃d φ,ps[i]?=some (d,φ)∧Step r P ops B H o ((ps.take i).reverse++E) d φ)
 (ht:St r P ops Q B (ps.reverse++E) H (ops.toList.drop nh)):∀(fuel c:Nat) (listed:Array Bool) (E':Env) (a:Act) (w:World),listed.size=ops.size→fuel+c=ops.size→(listed.toList.countP (· ==true)=c)→
 (∀(j:Nat) (o:Oper),ops[j]?=some o→listed.getD j false=true→∀e∈o.after,Region.binds .any e=true→listed.getD e.on false=true)→(∀j,nh≤j→j<ops.size→listed.getD j true=false)→
 (∀(i d:Nat) (φ:AV),listed.getD i false=true→ps[i]?=some (d,φ)→lk d E'=φ)→(∀(x:Nat),(∀(i d:Nat) (φ:AV),listed.getD i false=true→ps[i]?=some (d,φ)→d≠x)→lk x E'=lk x E)→Sim B E' H a w→
 wpAnyIn (FW r) 0 P .any ops Q fuel listed a w:=by
 have hdst:∀(i:Nat) (d:Nat) (φ:AV),ps[i]?=some (d,φ)→∃o,ops[i]?=some o∧o.dst=some d:=fun i d φ hi=>by
  have hlt:i<nh:=by rw[←hlen];exact(List.getElem?_eq_some_iff.1 hi).1
  have hlt':i<ops.size:=Nat.lt_of_lt_of_le hlt hB.le
  obtain⟨d',φ',h1,h2⟩:=hps i ops[i] hlt (by simp[hlt'])
  rw[hi] at h1;simp at h1
  exact⟨ops[i],by simp[hlt'],by rw[h1.1];exact h2.1⟩
 have huniq:∀(i j:Nat) (d:Nat) (φ ψ:AV),ps[i]?=some (d,φ)→ps[j]?=some (d,ψ)→i=j:=fun i j d φ ψ hi hj=>by
  obtain⟨oi,h1,h2⟩:=hdst i d φ hi
  obtain⟨oj,h3,h4⟩:=hdst j d ψ hj
  have hli:i<nh:=by rw[←hlen];exact(List.getElem?_eq_some_iff.1 hi).1
  have hlj:j<nh:=by rw[←hlen];exact(List.getElem?_eq_some_iff.1 hj).1
  refine Classical.byContradiction fun hne=> ?_
  exact hB.dst i j oi oj d h1 h3 hli hlj hne h4 h2
 intro fuel
 induction fuel with
 |zero=>
  intro c listed E' a w hsz hf hc hcl hut h1 h2 hs
  have hall:∀j,j<ops.size→listed.getD j false=true:=fun j hj=>by
   have hl0:listed.toList.length=ops.size:=by simpa using hsz
   have:listed.toList.countP (· ==true)=listed.toList.length:=by rw[hc];omega
   have:=List.countP_eq_length.1 this (listed[j]' O) (by simp)
   simp[hsz,hj] at this ⊢;exact this
  have hnh:nh=ops.size:=by
   rcases Nat.lt_or_ge nh ops.size with h|h
   ·have h3:=hut nh (Nat.le_refl _) h
    have h4:=hall nh h
    simp[hsz,h] at h3 h4
    rw[h3] at h4;cases h4
   ·have:=hB.le;omega
  refine qY hB 0 nh listed a w (Nat.le_refl _) O hsz (fun j hj=>hall j O) hut (ht a w (hs.less (fun x {w F v} hp=> ?_) (tC H)))
  have:lk x E'=lk x (ps.reverse++E):=by
   by_cases hx:∃(i:Nat) (φ:AV),ps[i]?=some (x,φ)
   ·obtain⟨i,φ,hi⟩:=hx
    have hlt:i<nh:=by rw[←hlen];exact(List.getElem?_eq_some_iff.1 hi).1
    rw[h1 i x φ (hall i O) hi,tH ps E i hi (fun i' y hy e=>by obtain⟨y1,y2⟩:=y;simp at e;subst e;exact huniq i' i _ _ _ hy hi)]
   ·rw[h2 x (fun i d φ _ hi e=>hx ⟨i,φ,e▸hi⟩),uR x ps E (fun y hy e=>by
     obtain⟨i,hi⟩:=List.getElem?_of_mem hy
     exact hx ⟨i,y.2,by rw[hi,←e]⟩)]
  rw[←this];exact hp
 |succ fuel ih=>
  intro c listed E' a w hsz hf hc hcl hut h1 h2 hs
  by_cases hall:∀j,j<nh→listed.getD j false=true
  ·-- the head is through
   have hcnt:c=nh:=by
    have hle:=hB.le
    rw[←hc,←List.take_append_drop nh listed.toList,List.countP_append]
    have e1:(listed.toList.take nh).countP (· ==true)=nh:=by
     have:(listed.toList.take nh).length=nh:=by simp;omega
     rw[List.countP_eq_length.2,this]
     intro b hb
     obtain⟨i,hi⟩:=List.getElem?_of_mem hb
     rw[List.getElem?_take] at hi
     split at hi
     ·next hlt=>
      have h3:=hall i hlt
      have:i<listed.size:=by omega
      simp[this] at hi h3
      rw[←hi,h3];rfl
     ·cases hi
    have e2:(listed.toList.drop nh).countP (· ==true)=0:=by
     rw[List.countP_eq_zero]
     intro b hb
     obtain⟨i,hi⟩:=List.getElem?_of_mem hb
     rw[List.getElem?_drop] at hi
     have hlt:nh+i<listed.size:=by have:=(List.getElem?_eq_some_iff.1 hi).1;simpa using this
     have h3:=hut (nh+i) O O
     simp[hlt] at hi h3
     rw[←hi,h3];simp
    omega
   refine qY hB (fuel+1) nh listed a w (Nat.le_refl _) O hsz hall hut (ht a w (hs.less (fun x {w F v} hp=> ?_) (tC H)))
   have:lk x E'=lk x (ps.reverse++E):=by
    by_cases hx:∃(i:Nat) (φ:AV),ps[i]?=some (x,φ)
    ·obtain⟨i,φ,hi⟩:=hx
     have hlt:i<nh:=by rw[←hlen];exact(List.getElem?_eq_some_iff.1 hi).1
     rw[h1 i x φ (hall i hlt) hi,tH ps E i hi (fun i' y hy e=>by obtain⟨y1,y2⟩:=y;simp at e;subst e;exact huniq i' i _ _ _ hy hi)]
    ·rw[h2 x (fun i d φ _ hi e=>hx ⟨i,φ,e▸hi⟩),uR x ps E (fun y hy e=>by
      obtain⟨i,hi⟩:=List.getElem?_of_mem hy
      exact hx ⟨i,y.2,by rw[hi,←e]⟩)]
   rw[←this];exact hp
  ·-- some of the head is not yet through
   have hex:∃j,(j<nh∧listed.getD j false=false)∧∀m,(m<nh∧listed.getD m false=false)→j≤m:=by
    refine exists_least (Classical.byContradiction fun hno=>hall (fun j hj=> ?_))
    cases hg:listed.getD j false
    ·exact absurd ⟨j,hj,hg⟩ hno
    ·rfl
   obtain⟨j0,⟨hj0,hj0f⟩,hmin⟩:=hex
   have hnt:∀i,listed.getD i false=false→i<ops.size→listed.getD i true=false:=fun i hi hlt=>by
    simp[hsz,hlt] at hi ⊢;exact hi
   have hj0s:j0<ops.size:=Nat.lt_of_lt_of_le hj0 hB.le
   have hr0:j0∈Region.ready .any ops listed:=mem_ready.2 ⟨hnt j0 hj0f hj0s,ops[j0],by simp[hj0s],fun e he hb=>by
    have hlt:=hB.back j0 ops[j0] (by simp[hj0s]) e he hb
    cases hg:listed.getD e.on false
    ·have:=hmin e.on ⟨O,hg⟩;omega
    ·rfl⟩
   refine⟨fun h0=>(by rw[h0] at hr0;cases hr0),fun i hi=> ?_⟩
   obtain⟨hun,oi,hoi,hafter⟩:=mem_ready.1 hi
   have his:i<ops.size:=(Array.getElem?_eq_some_iff.1 hoi).1
   have hinh:i<nh:=by
    rcases Nat.lt_or_ge i nh with h|h
    ·exact h
    ·have:=lZ hcl (hB.tail i oi hoi h j0 O) oi hoi hafter
     rw[hj0f] at this;cases this
   have hunf:listed.getD i false=false:=by simp[hsz,his] at hun ⊢;exact hun
   obtain⟨d,φ,hpi,hstep⟩:=hps i oi hinh hoi
   have hlook:∀x∈oi.looksAt ops,lk x E'=lk x ((ps.take i).reverse++E):=fun x hx=>by
    by_cases hex:∃(j:Nat) (ψ:AV),ps[j]?=some (x,ψ)
    ·obtain⟨j,ψ,hj⟩:=hex
     obtain⟨oj,hoj,hdj⟩:=hdst j x ψ hj
     rcases hB.dep i j oi oj x hoi hoj hinh hdj hx with⟨hlt,hw⟩|⟨hlt,hw⟩
     ·obtain⟨e,he,hb,heq⟩:=rH hoi hw
      have hl:listed.getD j false=true:=heq▸hafter e he hb
      rw[h1 j x ψ hl hj]
      have hjt:(ps.take i)[j]?=some (x,ψ):=by rw[List.getElem?_take,if_pos hlt];exact hj
      exact(tH (ps.take i) E j hjt (fun i' y hy e=>by
       obtain⟨y1,y2⟩:=y;simp at e;subst e
       rw[List.getElem?_take] at hy
       split at hy
       ·exact huniq i' j _ _ _ hy hj
       ·cases hy)).symm
     ·have hjn:listed.getD j false=false:=by
       cases hg:listed.getD j false
       ·rfl
       ·obtain⟨e,he,hb,heq⟩:=rH hoj hw
        have:=hcl j oj hoj hg e he hb
        rw[heq,hunf] at this;cases this
      rw[h2 x (fun k d' φ' hk hpk e=>by
       subst e
       have:=huniq k j _ _ _ hpk hj
       subst this;rw[hjn] at hk;cases hk)]
      exact(uR x (ps.take i) E (fun y hy e=>by
       obtain⟨k,hk⟩:=List.getElem?_of_mem hy
       rw[List.getElem?_take] at hk
       split at hk
       ·next hki=>
        obtain⟨y1,y2⟩:=y;simp at e;subst e
        have:=huniq k j _ _ _ hk hj
        omega
       ·cases hk)).symm
    ·rw[h2 x (fun k d' φ' _ hpk e=>hex ⟨k,φ',e▸hpk⟩)]
     exact(uR x (ps.take i) E (fun y hy e=>by
      obtain⟨k,hk⟩:=List.getElem?_of_mem hy
      rw[List.getElem?_take] at hk
      split at hk
      ·exact hex ⟨k,y.2,by rw[hk,←e]⟩
      ·cases hk)).symm
   refine FJ hoi (fun Q' hQ'=>hstep.2 Q' E' [] hlook (fun a' w' hs'=>hQ' a' w' ?_) a w hs)
   refine ih (c+1) (listed.setIfInBounds i true) ((d,φ)::E') a' w' (by simpa using hsz) O ?_ (fun j o ho hl e he hb=> ?_) (fun j hj hj'=>by rw[getD_set_ne _ O];exact hut j hj hj') (fun k d' φ' hk hpk=> ?_) (fun x hx=> ?_) hs'
   ·rw[Array.toList_setIfInBounds]
    have hfi:listed.toList[i]?=some false:=by
     have h9:i<listed.size:=by omega
     simp[h9] at hunf ⊢;exact hunf
    rw[nV _ _ hfi,hc]
   ·by_cases e':i=j
    ·subst e'
     have:o=oi:=Option.some.inj (ho.symm.trans hoi)
     subst this
     exact getD_set_true (hafter e he hb)
    ·rw[getD_set_ne _ e'] at hl
     exact getD_set_true (hcl j o ho hl e he hb)
   ·by_cases e':i=k
    ·subst e'
     rw[hpi] at hpk;simp at hpk
     rw[hpk.1,hpk.2];exact cR _ _ _
    ·rw[getD_set_ne _ e'] at hk
     have hne:d≠d':=fun e=>e' (huniq i k d φ φ' hpi (e▸hpk))
     rw[bU _ _ hne];exact h1 k d' φ' hk hpk
   ·have hne:d≠x:=hx i d φ (by simp[hsz,his]) hpi
    rw[bU _ _ hne]
    refine h2 x (fun k d' φ' hk hpk=>hx k d' φ' ?_ hpk)
    exact getD_set_true hk
theorem fL (m j:Nat):(Array.replicate m false).getD j false=false:=by
 rcases Nat.lt_or_ge j m with h|h
 ·simp[h]
 ·simp[h]
def PlC (r:Option Nat) (P:Program) (ops:Array Oper) (B:Base) (H:Hp) (E:Env) (l:List Oper) (K:Env→Prop):Prop:=∃Ef,Pl r P ops B H E l Ef∧K Ef
theorem pn {K:Env→Prop} (k:K E):PlC r P ops B H E [] K:=⟨E,.nil E,k⟩
theorem st_ {o:Oper} {d:Nat} {φ:AV} {l:List Oper} {K:Env→Prop} (hd:o.dst=some d) (h:∀(Q:Exit→Act→World→Prop) (E':Env) (rest:List Oper),Agr E' E (o.looksAt ops)→St r P ops Q B ((d,φ)::E') H rest→St r P ops Q B E' H (o::rest))
 (k:PlC r P ops B H ((d,φ)::E) l K):PlC r P ops B H E (o::l) K:=⟨k.choose,.cons ⟨hd,fun Q E' rest hx=>h Q E' rest (jY hx)⟩ k.choose_spec.1,k.choose_spec.2⟩
def gif (c:Bool) (φ:AV):AV:=bif c then φ else eqv undef
theorem fH {c b:Bool} {φ:AV} (h:c=b):gif (c==b) φ=φ:=by subst h;simp[gif]
theorem LG {x y z:Operand} {c e:Bool} (hc:lkO x E=bl c) (hy:lkO y E=gif (c==true) (bl e)) (hz:lkO z E=bl false):lkO (if c then y else z) E=bl (c&&e):=by
 cases c
 ·exact hz
 ·exact hy.trans (fH rfl)
theorem EW {x y z:Operand} {c e:Bool} (hc:lkO x E=bl c) (hz:lkO z E=gif (c==false) (bl e)) (hy:lkO y E=bl true):lkO (if c then y else z) E=bl (c||e):=by
 cases c
 ·exact hz.trans (fH rfl)
 ·exact hy
theorem sg_ {oo:Op} {ty:Nat} {pos:String} {af:Array Edge} {d i t:Nat} {φ:AV} {b c:Bool} {l:List Oper} {K:Env→Prop} (hdn:Nat.blt d B.nt=true) (hi:(ops[i]?).bind (·.dst)=some t) (hn:Nat.blt t B.nt=true) (hb:lk t E=bl c)
 (hl:t∈({ dst:=some d,op:=oo,type:=ty,pos:=pos,after:=af,guard:=some (i,b) }:Oper).looksAt ops)
 (h:c=b→∀(Q:Exit→Act→World→Prop) (E':Env) (rest:List Oper),Agr E' E (({ dst:=some d,op:=oo,type:=ty,pos:=pos,after:=af,guard:=some (i,b) }:Oper).looksAt ops)→St r P ops Q B ((d,φ)::E') H rest→St r P ops Q B E' H ({ dst:=some d,op:=oo,type:=ty,pos:=pos,after:=af,guard:=none }::rest))
 (k:PlC r P ops B H ((d,gif (c==b) φ)::E) l K):PlC r P ops B H E ({ dst:=some d,op:=oo,type:=ty,pos:=pos,after:=af,guard:=some (i,b) }::l) K:=⟨k.choose,.cons ⟨rfl,fun Q E' rest hx kk=>by
 have hb':lk t E'=bl c:=(hx t hl).trans hb
 by_cases hcb:c=b
 ·subst hcb
  exact gy hi hn hb' J (h J Q E' rest (jY hx) (by simpa [gif] using kk))
 ·have hc:c= !b:=by cases b<;>cases c<;>simp_all
  have h2:(c==b)=false:=by simp[hcb]
  refine gn hi hn hb' hc rfl hdn ?_
  rw[h2] at kk
  exact kk⟩ k.choose_spec.1,k.choose_spec.2⟩
theorem rO {c b c' b':Bool} {φ:AV} (h:c=b) (h':c'=b'):gif ((c==b)&&(c'==b')) φ=φ:=by subst h;subst h';simp[gif]
theorem Sm {c b g:Bool} {φ:AV} (h:c=b):gif ((c==b)&&g) φ=gif g φ:=by subst h;cases c<;>rfl
theorem xL {oo:Op} {ty:Nat} {pos:String} {af:Array Edge} {d i t:Nat} {φ:AV} {b c b1 c1:Bool} {l:List Oper} {K:Env→Prop} (hdn:Nat.blt d B.nt=true) (hi:(ops[i]?).bind (·.dst)=some t) (hn:Nat.blt t B.nt=true) (hb:lk t E=gif (c1==b1) (bl c))
 (hl:t∈({ dst:=some d,op:=oo,type:=ty,pos:=pos,after:=af,guard:=some (i,b) }:Oper).looksAt ops)
 (h:c1=b1→c=b→∀(Q:Exit→Act→World→Prop) (E':Env) (rest:List Oper),Agr E' E (({ dst:=some d,op:=oo,type:=ty,pos:=pos,after:=af,guard:=some (i,b) }:Oper).looksAt ops)→St r P ops Q B ((d,φ)::E') H rest→St r P ops Q B E' H ({ dst:=some d,op:=oo,type:=ty,pos:=pos,after:=af,guard:=none }::rest))
 (k:PlC r P ops B H ((d,gif ((c1==b1)&&(c==b)) φ)::E) l K):PlC r P ops B H E ({ dst:=some d,op:=oo,type:=ty,pos:=pos,after:=af,guard:=some (i,b) }::l) K:=⟨k.choose,.cons ⟨rfl,fun Q E' rest hx kk=>by
 have hb':lk t E'=gif (c1==b1) (bl c):=(hx t hl).trans hb
 by_cases h1:c1=b1
 ·subst h1
  simp only [beq_self_eq_true,Bool.true_and] at kk
  have hb2:lk t E'=bl c:=hb'.trans (fH rfl)
  by_cases hcb:c=b
  ·subst hcb
   exact gy hi hn hb2 J (h J J Q E' rest (jY hx) (by simpa [gif] using kk))
  ·have hc:c= !b:=by revert hcb;cases b<;>cases c<;>simp
   have h2:(c==b)=false:=by simp[hcb]
   refine gn hi hn hb2 hc rfl hdn ?_
   rw[h2] at kk
   exact kk
 ·have h2:(c1==b1)=false:=by simp[h1]
  rw[h2] at hb' kk
  exact gu hi hn hb' J hdn kk⟩ k.choose_spec.1,k.choose_spec.2⟩
theorem dr {id nh:Nat} (ms:List Nat) {l:List Oper} (hm:P.follows .mixedOrders=true) (hB:yY l.toArray nh ms=true) (hpt:PlC r P l.toArray B H E (l.take nh) (fun Ef=>St r P l.toArray Q B Ef H (l.drop nh))):Ct r P Q B E H (.region id l.toArray true):=fun a w hs=>by
 obtain⟨Ef,hp,ht⟩:=hpt
 have hok:=Eb hB
 obtain⟨ps,h1,h2,h3⟩:=hp.list
 have hnl:nh≤l.length:=by simpa using hok.le
 refine wpIn_region_any hm ?_
 have hlen:ps.length=nh:=by rw[h1];simp;omega
 refine OC hok hlen (fun i o hi ho=>h3 i o (by rw[List.getElem?_take,if_pos hi];simpa using ho)) (by rw[←h2];simpa using ht) l.toArray.size 0 _ E a _ (by simp) (by simp) ?_ (fun j o ho hl=> ?_) (fun j hj hj'=> ?_) (fun i d φ hl=> ?_) (fun x _=>rfl) (hs.drew _)
 ·simp[List.countP_replicate]
 ·rw[fL] at hl;cases hl
 ·simp at hj';simp[hj']
 ·rw[fL] at hl;cases hl
end
end AL
set_option linter.unusedVariables false
namespace AL
open Go
attribute [local semireducible] any eqv agg tup fp ptr sl eG emp cell own obj osl dL clo pf
def HS (l:Nat) (R:Loop) (E:Env) (H:Hp):HA:=
 ⟨fun b=>fQ H b∨b=l,
  fun w F=>(∀k,(lkH k H).p w F)∧(∀k k' b,k≠k'→(lkH k H).foot b→¬(lkH k' H).foot b)∧(∀k,¬(lkH k H).foot l)∧w.heap[l]?=some (.loop R)∧(∀t,(lk t E).p w F (R.tmps.getD t undef)),
  fun {w F w' F'} hF hw ⟨h1,h2,h3,h4,h5⟩=>⟨fun k=>(lkH k H).st hF (fun b hb=>hw b (hb.imp id (fun h=> .inl ⟨k,h⟩))) (h1 k),h2,h3,(hw l (.inr (.inr rfl))).trans h4,fun t=>(lk t E).st hF (fun b hb=>hw b (.inl hb)) (h5 t)⟩⟩
section
variable {P:Program} {r:Option Nat} {Q:Exit→Act→World→Prop} {B:Base} {E:Env} {H:Hp} {a:Act} {w:World} {F:Fz} {Ds:List Nat}
def It {α:Type} (P:Program) (f:FuncId) (cs:List AV) (encs:α→List AV) (xs:List α):Prop:=
 ∀(y:Value) (Y:Nat→HA→Prop) (Z:HA→Prop),
  (∀i h x,Y i h→xs[i]?=some x→FnV P y (encs x) [(0,h)] (ι:=Bool × HA) (fun _ bh=>eG ((bh.1=true→Y (i+1) bh.2)∧(bh.1=false→Z bh.2)) (bl bh.1)) (fun bh=> [(0,bh.2)]))→
  ∀h0,Y 0 h0→Fn P f (eqv y::cs) [(0,h0)] (ι:=HA) (fun _ h'=>eG (Y xs.length h'∨Z h') any) (fun h'=> [(0,h')])
def FnG (N:Nat) (P:Program) (f:FuncId) (args:List AV) (Hi:Hp) {ι:Type} (res:Nat→ι→AV) (Ho:ι→Hp):Prop:=
 ∀(w:World) (F:Fz) (vs:List Value),N≤w.heap.size→All2 w F args vs→(∀b,F b→b<w.heap.size)→HpOk Hi w F→
  Calls P f vs.toArray w fun e w'=> ∃i v F',e= .returned v∧Left w F Hi res Ho i v F' w'
def ItG {α:Type} (N:Nat) (P:Program) (f:FuncId) (cs:List AV) (encs:α→List AV) (xs:List α):Prop:=
 ∀(y:Value) (Y:Nat→HA→Prop) (Z:HA→Prop),
  (∀i h x,Y i h→xs[i]?=some x→FnV P y (encs x) [(0,h)] (ι:=Bool × HA) (fun _ bh=>eG ((bh.1=true→Y (i+1) bh.2)∧(bh.1=false→Z bh.2)) (bl bh.1)) (fun bh=> [(0,bh.2)]))→
  ∀h0,Y 0 h0→FnG N P f (eqv y::cs) [(0,h0)] (ι:=HA) (fun _ h'=>eG (Y xs.length h'∨Z h') any) (fun h'=> [(0,h')])
theorem It.toG {α:Type} {P:Program} {N:Nat} {f:FuncId} {cs:List AV} {encs:α→List AV} {xs:List α} (h:It P f cs encs xs):ItG N P f cs encs xs:=fun y Y Z hy h0 hY w F vs _=>h y Y Z hy h0 hY w F vs
theorem SimF.pack (h:SimF B E H a w F Ds) {kl l:Nat} {R:Loop} {H0:Hp} (hH:H=(kl,obj l (.loop R))::H0) (hk:lkH kl H0=emp) {E0:Env} (hE:∀t,(lk t E0).p w F (R.tmps.getD t undef)) (ky:Nat):SimF B E [(ky,HS l R E0 H0)] a w F Ds:=by
 subst hH
 have hlk:∀k,k≠kl→lkH k ((kl,obj l (.loop R))::H0)=lkH k H0:=fun k hne=>bG _ _ (Ne.symm hne)
 have hkl:lkH kl ((kl,obj l (.loop R))::H0)=obj l (.loop R):=bB _ _ _
 have hf:∀b,(HS l R E0 H0).foot b→∃k,(lkH k ((kl,obj l (.loop R))::H0)).foot b:=fun b hb=>by
  rcases hb with⟨k,hb⟩|rfl
  ·by_cases e:k=kl
   ·subst e;rw[hk] at hb;exact hb.elim
   ·exact⟨k,by rw[hlk k e];exact hb⟩
  ·exact⟨kl,by rw[hkl];rfl⟩
 have hone:∀k b,(lkH k [(ky,HS l R E0 H0)]).foot b→k=ky∧(HS l R E0 H0).foot b:=fun k b hb=>by
  by_cases e:ky=k
  ·subst e;rw[bB] at hb;exact⟨rfl,hb⟩
  ·rw[bG _ _ e] at hb;exact hb.elim
 refine { h with
  hp:=fun k=> ?_
  hF:=fun k b hb hFb=>by
   obtain⟨j,hj⟩:=hf b (hone k b hb).2
   exact h.hF j b hj hFb
  hd:=fun k k' b hne hb hb'=>by
   have h1:=(hone k b hb).1
   have h2:=(hone k' b hb').1
   exact absurd (h1.trans h2.symm) hne
  hN:=fun k b hb=>by
   obtain⟨j,hj⟩:=hf b (hone k b hb).2
   exact h.hN j b hj
  dD:=fun D hD=>by
   obtain⟨h1,h2,h3,h4⟩:=h.dD D hD
   refine⟨h1,h2,h3,fun k hb=> ?_⟩
   obtain⟨j,hj⟩:=hf D (hone k D hb).2
   exact h4 j hj }
 by_cases e:ky=k
 ·subst e
  rw[bB]
  refine⟨fun k=> ?_,fun k k' b hne hb hb'=> ?_,fun k hb=> ?_,?_,hE⟩
  ·by_cases e:k=kl
   ·subst e;rw[hk];trivial
   ·have:=h.hp k;rwa [hlk k e] at this
  ·have e1:k≠kl:=fun e=>by subst e;rw[hk] at hb;exact hb
   have e2:k'≠kl:=fun e=>by subst e;rw[hk] at hb';exact hb'
   exact h.hd k k' b hne (by rw[hlk k e1];exact hb) (by rw[hlk k' e2];exact hb')
  ·have e1:k≠kl:=fun e=>by subst e;rw[hk] at hb;exact hb
   exact h.hd k kl l e1 (by rw[hlk k e1];exact hb) (by rw[hkl];rfl)
  ·have:=h.hp kl;rw[hkl] at this;exact this
 ·rw[bG _ _ e];trivial
theorem SimF.unpack {Hx:Hp} (h:SimF B E Hx a w F Ds) {ky kl l:Nat} {R:Loop} {E0:Env} {H0:Hp} (hx:lkH ky Hx=HS l R E0 H0) (hk:lkH kl H0=emp):SimF B E ((kl,obj l (.loop R))::H0) a w F Ds:=by
 have hlk:∀k,k≠kl→lkH k ((kl,obj l (.loop R))::H0)=lkH k H0:=fun k hne=>bG _ _ (Ne.symm hne)
 have hkl:lkH kl ((kl,obj l (.loop R))::H0)=obj l (.loop R):=bB _ _ _
 have hp:=h.hp ky
 rw[hx] at hp
 obtain⟨h1,h2,h3,h4,h5⟩:=hp
 have hf:∀k b,(lkH k ((kl,obj l (.loop R))::H0)).foot b→(lkH ky Hx).foot b:=fun k b hb=>by
  rw[hx]
  by_cases e:k=kl
  ·subst e;rw[hkl] at hb;exact .inr hb
  ·rw[hlk k e] at hb;exact .inl ⟨k,hb⟩
 exact { h with
  hp:=fun k=>by
   by_cases e:k=kl
   ·subst e;rw[hkl];exact h4
   ·rw[hlk k e];exact h1 k
  hF:=fun k b hb=>h.hF ky b (hf k b hb)
  hd:=fun k k' b hne hb hb'=>by
   by_cases e:k=kl
   ·subst e
    rw[hkl] at hb;rw[hlk k' (Ne.symm hne)] at hb'
    have hb:b=l:=hb
    subst hb;exact h3 k' hb'
   ·by_cases e':k'=kl
    ·subst e'
     rw[hkl] at hb';rw[hlk k e] at hb
     have hb':b=l:=hb'
     subst hb';exact h3 k hb
    ·rw[hlk k e] at hb;rw[hlk k' e'] at hb'
     exact h2 k k' b hne hb hb'
  hN:=fun k b hb=>h.hN ky b (hf k b hb)
  dD:=fun D hD=>by
   obtain⟨g1,g2,g3,g4⟩:=h.dD D hD
   exact⟨g1,g2,g3,fun k hb=>g4 ky (hf k D hb)⟩ }
def uS (ps:List Nat) (cs:List AV) (E:Env):Env:=
 match ps,cs with
 |p::ps,c::cs=>uS ps cs ((p,c)::E)
 |_,_=>E
theorem BH {nt:Nat}:∀(ps:List Nat) (cs:List AV) (vs:List Value) (E:Env) (tmps:Array Value),tmps.size=nt→(∀p∈ps,p<nt)→All2 w F cs vs→ps.length=cs.length→(∀t,(lk t E).p w F (tmps.getD t undef))→
 ((ps.zip vs).foldl (fun t (x:Nat × Value)=>t.setIfInBounds x.1 x.2) tmps).size=nt∧∀t,(lk t (uS ps cs E)).p w F (((ps.zip vs).foldl (fun t (x:Nat × Value)=>t.setIfInBounds x.1 x.2) tmps).getD t undef)
 | [],[],[],E,tmps,hs,_,_,_,hE=>⟨hs,hE⟩
 |p::ps,c::cs,v::vs,E,tmps,hs,hp,ha,hl,hE=>by
  refine BH ps cs vs ((p,c)::E) (tmps.setIfInBounds p v) (by simpa using hs) (fun q hq=>hp q (List.mem_cons_of_mem _ hq)) ha.2 (by simpa using hl) (fun t=> ?_)
  by_cases e:p=t
  ·subst e
   rw[cR]
   have:p<tmps.size:=by rw[hs];exact hp p (by simp)
   simpa [this] using ha.1
  ·rw[bU _ _ e]
   have:=hE t
   simpa [e] using this
 | [],_::_,_,_,_,_,_,_,hl,_=>by simp at hl
 |_::_,[],_,_,_,_,_,_,hl,_=>by simp at hl
 | [],[],_::_,_,_,_,_,ha,_,_=>ha.elim
 |_::_,_::_,[],_,_,_,_,ha,_,_=>ha.elim
def RQ {κ:Type} (B:Base) (kl l:Nat) (R:Loop) (Hk:κ→Hp) (G:κ→Prop) (S:Code→κ→Prop):Exit→Act→World→Prop
 | .normal,a,w=> ∃k,G k∧∃E,Sim B E ((kl,obj l (.loop { R with state:= .busy }))::Hk k) a w
 | .ret,a,w=> ∃k,S .ret k∧∃E,Sim B E ((kl,obj l (.loop { R with state:= .busy }))::Hk k) a w
 | .exit id,a,w=> ∃k,S (.exit id) k∧∃E,Sim B E ((kl,obj l (.loop { R with state:= .busy }))::Hk k) a w
 |_,_,_=>False
def AQ {κ:Type} (P:Program) (B:Base) (kl l:Nat) (R:Loop) (Hk:κ→Hp) (G:κ→Prop) (S:Code→κ→Prop) (body:Code):Exit→Act→World→Prop
 | .normal,a,w=> ∃w₂,(Instr.beginRound l).run P w= .ok () w₂∧body.wpIn (FW (some l)) 0 P (RQ B kl l R Hk G S) a w₂
 |_,_,_=>False
theorem aq {κ:Type} {kl l:Nat} {R:Loop} {Hk:κ→Hp} {G:κ→Prop} {S:Code→κ→Prop} {body:Code} (hr:R.state= .ready) (hk:lkH kl H=obj l (.loop R))
 (h:Ct (some l) P (RQ B kl l R Hk G S) B E ((kl,obj l (.loop { R with state:= .busy }))::H) body):At (AQ P B kl l R Hk G S body) .normal B E H:=fun a w ⟨F,Ds,hs⟩=>by
 have h1:=hs.hp kl
 rw[hk] at h1
 have h1:w.heap[l]?=some (.loop R):=h1
 have hlt:l<w.heap.size:=(Array.getElem?_eq_some_iff.1 h1).1
 refine⟨w.putObj l (.loop { R with state:= .busy }),run_beginRound h1 hr,h a _ ⟨F,Ds,hs.upd (w':=w.putObj l _) kl _ (by simp) rfl rfl rfl (fun b hb hnf=> ?_) (fun b hb=> ?_) ?_⟩⟩
 ·exact World.putObj_heap_other (fun e=>hnf (by rw[hk];exact e))
 ·have hb:b=l:=hb
  subst hb
  exact⟨.inl (by rw[hk];rfl),by simpa using hlt⟩
 ·exact World.putObj_heap_same hlt
theorem rqN {κ:Type} {kl l:Nat} {R:Loop} {Hk:κ→Hp} {G:κ→Prop} {S:Code→κ→Prop} (k:κ) (g:G k) (hH:SubH ((kl,obj l (.loop { R with state:= .busy }))::Hk k) H):At (RQ B kl l R Hk G S) .normal B E H:=
 fun _ _ hs=>⟨k,g,E,hs.less (fun _ _ _ _ h=>h) hH.less⟩
theorem rqR {κ:Type} {kl l:Nat} {R:Loop} {Hk:κ→Hp} {G:κ→Prop} {S:Code→κ→Prop} (k:κ) (g:S .ret k) (hH:SubH ((kl,obj l (.loop { R with state:= .busy }))::Hk k) H):At (RQ B kl l R Hk G S) .ret B E H:=
 fun _ _ hs=>⟨k,g,E,hs.less (fun _ _ _ _ h=>h) hH.less⟩
theorem OD (R:Loop) {s:LoopState} {p:Option Code} (hs:R.state=s) (hp:R.pending=p): { R with state:=s,pending:=p }=R:=by cases R;simp_all
theorem BI {ι:Type} {kl ky l:Nat} {Rb R3:Loop} {E0 E':Env} {H1:Hp} {w w2:World} {F F2:Fz} {Ds2:List Nat} {a:Act} {nt:Nat} {h:HA} (hH:HpOk [(ky,h)] w F) (hFb:∀b,F b→b<w.heap.size)
 (hs:SimF { w0:=w,M:=fQ [(ky,h)],F0:=F,nt:=nt } E' ((kl,obj l (.loop Rb))::H1) a w2 F2 Ds2) (hk:lkH kl H1=emp) (henv:∀t,(lk t E0).p w F (R3.tmps.getD t undef))
 {res:Nat→ι→AV} {Ho:ι→Hp} (i:ι) {v:Value} (hres:(res w.heap.size i).p (w2.putObj l (.loop R3)) F2 v) (hHo:Ho i= [(ky,HS l R3 E0 H1)]):Left w F [(ky,h)] res Ho i v F2 (w2.putObj l (.loop R3)):=by
 have hkl:lkH kl ((kl,obj l (.loop Rb))::H1)=obj l (.loop Rb):=bB _ _ _
 have hlk:∀k,k≠kl→lkH k ((kl,obj l (.loop Rb))::H1)=lkH k H1:=fun k hne=>bG _ _ (Ne.symm hne)
 have hl:=hs.hp kl
 rw[hkl] at hl
 have hl:w2.heap[l]?=some (.loop Rb):=hl
 have hlt:l<w2.heap.size:=(Array.getElem?_eq_some_iff.1 hl).1
 have hoth:∀b,b≠l→(w2.putObj l (.loop R3)).heap[b]?=w2.heap[b]?:=fun b hb=>World.putObj_heap_other hb
 have hlF:¬F2 l:=hs.hF kl l (by rw[hkl];rfl)
 have hF2:∀b,F2 b→(w2.putObj l (.loop R3)).heap[b]?=w2.heap[b]?:=fun b hb=>hoth b (fun e=>hlF (e▸hb))
 have hHb:∀k b,(lkH k H1).foot b→(w2.putObj l (.loop R3)).heap[b]?=w2.heap[b]?:=fun k b hb=>hoth b (fun e=>by
  subst e
  have hne:k≠kl:=fun e=>by subst e;rw[hk] at hb;exact hb
  exact hs.hd k kl b hne (by rw[hlk k hne];exact hb) (by rw[hkl];rfl))
 have hM:∀b,F b→¬fQ [(ky,h)] b:=fun b hb ⟨k,hf⟩=>hH.hF k b hf hb
 have hww:∀b,F b→(w2.putObj l (.loop R3)).heap[b]?=w.heap[b]?:=fun b hb=>(hF2 b (hs.F0 b hb)).trans (hs.fr b (hFb b hb) (hM b hb))
 have hfoot:∀b,(HS l R3 E0 H1).foot b→∃k,(lkH k ((kl,obj l (.loop Rb))::H1)).foot b:=fun b hb=>by
  rcases hb with⟨k,hb⟩|rfl
  ·have hne:k≠kl:=fun e=>by subst e;rw[hk] at hb;exact hb
   exact⟨k,by rw[hlk k hne];exact hb⟩
  ·exact⟨kl,by rw[hkl];rfl⟩
 have hone:∀k b,(lkH k (Ho i)).foot b→k=ky∧(HS l R3 E0 H1).foot b:=fun k b hb=>by
  rw[hHo] at hb
  by_cases e:ky=k
  ·subst e;rw[bB] at hb;exact⟨rfl,hb⟩
  ·rw[bG _ _ e] at hb;exact hb.elim
 exact {
  res:=hres
  ok:= {
   hp:=fun k=>by
    rw[hHo]
    by_cases e:ky=k
    ·subst e
     rw[bB]
     refine⟨fun k=> ?_,fun k k' b hne hb hb'=> ?_,fun k hb=> ?_,World.putObj_heap_same hlt,fun t=>(lk t E0).st hs.F0 hww (henv t)⟩
     ·by_cases e:k=kl
      ·subst e;rw[hk];trivial
      ·have:=hs.hp k
       rw[hlk k e] at this
       exact(lkH k H1).st (fun _ h=>h) (fun b hb=>hb.elim (hF2 b) (hHb k b)) this
     ·have e1:k≠kl:=fun e=>by subst e;rw[hk] at hb;exact hb
      have e2:k'≠kl:=fun e=>by subst e;rw[hk] at hb';exact hb'
      exact hs.hd k k' b hne (by rw[hlk k e1];exact hb) (by rw[hlk k' e2];exact hb')
     ·have e1:k≠kl:=fun e=>by subst e;rw[hk] at hb;exact hb
      exact hs.hd k kl l e1 (by rw[hlk k e1];exact hb) (by rw[hkl];rfl)
    ·rw[bG _ _ e];trivial
   hF:=fun k b hb hFb'=>by
    obtain⟨j,hj⟩:=hfoot b (hone k b hb).2
    exact hs.hF j b hj hFb'
   hd:=fun k k' b hne hb hb'=>absurd ((hone k b hb).1.trans (hone k' b hb').1.symm) hne
   hN:=fun k b hb=>by
    obtain⟨j,hj⟩:=hfoot b (hone k b hb).2
    simpa using(hs.hN j b hj).1 }
  sub:=hs.F0
  new:=fun b hb=>by
   obtain⟨h1,h2⟩:=hs.Fb b hb
   rcases h2 with h2|h2|h2
   ·exact .inl h2
   ·exact .inr (.inl ⟨h2,by simpa using h1⟩)
   ·exact .inr (.inr h2)
  foot:=fun b ⟨k,hb⟩=>by
   obtain⟨j,hj⟩:=hfoot b (hone k b hb).2
   exact(hs.hN j b hj).2
  old:=fun b hlt' hnf=>by
   rw[hoth b (fun e=>by
    subst e
    rcases(hs.hN kl b (by rw[hkl];rfl)).2 with h1|h1
    ·simp only [Base.N] at h1;omega
    ·exact hnf h1)]
   exact hs.fr b hlt' hnf
  size:=by simpa using hs.Ns
  os:=hs.os
  tape:=hs.tp
  out:=hs.out }
def YY {κ:Type} (l:Nat) (R:Loop) (E:Env) (Hk:κ→Hp) (G:Nat→κ→Prop) (i:Nat) (h:HA):Prop:=∃k,G i k∧h=HS l R E (Hk k)
def ZZ {κ:Type} (l:Nat) (R:Loop) (E:Env) (Hk:κ→Hp) (S:Code→κ→Prop) (h:HA):Prop:=∃k c,S c k∧h=HS l { R with state:= .done,pending:=some c } E (Hk k)
theorem LH {κ α:Type} {l kl ky nt:Nat} {R:Loop} (hs0:R.state= .ready) (hp0:R.pending=none) {Hk:κ→Hp} {G:Nat→κ→Prop} {S:Code→κ→Prop} {encs:α→List AV} {xs:List α}
 (hR:R.tmps.size=nt) (hps:∀p∈R.params.toList,p<nt) (hlen:∀x,(encs x).length=R.params.size) (hkl:∀k,lkH kl (Hk k)=emp)
 (hbody:∀i k x,G i k→xs[i]?=some x→∀(w1:World) (M1 F1:Fz),Ct (some l) P (AQ P { w0:=w1,M:=M1,F0:=F1,nt:=nt } kl l R Hk (G (i+1)) S R.body) { w0:=w1,M:=M1,F0:=F1,nt:=nt } (uS R.params.toList (encs x) E) ((kl,obj l (.loop R))::Hk k) R.assign)
 (i:Nat) (h:HA) (x:α) (hY:YY l R E Hk G i h) (hx:xs[i]?=some x):
 FnV P (.func (.yield l) #[] #[]) (encs x) [(ky,h)] (ι:=Bool × HA) (fun _ bh=>eG ((bh.1=true→YY l R E Hk G (i+1) bh.2)∧(bh.1=false→ZZ l R E Hk S bh.2)) (bl bh.1)) (fun bh=> [(ky,bh.2)]):=by
 obtain⟨k,hG,rfl⟩:=hY
 intro w F vs hvs hFb hH
 have hp:=hH.hp ky
 rw[bB] at hp
 obtain⟨h1,h2,h3,h4,h5⟩:=hp
 have hvl:vs.length=R.params.size:=by rw[hvs.length,hlen x]
 have hrun:=run_yield (P:=P) (args:=vs.toArray) h4 (by simpa using hvl)
 refine .inr ⟨l,R.fn,_,R.assign,R.body,by simp only [Deferred.ofValue,Sem.run_bind,Sem.run_pure,Result.andThen_ok,invoke,Array.empty_append];exact hrun,?_⟩
 refine roundIn_of_wpIn (F:=FW none) (n:=0) trivial ?_
 obtain⟨g1,g2⟩:=BH (w:=w) (F:=F) R.params.toList (encs x) vs E R.tmps hR hps hvs (by simp[hlen x]) h5
 have hfold:(R.params.zip vs.toArray).foldl (fun tmps (t,a)=>tmps.setIfInBounds t a) R.tmps=(R.params.toList.zip vs).foldl (fun t (x:Nat × Value)=>t.setIfInBounds x.1 x.2) R.tmps:=by
  rw[←Array.foldl_toList];simp
 have hkk:∀k',k'≠kl→lkH k' ((kl,obj l (.loop R))::Hk k)=lkH k' (Hk k):=fun k' hne=>bG _ _ (Ne.symm hne)
 have hkl':lkH kl ((kl,obj l (.loop R))::Hk k)=obj l (.loop R):=bB _ _ _
 have hf:∀k' b,(lkH k' ((kl,obj l (.loop R))::Hk k)).foot b→(HS l R E (Hk k)).foot b:=fun k' b hb=>by
  by_cases e:k'=kl
  ·subst e;rw[hkl'] at hb;exact .inr hb
  ·rw[hkk k' e] at hb;exact .inl ⟨k',hb⟩
 have hfl:∀b,(HS l R E (Hk k)).foot b→(lkH ky [(ky,HS l R E (Hk k))]).foot b:=fun b hb=>by rw[bB];exact hb
 have hsim:SimF { w0:=w,M:=fQ [(ky,HS l R E (Hk k))],F0:=F,nt:=nt } (uS R.params.toList (encs x) E) ((kl,obj l (.loop R))::Hk k) { tmps:=(R.params.toList.zip vs).foldl (fun t (x:Nat × Value)=>t.setIfInBounds x.1 x.2) R.tmps,defers:= [] } w F []:= {
  sz:=g1
  env:=g2
  hp:=fun k'=>by
   by_cases e:k'=kl
   ·subst e;rw[hkl'];exact h4
   ·rw[hkk k' e];exact h1 k'
  hF:=fun k' b hb=>hH.hF ky b (hfl b (hf k' b hb))
  hd:=fun k' k'' b hne hb hb'=>by
   by_cases e:k'=kl
   ·subst e
    rw[hkl'] at hb;rw[hkk k'' (Ne.symm hne)] at hb'
    have hb:b=l:=hb
    subst hb;exact h3 k'' hb'
   ·by_cases e':k''=kl
    ·subst e'
     rw[hkl'] at hb';rw[hkk k' e] at hb
     have hb':b=l:=hb'
     subst hb';exact h3 k' hb
    ·rw[hkk k' e] at hb;rw[hkk k'' e'] at hb'
     exact h2 k' k'' b hne hb hb'
  hN:=fun k' b hb=>⟨hH.hN ky b (hfl b (hf k' b hb)),.inr ⟨ky,hfl b (hf k' b hb)⟩⟩
  Fb:=fun b hb=>⟨hFb b hb,.inl hb⟩
  F0:=fun _ h=>h
  Ns:=Nat.le_refl _
  fr:=fun _ _ _=>rfl
  os:=rfl
  tp:=rfl
  out:=rfl
  df:=rfl
  dn:=List.nodup_nil
  dD:=fun D hD=>by simp at hD }
 rw[hfold]
 refine wpIn_mono (hbody i k x hG hx w (fQ [(ky,HS l R E (Hk k))]) F _ _ ⟨F,[],hsim⟩) (fun e a1 w1 hq=> ?_)
 cases e with
 |normal=>
  obtain⟨w2,hbr,hb⟩:=hq
  refine⟨w2,hbr,wpIn_mono hb (fun e a2 w3 hq=> ?_)⟩
  have stop:∀(c:Code) (k':κ) (E2:Env),S c k'→Sim { w0:=w,M:=fQ [(ky,HS l R E (Hk k))],F0:=F,nt:=nt } E2 ((kl,obj l (.loop { R with state:= .busy }))::Hk k') a2 w3→
   ∃v w',(Instr.endRound l (some c)).run P w3= .ok v w'∧∃(i_1:Bool × HA) (u:Value) (F':Fz),Ending.returned v= .returned u∧Left w F [(ky,HS l R E (Hk k))] (fun _ (bh:Bool × HA)=>eG ((bh.1=true→YY l R E Hk G (i+1) bh.2)∧(bh.1=false→ZZ l R E Hk S bh.2)) (bl bh.1)) (fun bh=> [(ky,bh.2)]) i_1 u F' w':=by
   intro c k' E2 hS ⟨F2,Ds2,hs2⟩
   have hl:=hs2.hp kl
   rw[bB] at hl
   have hrun:=run_endRound (P:=P) (some c) (show w3.heap[l]?=some (.loop { R with state:= .busy }) from hl)
   refine⟨_,_,hrun,(false,HS l { R with state:= .done,pending:=some c } E (Hk k')),_,F2,rfl,?_⟩
   exact BI (R3:= { R with state:= .done,pending:=some c }) hH hFb hs2 (hkl k') h5 _ ⟨⟨fun h=>(by cases h),fun _=>⟨k',c,hS,rfl⟩⟩,rfl⟩ rfl
  cases e with
  |normal=>
   obtain⟨k',g',E2,F2,Ds2,hs2⟩:=hq
   have hl:=hs2.hp kl
   rw[bB] at hl
   have hrun:=run_endRound (P:=P) none (show w3.heap[l]?=some (.loop { R with state:= .busy }) from hl)
   have heq:({ R with state:= .ready,pending:=none }:Loop)=R:=OD R hs0 hp0
   refine⟨_,_,hrun,(true,HS l R E (Hk k')),_,F2,rfl,?_⟩
   have:=BI (R3:=R) (Ho:=fun(bh:Bool × HA)=> [(ky,bh.2)]) (res:=fun _ (bh:Bool × HA)=>eG ((bh.1=true→YY l R E Hk G (i+1) bh.2)∧(bh.1=false→ZZ l R E Hk S bh.2)) (bl bh.1)) (v:= .bool true) hH hFb hs2 (hkl k') h5 (true,HS l R E (Hk k')) ⟨⟨fun _=>⟨k',g',rfl⟩,fun h=>(by cases h)⟩,rfl⟩ rfl
   simp only [Option.isNone_none,if_true] at*
   rw[heq];exact this
  |ret=>obtain⟨k',g',E2,hs2⟩:=hq;exact stop .ret k' E2 g' hs2
  |exit id=>obtain⟨k',g',E2,hs2⟩:=hq;exact stop (.exit id) k' E2 g' hs2
  |_=>exact hq.elim
 |_=>exact hq.elim
theorem SimF.newD (h:SimF B E H a w F Ds):SimF B E H { a with defers:= { target:= .collected w.heap.size,args:= #[] }::a.defers } (w.alloc (.deferred (some []))) F (w.heap.size::Ds):=
 have h0:=h.grow (w':=w.alloc (.deferred (some []))) (F':=F) (by simp) rfl rfl rfl (fun b hb=>heap_alloc w _ hb) (fun _ h=>h) (fun _ h=> .inl h)
 { h0 with
   df:=by simp[h.df]
   dn:=List.nodup_cons.2 ⟨fun hm=>by
    have:=(Array.getElem?_eq_some_iff.1 (h.dD _ hm).1).1
    omega,h.dn⟩
   dD:=fun D hD=>by
    rcases List.mem_cons.1 hD with rfl|hD
    ·exact⟨jM _ _,fun hF=>by have:=(h.Fb _ hF).1;omega,h.Ns,fun k hk=>by have:=(h.hN k _ hk).1;omega⟩
    ·exact h0.dD D hD }
theorem rfG {κ α:Type} {g:Operand} {ps:Array Tmp} {assign body:Code} {f:FuncId} {cs:List AV} {encs:α→List AV} {xs:List α} (kl:Nat) (Hk:κ→Hp) (G:Nat→κ→Prop) (S:Code→κ→Prop)
 (hg:lkO g E=clo f cs) (hit:ItG B.N P f cs encs xs) (he:Ent P f) (hps:(ps.toList.all fun p=>Nat.blt p B.nt)=true) (hlen:∀x,(encs x).length=ps.size) (hkl:∀k,lkH kl (Hk k)=emp)
 (k0:κ) (g0:G 0 k0) (hH:SubH (Hk k0) H)
 (hbody:∀i k x,G i k→xs[i]?=some x→∀(l:Nat) (R:Loop) (w1:World) (M1 F1:Fz),R.state= .ready→Ct (some l) P (AQ P { w0:=w1,M:=M1,F0:=F1,nt:=B.nt } kl l R Hk (G (i+1)) S body) { w0:=w1,M:=M1,F0:=F1,nt:=B.nt } (uS ps.toList (encs x) E) ((kl,obj l (.loop R))::Hk k) assign)
 (hdone:∀k,G xs.length k→At Q .normal B E (Hk k)) (hret:∀k,S .ret k→At Q .ret B E (Hk k)) (hexit:∀id k,S (.exit id) k→At Q (.exit id) B E (Hk k)) (hother:∀c k,S c k→c= .ret∨∃id,c= .exit id):
 Ct none P Q B E H (.rangeFunc g ps assign body):=fun a w hs0=>by
 obtain⟨F,Ds,hs⟩:=hs0.less (E':=E) (fun _ _ _ _ h=>h) hH.less
 refine wpIn_rangeFunc (fun fn _=> ?_)
 have hD:=hs.newD
 let R:Loop:= { state:= .ready,pending:=none,fn:=fn,tmps:=a.tmps,params:=ps,assign:=assign,body:=body,defers:=w.heap.size }
 have hw1:(w.alloc (.deferred (some []))).heap.size=w.heap.size+1:=by simp
 have hL:=hD.alloc kl (obj (w.heap.size+1) (.loop R)) (.loop R) (fun b hb=>by have hb:b=w.heap.size+1:=hb;omega) (by
  show((w.alloc (.deferred (some []))).alloc (.loop R)).heap[w.heap.size+1]?=some (.loop R)
  rw[←hw1];exact jM _ _)
 have hp:=hL.pack (ky:=0) rfl (hkl k0) (E0:=E) (fun t=>hL.env t)
 have hgv:=hs.opd g
 rw[hg] at hgv
 obtain⟨us,hgv,hus⟩:=hgv
 have hus2:All2 ((w.alloc (.deferred (some []))).alloc (.loop R)) F cs us:=hD.stays _ (hs.stays _ hus)
 have hinv:(invoke (.fn (.func f) us.toArray) #[.func (.yield (w.heap.size+1)) #[] #[]]).run P ((w.alloc (.deferred (some []))).alloc (.loop R))= .ok (.enter f (#[.func (.yield (w.heap.size+1)) #[] #[]]++us.toArray)) ((w.alloc (.deferred (some []))).alloc (.loop R)):=by
  simp only [invoke];exact he.run _ _
 refine⟨w.heap.size+1,_,_,{ target:= .fn (.func f) us.toArray,args:= #[.func (.yield (w.heap.size+1)) #[] #[]] },(w.alloc (.deferred (some []))).alloc (.loop R),f,#[.func (.yield (w.heap.size+1)) #[] #[]]++us.toArray,(w.alloc (.deferred (some []))).alloc (.loop R),run_enterLoop_outer fn a.tmps ps assign body,?_,fun _ _=>trivial,hinv,fun h=>(by simp at h),?_⟩
 ·have hev: #[Operand.const (Value.func (.yield (w.heap.size+1)) #[] #[])].map a.eval= #[Value.func (.yield (w.heap.size+1)) #[] #[]]:=by simp[Act.eval]
  simp only [resolve,hgv,Deferred.ofValue,hev,Sem.run_bind,Sem.run_pure,Result.andThen_ok]
  simp[R]
 have hfn:=hit (.func (.yield (w.heap.size+1)) #[] #[]) (YY (w.heap.size+1) R E Hk G) (ZZ (w.heap.size+1) R E Hk S)
  (fun i h x hY hx=>LH (nt:=B.nt) (kl:=kl) rfl rfl hs.sz (fun p hp'=>by
    have:=(List.all_eq_true.1 hps) p hp'
    simpa using this) hlen hkl (fun i k x hG hx w1 M1 F1=>hbody i k x hG hx _ R w1 M1 F1 rfl) i h x hY hx)
  (HS (w.heap.size+1) R E (Hk k0)) ⟨k0,g0,rfl⟩
 have hc:=hfn _ F (.func (.yield (w.heap.size+1)) #[] #[]::us) hp.Ns ⟨rfl,hus2⟩ (fun b hb=>(hp.Fb b hb).1) ⟨hp.hp,hp.hF,hp.hd,fun k b hb=>(hp.hN k b hb).1⟩
 have hargs: #[Value.func (.yield (w.heap.size+1)) #[] #[]]++us.toArray=(Value.func (.yield (w.heap.size+1)) #[] #[]::us).toArray:=by simp
 rw[hargs]
 refine CallsIn.mono (F:=FW none) ((callsIn_wide (n:=0)).2 hc) (fun e w3 hR=> ?_)
 obtain⟨h',u,F',rfl,hl⟩:=hR
 have hcall:=hp.called (Hi:= [(0,HS (w.heap.size+1) R E (Hk k0))]) ⟨rI,tV⟩ hl
 have hlk:lkH 0 (mQ [(0,h')] [(0,HS (w.heap.size+1) R E (Hk k0))] [(0,HS (w.heap.size+1) R E (Hk k0))])=h':=bB _ _ _
 obtain⟨hYZ,_⟩:=hl.res
 have fin:∀(k:κ) (R3:Loop),h'=HS (w.heap.size+1) R3 E (Hk k)→R3.state≠ .busy→∃w4,(Instr.endLoop (w.heap.size+1)).run P w3= .ok R3.pending w4∧
  Sim B E (Hk k) { a with defers:= [{ target:= .collected w.heap.size,args:= #[] }]++a.defers } w4:=by
  intro k R3 he hb
  have hun:=hcall.unpack (kl:=kl) (by rw[hlk];exact he) (hkl k)
  have hl3:=hun.hp kl
  rw[bB] at hl3
  have hl3:w3.heap[w.heap.size+1]?=some (.loop R3):=hl3
  have hlt:w.heap.size+1<w3.heap.size:=(Array.getElem?_eq_some_iff.1 hl3).1
  refine⟨_,run_endLoop hl3 hb,?_⟩
  have hup:=hun.upd (w':=w3.putObj (w.heap.size+1) (.loop { R3 with state:= .exhausted })) kl (obj (w.heap.size+1) (.loop { R3 with state:= .exhausted })) (by simp) rfl rfl rfl
   (fun b hb' hnf=>World.putObj_heap_other (fun e=>hnf (by rw[bB];exact e))) (fun b hb'=>⟨.inl (by rw[bB];exact hb'),by have hb':b=w.heap.size+1:=hb';subst hb';simpa using hlt⟩) (World.putObj_heap_same hlt)
  refine Sim.less ⟨_,_,hup⟩ (fun _ _ _ _ h=>h) (fun t=> ?_)
  by_cases e:t=kl
  ·subst e;rw[hkl k];exact⟨fun b h=>h.elim,fun _=>trivial⟩
  ·rw[bG _ _ (Ne.symm e),bG _ _ (Ne.symm e)];exact⟨fun _ h=>h,fun h=>h⟩
 rcases hYZ with⟨k,hG,he⟩|⟨k,c,hS,he⟩
 ·obtain⟨w4,hend,hsim⟩:=fin k R he (by simp[R])
  exact⟨none,w4,hend,hdone k hG _ _ hsim⟩
 ·obtain⟨w4,hend,hsim⟩:=fin k _ he (by simp)
  refine⟨some c,w4,hend,?_⟩
  rcases hother c k hS with rfl|⟨id,rfl⟩
  ·exact wpIn_ret (hret k hS _ _ hsim)
  ·exact wpIn_exit (hexit id k hS _ _ hsim)
theorem rf {κ α:Type} {g:Operand} {ps:Array Tmp} {assign body:Code} {f:FuncId} {cs:List AV} {encs:α→List AV} {xs:List α} (kl:Nat) (Hk:κ→Hp) (G:Nat→κ→Prop) (S:Code→κ→Prop)
 (hg:lkO g E=clo f cs) (hit:It P f cs encs xs) (he:Ent P f) (hps:(ps.toList.all fun p=>Nat.blt p B.nt)=true) (hlen:∀x,(encs x).length=ps.size) (hkl:∀k,lkH kl (Hk k)=emp)
 (k0:κ) (g0:G 0 k0) (hH:SubH (Hk k0) H)
 (hbody:∀i k x,G i k→xs[i]?=some x→∀(l:Nat) (R:Loop) (w1:World) (M1 F1:Fz),R.state= .ready→Ct (some l) P (AQ P { w0:=w1,M:=M1,F0:=F1,nt:=B.nt } kl l R Hk (G (i+1)) S body) { w0:=w1,M:=M1,F0:=F1,nt:=B.nt } (uS ps.toList (encs x) E) ((kl,obj l (.loop R))::Hk k) assign)
 (hdone:∀k,G xs.length k→At Q .normal B E (Hk k)) (hret:∀k,S .ret k→At Q .ret B E (Hk k)) (hexit:∀id k,S (.exit id) k→At Q (.exit id) B E (Hk k)) (hother:∀c k,S c k→c= .ret∨∃id,c= .exit id):
 Ct none P Q B E H (.rangeFunc g ps assign body):=
 rfG kl Hk G S hg hit.toG he hps hlen hkl k0 g0 hH hbody hdone hret hexit hother
end
attribute [irreducible] HS
end AL
set_option linter.unusedVariables false
namespace AL
open Go
def upd (β:Nat→Value) (i:Nat) (b:Value):Nat→Value:=fun j=>bif Nat.beq j i then b else β j
def gbk (v:Value):Nat:=match v with
 | .int _ n=>n.toNat
 |_=>0
theorem pY {β:Nat→Value} {i j:Nat} {b:Value} (h:j≠i):upd β i b j=β j:=by
 have:Nat.beq j i=false:=by
  cases hb:Nat.beq j i
  ·rfl
  ·exact absurd (Nat.eq_of_beq_eq_true hb) h
 simp[upd,this]
def lW (d:Option Nat) (φ:AV) (E:Env):Env:=match d with
 |some d=>(d,φ)::E
 |none=>E
def lX (κ:Option Nat) (x:HA) (H:Hp):Hp:=match κ with
 |some κ=>(κ,x)::H
 |none=>H
structure Stp where
 d:Option Nat
 φ:(Nat→Value)→AV
 κ:Option Nat
 x:(Nat→Value)→HA
 kr:List Nat
def xM (H' H:Hp):List Nat→Prop
 | []=>True
 |k::r=>lkH k H'=lkH k H∧xM H' H r
theorem oP {H' H:Hp}:∀{l:List Nat},(∀k∈l,lkH k H'=lkH k H)→xM H' H l
 | [],_=>trivial
 |k::r,h=>⟨h k (by simp),oP (fun y hy=>h y (List.mem_cons_of_mem _ hy))⟩
def PE (β:Nat→Value) (E:Env):List Stp→Env
 | []=>E
 |s::l=>PE β (lW s.d (s.φ β) E) l
def PH (β:Nat→Value) (H:Hp):List Stp→Hp
 | []=>H
 |s::l=>PH β (lX s.κ (s.x β) H) l
theorem xN (d:Nat) (φ:AV) (E:Env):lk d (lW (some d) φ E)=φ:=cR _ _ _
theorem qP {d:Option Nat} {φ:AV} {E:Env} {t:Nat} (h:d≠some t):lk t (lW d φ E)=lk t E:=by
 cases d with
 |none=>rfl
 |some d=>exact bU _ _ (fun e=>h (by rw[e]))
theorem xF (d:Nat) (φ:HA) (E:Hp):lkH d (lX (some d) φ E)=φ:=bB _ _ _
theorem oQ {d:Option Nat} {φ:HA} {E:Hp} {t:Nat} (h:d≠some t):lkH t (lX d φ E)=lkH t E:=by
 cases d with
 |none=>rfl
 |some d=>exact bG _ _ (fun e=>h (by rw[e]))
theorem nW {β:Nat→Value} {t:Nat}:∀{l:List Stp} {E:Env},(∀s∈l,s.d≠some t)→lk t (PE β E l)=lk t E
 | [],_,_=>rfl
 |s::l,E,h=>by
  show lk t (PE β (lW s.d (s.φ β) E) l)=_
  rw[nW (fun y hy=>h y (List.mem_cons_of_mem _ hy)),qP (h s (by simp))]
theorem pQ {β:Nat→Value} {t:Nat}:∀{l:List Stp} {H:Hp},(∀s∈l,s.κ≠some t)→lkH t (PH β H l)=lkH t H
 | [],_,_=>rfl
 |s::l,H,h=>by
  show lkH t (PH β (lX s.κ (s.x β) H) l)=_
  rw[pQ (fun y hy=>h y (List.mem_cons_of_mem _ hy)),oQ (h s (by simp))]
theorem Ap {β:Nat→Value} {t:Nat}:∀{l:List Stp} {E:Env} (i:Nat) (s:Stp),l[i]?=some s→s.d=some t→(∀(j:Nat) (s':Stp),i<j→l[j]?=some s'→s'.d≠some t)→lk t (PE β E l)=s.φ β
 | [],_,i,s,h,_,_=>by simp at h
 |s0::l,E,0,s,h,hd,hl=>by
  simp at h;subst h
  show lk t (PE β (lW s0.d (s0.φ β) E) l)=_
  rw[nW (fun y hy=>by
   obtain⟨j,hj⟩:=List.getElem?_of_mem hy
   exact hl (j+1) y O (by simpa using hj)),hd,xN]
 |s0::l,E,i+1,s,h,hd,hl=>Ap (l:=l) (E:=lW s0.d (s0.φ β) E) i s (by simpa using h) hd (fun j s' hj hs=>hl (j+1) s' O (by simpa using hs))
theorem xO {β:Nat→Value} {t:Nat}:∀{l:List Stp} {H:Hp} (i:Nat) (s:Stp),l[i]?=some s→s.κ=some t→(∀(j:Nat) (s':Stp),i<j→l[j]?=some s'→s'.κ≠some t)→lkH t (PH β H l)=s.x β
 | [],_,i,s,h,_,_=>by simp at h
 |s0::l,H,0,s,h,hd,hl=>by
  simp at h;subst h
  show lkH t (PH β (lX s0.κ (s0.x β) H) l)=_
  rw[pQ (fun y hy=>by
   obtain⟨j,hj⟩:=List.getElem?_of_mem hy
   exact hl (j+1) y O (by simpa using hj)),hd,xF]
 |s0::l,H,i+1,s,h,hd,hl=>xO (l:=l) (H:=lX s0.κ (s0.x β) H) i s (by simpa using h) hd (fun j s' hj hs=>hl (j+1) s' O (by simpa using hs))
def Rt (nh:Nat) (ms:List Nat) (ks:List (Option Nat × List Nat)):Bool:=
 (List.range nh).all fun i=>(List.range nh).all fun j=>Nat.beq i j||match ks[i]?,ks[j]? with
   |some (wi,ri),some (some κ,_)=>(!ri.contains κ&&wi !=some κ)||Nat.testBit (ms.getD i 0) j||Nat.testBit (ms.getD j 0) i
   |_,_=>true
structure LJ (ops:Array Oper) (sts:List Stp):Prop where
 ok:∀(i j:Nat) (si sj:Stp) (κ:Nat),sts[i]?=some si→sts[j]?=some sj→i≠j→sj.κ=some κ→κ∈si.kr∨si.κ=some κ→nT ops i j∨nT ops j i
theorem LK {ops:Array Oper} {nh:Nat} {ms:List Nat} {sts:List Stp} (hm:nD ops ms=true) (hb:xK ops nh) (hl:sts.length=nh) (h:Rt nh ms (sts.map fun s=>(s.κ,s.kr))=true):LJ ops sts:=by
 refine⟨fun i j si sj κ hi hj hne hκ hm'=> ?_⟩
 have hi':i<nh:=by rw[←hl];exact(List.getElem?_eq_some_iff.1 hi).1
 have hj':j<nh:=by rw[←hl];exact(List.getElem?_eq_some_iff.1 hj).1
 have h1:=(List.all_eq_true.1 ((List.all_eq_true.1 h) i (List.mem_range.2 hi'))) j (List.mem_range.2 hj')
 have hne':Nat.beq i j=false:=by
  cases hb:Nat.beq i j
  ·rfl
  ·exact absurd (Nat.eq_of_beq_eq_true hb) hne
 simp only [List.getElem?_map,hi,hj,Option.map_some,hκ,hne',Bool.false_or,Bool.or_eq_true] at h1
 rcases h1 with(h1|h1)|h1
 ·simp only [Bool.and_eq_true,Bool.not_eq_true',bne_iff_ne,ne_eq] at h1
  rcases hm' with h2|h2
  ·have:=h1.1;simp[h2] at this
  ·exact absurd h2 h1.2
 ·exact .inl (nU hm hb.back i (Nat.lt_of_lt_of_le hi' hb.le) j h1)
 ·exact .inr (nU hm hb.back j (Nat.lt_of_lt_of_le hj' hb.le) i h1)
theorem yZ {ops:Array Oper} (hback:∀(i:Nat) (o:Oper),ops[i]?=some o→∀e∈o.after,Region.binds .any e=true→e.on<i) {i j:Nat} (h:nT ops i j):j<i:=by
 induction h with
 |one hw=>
  rename_i i j
  cases ho:ops[i]? with
  |none=>unfold wf at hw;rw[ho] at hw;cases hw
  |some o=>
   obtain⟨e,he,hb,rfl⟩:=rH ho hw
   exact hback i o ho e he hb
 |more hw _ ih=>
  rename_i i m j _
  cases ho:ops[i]? with
  |none=>unfold wf at hw;rw[ho] at hw;cases hw
  |some o=>
   obtain⟨e,he,hb,rfl⟩:=rH ho hw
   have:=hback i o ho e he hb
   omega
theorem OE {ops:Array Oper} {i j:Nat} (h:nT ops i j):∃o,ops[i]?=some o:=by
 cases h with
 |one hw=>cases ho:ops[i]? with
  |none=>unfold wf at hw;rw[ho] at hw;cases hw
  |some o=>exact⟨o,rfl⟩
 |more hw _=>cases ho:ops[i]? with
  |none=>unfold wf at hw;rw[ho] at hw;cases hw
  |some o=>exact⟨o,rfl⟩
section
variable {P:Program} {r:Option Nat} {ops:Array Oper} {Q:Exit→Act→World→Prop} {B:Base}
def Kb (r:Option Nat) (P:Program) (ops:Array Oper) (B:Base) (i:Nat) (o:Oper) (E:(Nat→Value)→Env) (H:(Nat→Value)→Hp) (s:Stp):Prop:=
 o.dst=s.d∧(∀(β β':Nat→Value),(∀j,j=i∨nT ops i j→β j=β' j)→s.φ β=s.φ β'∧s.x β=s.x β')∧
 ∀(β:Nat→Value) (Q:Exit→Act→World→Prop) (E':Env) (H':Hp) (rest:List Oper),(∀x∈o.looksAt ops,lk x E'=lk x (E β))→(∀k∈s.kr,lkH k H'=lkH k (H β))→
  (∀b,St r P ops Q B (lW s.d (s.φ (upd β i b)) E') (lX s.κ (s.x (upd β i b)) H') rest)→St r P ops Q B E' H' (o::rest)
theorem LL {nh:Nat} (hB:xK ops nh) {sts:List Stp} {E:Env} {H:Hp} (hlen:sts.length=nh) (hK:LJ ops sts)
 (hps:∀(i:Nat) (o:Oper),i<nh→ops[i]?=some o→∃s,sts[i]?=some s∧Kb r P ops B i o (fun β=>PE β E (sts.take i)) (fun β=>PH β H (sts.take i)) s)
 (ht:∀β,St r P ops Q B (PE β E sts) (PH β H sts) (ops.toList.drop nh)):∀(fuel c:Nat) (listed:Array Bool) (β:Nat→Value) (E':Env) (H':Hp) (a:Act) (w:World),listed.size=ops.size→fuel+c=ops.size→(listed.toList.countP (· ==true)=c)→
 (∀(j:Nat) (o:Oper),ops[j]?=some o→listed.getD j false=true→∀e∈o.after,Region.binds .any e=true→listed.getD e.on false=true)→(∀j,nh≤j→j<ops.size→listed.getD j true=false)→
 (∀(i d:Nat) (s:Stp),listed.getD i false=true→sts[i]?=some s→s.d=some d→lk d E'=s.φ β)→(∀(x:Nat),(∀(i:Nat) (s:Stp),listed.getD i false=true→sts[i]?=some s→s.d≠some x)→lk x E'=lk x E)→
 (∀(i κ:Nat) (s:Stp),listed.getD i false=true→sts[i]?=some s→s.κ=some κ→(∀(j:Nat) (s':Stp),listed.getD j false=true→sts[j]?=some s'→s'.κ=some κ→j≤i)→lkH κ H'=s.x β)→
 (∀(κ:Nat),(∀(i:Nat) (s:Stp),listed.getD i false=true→sts[i]?=some s→s.κ≠some κ)→lkH κ H'=lkH κ H)→Sim B E' H' a w→
 wpAnyIn (FW r) 0 P .any ops Q fuel listed a w:=by
 have hdst:∀(i:Nat) (s:Stp),sts[i]?=some s→∃o,ops[i]?=some o∧o.dst=s.d∧i<nh:=fun i s hi=>by
  have hlt:i<nh:=by rw[←hlen];exact(List.getElem?_eq_some_iff.1 hi).1
  have hlt':i<ops.size:=Nat.lt_of_lt_of_le hlt hB.le
  obtain⟨s',h1,h2⟩:=hps i ops[i] hlt (by simp[hlt'])
  rw[hi] at h1;simp at h1;subst h1
  exact⟨ops[i],by simp[hlt'],h2.1,hlt⟩
 have huniq:∀(i j:Nat) (d:Nat) (si sj:Stp),sts[i]?=some si→sts[j]?=some sj→si.d=some d→sj.d=some d→i=j:=fun i j d si sj hi hj hdi hdj=>by
  obtain⟨oi,h1,h2,hli⟩:=hdst i si hi
  obtain⟨oj,h3,h4,hlj⟩:=hdst j sj hj
  refine Classical.byContradiction fun hne=> ?_
  exact hB.dst i j oi oj d h1 h3 hli hlj hne (h4.trans hdj) (h2.trans hdi)
 have hend:∀(fuel:Nat) (listed:Array Bool) (β:Nat→Value) (E':Env) (H':Hp) (a:Act) (w:World),listed.size=ops.size→fuel+nh=ops.size→(∀j,j<nh→listed.getD j false=true)→(∀j,nh≤j→j<ops.size→listed.getD j true=false)→
  (∀(i d:Nat) (s:Stp),listed.getD i false=true→sts[i]?=some s→s.d=some d→lk d E'=s.φ β)→(∀(x:Nat),(∀(i:Nat) (s:Stp),listed.getD i false=true→sts[i]?=some s→s.d≠some x)→lk x E'=lk x E)→
  (∀(i κ:Nat) (s:Stp),listed.getD i false=true→sts[i]?=some s→s.κ=some κ→(∀(j:Nat) (s':Stp),listed.getD j false=true→sts[j]?=some s'→s'.κ=some κ→j≤i)→lkH κ H'=s.x β)→
  (∀(κ:Nat),(∀(i:Nat) (s:Stp),listed.getD i false=true→sts[i]?=some s→s.κ≠some κ)→lkH κ H'=lkH κ H)→Sim B E' H' a w→wpAnyIn (FW r) 0 P .any ops Q fuel listed a w:=by
  intro fuel listed β E' H' a w hsz hf hall hut e1 e2 g1 g2 hs
  have hl:∀(i:Nat) (s:Stp),sts[i]?=some s→listed.getD i false=true:=fun i s hi=>hall i (by rw[←hlen];exact(List.getElem?_eq_some_iff.1 hi).1)
  refine qY hB fuel nh listed a w (Nat.le_refl _) hf hsz hall hut (ht β a w (hs.less (fun x {w F v} hp=> ?_) (fun κ=> ?_)))
  ·have:lk x E'=lk x (PE β E sts):=by
    by_cases hx:∃(i:Nat) (s:Stp),sts[i]?=some s∧s.d=some x
    ·obtain⟨i,s,hi,hd⟩:=hx
     rw[e1 i x s (hl i s hi) hi hd,Ap i s hi hd (fun j s' hj hs' hd'=>by have:=huniq i j x s s' hi hs' hd hd';omega)]
    ·rw[e2 x (fun i s _ hi hd=>hx ⟨i,s,hi,hd⟩),nW (fun s hs' hd=>by
      obtain⟨i,hi⟩:=List.getElem?_of_mem hs'
      exact hx ⟨i,s,hi,hd⟩)]
   rw[←this];exact hp
  ·have:lkH κ H'=lkH κ (PH β H sts):=by
    by_cases hx:∃(i:Nat) (s:Stp),sts[i]?=some s∧s.κ=some κ
    ·-- the last writer
     have hmax:∃(i:Nat) (s:Stp),sts[i]?=some s∧s.κ=some κ∧∀(j:Nat) (s':Stp),i<j→sts[j]?=some s'→s'.κ≠some κ:=by
      have:∃m,(∃s:Stp,sts[sts.length- m]?=some s∧s.κ=some κ)∧∀m',(∃s:Stp,sts[sts.length- m']?=some s∧s.κ=some κ)→m≤m':=by
       refine exists_least ?_
       obtain⟨i,s,hi,hκ⟩:=hx
       have hlt:=(List.getElem?_eq_some_iff.1 hi).1
       exact⟨sts.length- i,s,by rw[show sts.length- (sts.length- i)=i by omega];exact hi,hκ⟩
      obtain⟨m,⟨s,hm,hκ⟩,hmin⟩:=this
      refine⟨sts.length- m,s,hm,hκ,fun j s' hj hs' hκ'=> ?_⟩
      have hlt:=(List.getElem?_eq_some_iff.1 hs').1
      have:=hmin (sts.length- j) ⟨s',by rw[show sts.length- (sts.length- j)=j by omega];exact hs',hκ'⟩
      omega
     obtain⟨i,s,hi,hκ,hlast⟩:=hmax
     rw[g1 i κ s (hl i s hi) hi hκ (fun j s' _ hs' hκ'=>by
      rcases Nat.lt_or_ge i j with h|h
      ·exact absurd hκ' (hlast j s' h hs')
      ·exact h),xO i s hi hκ hlast]
    ·rw[g2 κ (fun i s _ hi hd=>hx ⟨i,s,hi,hd⟩),pQ (fun s hs' hd=>by
      obtain⟨i,hi⟩:=List.getElem?_of_mem hs'
      exact hx ⟨i,s,hi,hd⟩)]
   rw[←this];exact⟨fun _ h=>h,fun h=>h⟩
 intro fuel
 induction fuel with
 |zero=>
  intro c listed β E' H' a w hsz hf hc hcl hut e1 e2 g1 g2 hs
  have hall:∀j,j<ops.size→listed.getD j false=true:=fun j hj=>by
   have hl0:listed.toList.length=ops.size:=by simpa using hsz
   have:listed.toList.countP (· ==true)=listed.toList.length:=by rw[hc];omega
   have:=List.countP_eq_length.1 this (listed[j]' O) (by simp)
   simp[hsz,hj] at this ⊢;exact this
  have hnh:nh=ops.size:=by
   rcases Nat.lt_or_ge nh ops.size with h|h
   ·have h3:=hut nh (Nat.le_refl _) h
    have h4:=hall nh h
    simp[hsz,h] at h3 h4
    rw[h3] at h4;cases h4
   ·have:=hB.le;omega
  exact hend 0 listed β E' H' a w hsz O (fun j hj=>hall j O) hut e1 e2 g1 g2 hs
 |succ fuel ih=>
  intro c listed β E' H' a w hsz hf hc hcl hut e1 e2 g1 g2 hs
  by_cases hall:∀j,j<nh→listed.getD j false=true
  ·have hcnt:c=nh:=by
    have hle:=hB.le
    rw[←hc,←List.take_append_drop nh listed.toList,List.countP_append]
    have q1:(listed.toList.take nh).countP (· ==true)=nh:=by
     have:(listed.toList.take nh).length=nh:=by simp;omega
     rw[List.countP_eq_length.2,this]
     intro b hb
     obtain⟨i,hi⟩:=List.getElem?_of_mem hb
     rw[List.getElem?_take] at hi
     split at hi
     ·next hlt=>
      have h3:=hall i hlt
      have:i<listed.size:=by omega
      simp[this] at hi h3
      rw[←hi,h3];rfl
     ·cases hi
    have q2:(listed.toList.drop nh).countP (· ==true)=0:=by
     rw[List.countP_eq_zero]
     intro b hb
     obtain⟨i,hi⟩:=List.getElem?_of_mem hb
     rw[List.getElem?_drop] at hi
     have hlt:nh+i<listed.size:=by have:=(List.getElem?_eq_some_iff.1 hi).1;simpa using this
     have h3:=hut (nh+i) O O
     simp[hlt] at hi h3
     rw[←hi,h3];simp
    omega
   exact hend (fuel+1) listed β E' H' a w hsz O hall hut e1 e2 g1 g2 hs
  ·have hex:∃j,(j<nh∧listed.getD j false=false)∧∀m,(m<nh∧listed.getD m false=false)→j≤m:=by
    refine exists_least (Classical.byContradiction fun hno=>hall (fun j hj=> ?_))
    cases hg:listed.getD j false
    ·exact absurd ⟨j,hj,hg⟩ hno
    ·rfl
   obtain⟨j0,⟨hj0,hj0f⟩,hmin⟩:=hex
   have hnt:∀i,listed.getD i false=false→i<ops.size→listed.getD i true=false:=fun i hi hlt=>by
    simp[hsz,hlt] at hi ⊢;exact hi
   have hj0s:j0<ops.size:=Nat.lt_of_lt_of_le hj0 hB.le
   have hr0:j0∈Region.ready .any ops listed:=mem_ready.2 ⟨hnt j0 hj0f hj0s,ops[j0],by simp[hj0s],fun e he hb=>by
    have hlt:=hB.back j0 ops[j0] (by simp[hj0s]) e he hb
    cases hg:listed.getD e.on false
    ·have:=hmin e.on ⟨O,hg⟩;omega
    ·rfl⟩
   refine⟨fun h0=>(by rw[h0] at hr0;cases hr0),fun i hi=> ?_⟩
   obtain⟨hun,oi,hoi,hafter⟩:=mem_ready.1 hi
   have his:i<ops.size:=(Array.getElem?_eq_some_iff.1 hoi).1
   have hinh:i<nh:=by
    rcases Nat.lt_or_ge i nh with h|h
    ·exact h
    ·have:=lZ hcl (hB.tail i oi hoi h j0 O) oi hoi hafter
     rw[hj0f] at this;cases this
   have hunf:listed.getD i false=false:=by simp[hsz,his] at hun ⊢;exact hun
   obtain⟨s,hpi,hd,hdep,hstep⟩:=hps i oi hinh hoi
   have hbefore:∀j,nT ops i j→listed.getD j false=true:=fun j hp=>lZ hcl hp oi hoi hafter
   have hbehind:∀j,nT ops j i→listed.getD j false=false:=fun j hp=>by
    cases hg:listed.getD j false
    ·rfl
    ·obtain⟨oj,hoj⟩:=OE hp
     have:=lZ hcl hp oj hoj (hcl j oj hoj hg)
     rw[hunf] at this;cases this
   have hlook:∀x∈oi.looksAt ops,lk x E'=lk x (PE β E (sts.take i)):=fun x hx=>by
    by_cases hex:∃(j:Nat) (s':Stp),sts[j]?=some s'∧s'.d=some x
    ·obtain⟨j,s',hj,hdx⟩:=hex
     obtain⟨oj,hoj,hdj,_⟩:=hdst j s' hj
     rcases hB.dep i j oi oj x hoi hoj hinh (hdj.trans hdx) hx with⟨hlt,hw⟩|⟨hlt,hw⟩
     ·have hl:listed.getD j false=true:=hbefore j (.one hw)
      rw[e1 j x s' hl hj hdx]
      have hjt:(sts.take i)[j]?=some s':=by rw[List.getElem?_take,if_pos hlt];exact hj
      exact(Ap j s' hjt hdx (fun k s'' hk hs'' hd''=>by
       rw[List.getElem?_take] at hs''
       split at hs''
       ·have:=huniq j k x s' s'' hj hs'' hdx hd'';omega
       ·cases hs'')).symm
     ·have hjn:=hbehind j (.one hw)
      rw[e2 x (fun k s'' hk hpk hd''=>by
       have:=huniq k j x s'' s' hpk hj hd'' hdx
       subst this;rw[hjn] at hk;cases hk)]
      exact(nW (fun s'' hs'' hd''=>by
       obtain⟨k,hk⟩:=List.getElem?_of_mem hs''
       rw[List.getElem?_take] at hk
       split at hk
       ·next hki=>
        have:=huniq k j x s'' s' hk hj hd'' hdx
        omega
       ·cases hk)).symm
    ·rw[e2 x (fun k s'' _ hpk hd''=>hex ⟨k,s'',hpk,hd''⟩)]
     exact(nW (fun s'' hs'' hd''=>by
      obtain⟨k,hk⟩:=List.getElem?_of_mem hs''
      rw[List.getElem?_take] at hk
      split at hk
      ·exact hex ⟨k,s'',hk,hd''⟩
      ·cases hk)).symm
   have hkr:∀κ∈s.kr,lkH κ H'=lkH κ (PH β H (sts.take i)):=fun κ hκ=>by
    have hw:∀(j:Nat) (s':Stp),sts[j]?=some s'→s'.κ=some κ→j≠i→(listed.getD j false=true↔j<i):=fun j s' hj hκ' hne=>by
     rcases hK.ok i j s s' κ hpi hj (Ne.symm hne) hκ' (.inl hκ) with hp|hp
     ·exact⟨fun _=>yZ hB.back hp,fun _=>hbefore j hp⟩
     ·have h1:=yZ hB.back hp
      exact⟨fun h=>(by rw[hbehind j hp] at h;cases h),fun h=>by omega⟩
    by_cases hex:∃(j:Nat) (s':Stp),sts[j]?=some s'∧s'.κ=some κ∧j<i
    ·have hmax:∃(j:Nat) (s':Stp),sts[j]?=some s'∧s'.κ=some κ∧j<i∧∀(k:Nat) (s'':Stp),j<k→k<i→sts[k]?=some s''→s''.κ≠some κ:=by
      have:∃m,(m≤i∧1≤m∧∃s':Stp,sts[i- m]?=some s'∧s'.κ=some κ)∧∀m',(m'≤i∧1≤m'∧∃s':Stp,sts[i- m']?=some s'∧s'.κ=some κ)→m≤m':=by
       refine exists_least ?_
       obtain⟨j,s',hj,hκ',hlt⟩:=hex
       exact⟨i- j,O,O,s',by rw[show i- (i- j)=j by omega];exact hj,hκ'⟩
      obtain⟨m,⟨hm1,hm2,s',hm,hκ'⟩,hmn⟩:=this
      refine⟨i- m,s',hm,hκ',O,fun k s'' hk hki hs'' hκ''=> ?_⟩
      have:=hmn (i- k) ⟨O,O,s'',by rw[show i- (i- k)=k by omega];exact hs'',hκ''⟩
      omega
     obtain⟨j,s',hj,hκ',hji,hlast⟩:=hmax
     have hl:=(hw j s' hj hκ' O).2 hji
     rw[g1 j κ s' hl hj hκ' (fun k s'' hk hs'' hκ''=>by
      rcases Nat.lt_or_ge j k with h|h
      ·by_cases e:k=i
       ·subst e;rw[hunf] at hk;cases hk
       ·have:=(hw k s'' hs'' hκ'' e).1 hk
        exact absurd hκ'' (hlast k s'' h this hs'')
      ·exact h)]
     have hjt:(sts.take i)[j]?=some s':=by rw[List.getElem?_take,if_pos hji];exact hj
     exact(xO j s' hjt hκ' (fun k s'' hk hs'' hκ''=>by
      rw[List.getElem?_take] at hs''
      split at hs''
      ·next hki=>exact hlast k s'' hk hki hs'' hκ''
      ·cases hs'')).symm
    ·rw[g2 κ (fun k s'' hk hs'' hκ''=>by
      by_cases e:k=i
      ·subst e;rw[hunf] at hk;cases hk
      ·exact hex ⟨k,s'',hs'',hκ'',(hw k s'' hs'' hκ'' e).1 hk⟩)]
     exact(pQ (fun s'' hs'' hκ''=>by
      obtain⟨k,hk⟩:=List.getElem?_of_mem hs''
      rw[List.getElem?_take] at hk
      split at hk
      ·next hki=>exact hex ⟨k,s'',hk,hκ'',hki⟩
      ·cases hk)).symm
   refine FJ hoi (fun Q' hQ'=>hstep β Q' E' H' [] hlook hkr (fun b a' w' hs'=>hQ' a' w' ?_) a w hs)
   have hsame:∀(j:Nat) (s':Stp),listed.getD j false=true→sts[j]?=some s'→s'.φ (upd β i b)=s'.φ β∧s'.x (upd β i b)=s'.x β:=fun j s' hj hs'=>by
    obtain⟨oj,hoj,_,hjn⟩:=hdst j s' hs'
    obtain⟨s'',h1,h2⟩:=hps j oj hjn hoj
    rw[hs'] at h1;simp at h1;subst h1
    refine h2.2.1 _ _ (fun k hk=>pY (fun e=> ?_))
    subst e
    rcases hk with rfl|hp
    ·rw[hunf] at hj;cases hj
    ·rw[hbehind j hp] at hj;cases hj
   have hlj:∀j,(listed.setIfInBounds i true).getD j false=true→j=i∨listed.getD j false=true:=fun j hj=>by
    by_cases e:i=j
    ·exact .inl e.symm
    ·rw[getD_set_ne _ e] at hj;exact .inr hj
   refine ih (c+1) (listed.setIfInBounds i true) (upd β i b) _ _ a' w' (by simpa using hsz) O ?_ (fun j o ho hl e he hb=> ?_) (fun j hj hj'=>by rw[getD_set_ne _ O];exact hut j hj hj')
    (fun k d' s' hk hpk hd'=> ?_) (fun x hx=> ?_) (fun k κ s' hk hpk hκ hm=> ?_) (fun κ hκ=> ?_) hs'
   ·rw[Array.toList_setIfInBounds]
    have hfi:listed.toList[i]?=some false:=by
     have h9:i<listed.size:=by omega
     simp[h9] at hunf ⊢;exact hunf
    rw[nV _ _ hfi,hc]
   ·rcases hlj j hl with e'|hl'
    ·subst e'
     have:o=oi:=Option.some.inj (ho.symm.trans hoi)
     subst this
     exact getD_set_true (hafter e he hb)
    ·exact getD_set_true (hcl j o ho hl' e he hb)
   ·rcases hlj k hk with e'|hl'
    ·subst e'
     rw[hpi] at hpk;simp at hpk;subst hpk
     rw[hd',xN]
    ·have hne:s.d≠some d':=fun e=>by
      have:=huniq i k d' s s' hpi hpk e hd'
      subst this;rw[hunf] at hl';cases hl'
     rw[qP hne,e1 k d' s' hl' hpk hd',(hsame k s' hl' hpk).1]
   ·have hne:s.d≠some x:=hx i s (by simp[hsz,his]) hpi
    rw[qP hne]
    exact e2 x (fun k s' hk hpk=>hx k s' (getD_set_true hk) hpk)
   ·rcases hlj k hk with e'|hl'
    ·subst e'
     rw[hpi] at hpk;simp at hpk;subst hpk
     rw[hκ,xF]
    ·have hne:s.κ≠some κ:=fun e=>by
      have h1:=hm i s (by simp[hsz,his]) hpi e
      have hki:k≠i:=fun e'=>by subst e';rw[hunf] at hl';cases hl'
      rcases hK.ok i k s s' κ hpi hpk (Ne.symm hki) hκ (.inr e) with hp|hp
      ·have:=yZ hB.back hp;omega
      ·rw[hbehind k hp] at hl';cases hl'
     rw[oQ hne,(hsame k s' hl' hpk).2]
     exact g1 k κ s' hl' hpk hκ (fun j s'' hj hs'' hκ''=>hm j s'' (getD_set_true hj) hs'' hκ'')
   ·have hne:s.κ≠some κ:=hκ i s (by simp[hsz,his]) hpi
    rw[oQ hne]
    exact g2 κ (fun k s' hk hpk=>hκ k s' (getD_set_true hk) hpk)
theorem Ib {nh:Nat} {ms:List Nat} (h:yY ops nh ms=true):nD ops ms=true:=by
 unfold yY at h
 simp only [Bool.and_eq_true] at h
 exact h.1.1
def jI (r:Option Nat) (P:Program) (ops:Array Oper) (B:Base) (ms:List Nat) (i:Nat) (E:(Nat→Value)→Env) (H:(Nat→Value)→Hp) (l:List Oper) (ks:List (Option Nat × List Nat)) (K:((Nat→Value)→Env)→((Nat→Value)→Hp)→Prop):Prop:=
 nD ops ms=true→(∀(i:Nat) (o:Oper),ops[i]?=some o→∀e∈o.after,Region.binds .any e=true→e.on<i)→(∀(j:Nat) (o:Oper),l[j]?=some o→i+j<ops.size)→
 ∃sts:List Stp,sts.length=l.length∧(sts.map fun s=>(s.κ,s.kr))=ks∧(∀(j:Nat) (o:Oper),l[j]?=some o→∃s,sts[j]?=some s∧Kb r P ops B (i+j) o (fun β=>PE β (E β) (sts.take j)) (fun β=>PH β (H β) (sts.take j)) s)∧K (fun β=>PE β (E β) sts) (fun β=>PH β (H β) sts)
variable {ms:List Nat} {i:Nat} {E:(Nat→Value)→Env} {H:(Nat→Value)→Hp} {l:List Oper} {ks:List (Option Nat × List Nat)} {K:((Nat→Value)→Env)→((Nat→Value)→Hp)→Prop}
theorem pnH (k:K E H):jI r P ops B ms i E H [] [] K:=fun _ _ _=>⟨[],rfl,rfl,fun j o h=>by simp at h,k⟩
theorem shH {o:Oper} (s:Stp) (h:nD ops ms=true→(∀(i:Nat) (o:Oper),ops[i]?=some o→∀e∈o.after,Region.binds .any e=true→e.on<i)→i<ops.size→Kb r P ops B i o E H s)
 (k:jI r P ops B ms (i+1) (fun β=>lW s.d (s.φ β) (E β)) (fun β=>lX s.κ (s.x β) (H β)) l ks K):jI r P ops B ms i E H (o::l) ((s.κ,s.kr)::ks) K:=fun hm hb hl=>by
 obtain⟨sts,h1,h2,h3,h4⟩:=k hm hb (fun j o hj=>by have:=hl (j+1) o (by simpa using hj);omega)
 refine⟨s::sts,by simp[h1],by simp[h2],fun j o' hj=> ?_,h4⟩
 cases j with
 |zero=>simp at hj;subst hj;exact⟨s,rfl,h hm hb (by have:=hl 0 o rfl;simpa using this)⟩
 |succ j=>
  obtain⟨s',h5,h6⟩:=h3 j o' (by simpa using hj)
  refine⟨s',by simpa using h5,?_⟩
  rw[show i+(j+1)=i+1+j by omega]
  exact h6
theorem BJ (hm:nD ops ms=true) (hb:∀(i:Nat) (o:Oper),ops[i]?=some o→∀e∈o.after,Region.binds .any e=true→e.on<i) (hi:i<ops.size) {β β':Nat→Value} (h:∀j,j=i∨nT ops i j→β j=β' j):∀j,Nat.testBit (ms.getD i 0) j=true→β j=β' j:=
 fun j hj=>h j (.inr (nU hm hb i hi j hj))
theorem zA (hb:∀(i:Nat) (o:Oper),ops[i]?=some o→∀e∈o.after,Region.binds .any e=true→e.on<i) (hm:nD ops ms=true) (hi:i<ops.size) {j:Nat} (hj:Nat.testBit (ms.getD i 0) j=true):j≠i:=fun e=>by
 have:=yZ hb (nU hm hb i hi j hj)
 omega
theorem stv {o:Oper} {d:Nat} (φ:(Nat→Value)→AV) (kr:List Nat) (hd:o.dst=some d) (hdep:∀β β':Nat→Value,(∀j,Nat.testBit (ms.getD i 0) j=true→β j=β' j)→φ β=φ β')
 (h:∀(β:Nat→Value) (Q:Exit→Act→World→Prop) (E':Env) (H':Hp) (rest:List Oper),Agr E' (E β) (o.looksAt ops)→xM H' (H β) kr→St r P ops Q B ((d,φ β)::E') H' rest→St r P ops Q B E' H' (o::rest))
 (k:jI r P ops B ms (i+1) (fun β=>(d,φ β)::E β) H l ks K):jI r P ops B ms i E H (o::l) ((none,kr)::ks) K:=
 shH ⟨some d,φ,none,fun _=>emp,kr⟩ (fun hm hb hi=>⟨hd,fun β β' hj=>⟨hdep β β' (BJ hm hb hi hj),rfl⟩,fun β Q E' H' rest hl hk kk=>h β Q E' H' rest (jY hl) (oP hk) (by
  have:=kk (β i)
  have e:φ (upd β i (β i))=φ β:=hdep _ _ (fun j hj=>pY (zA hb hm hi hj))
  simp only [lW,lX] at this
  rw[e] at this
  exact this)⟩) k
theorem stw {o:Oper} (key:Nat) (x:(Nat→Value)→HA) (kr:List Nat) (hd:o.dst=none) (hdep:∀β β':Nat→Value,(∀j,Nat.testBit (ms.getD i 0) j=true→β j=β' j)→x β=x β')
 (h:∀(β:Nat→Value) (Q:Exit→Act→World→Prop) (E':Env) (H':Hp) (rest:List Oper),Agr E' (E β) (o.looksAt ops)→xM H' (H β) kr→St r P ops Q B E' ((key,x β)::H') rest→St r P ops Q B E' H' (o::rest))
 (k:jI r P ops B ms (i+1) E (fun β=>(key,x β)::H β) l ks K):jI r P ops B ms i E H (o::l) ((some key,kr)::ks) K:=
 shH ⟨none,fun _=>any,some key,x,kr⟩ (fun hm hb hi=>⟨hd,fun β β' hj=>⟨rfl,hdep β β' (BJ hm hb hi hj)⟩,fun β Q E' H' rest hl hk kk=>h β Q E' H' rest (jY hl) (oP hk) (by
  have:=kk (β i)
  have e:x (upd β i (β i))=x β:=hdep _ _ (fun j hj=>pY (zA hb hm hi hj))
  simp only [lW,lX] at this
  rw[e] at this
  exact this)⟩) k
theorem stb {o:Oper} {d:Nat} (key:Nat) (φ:(Nat→Value)→AV) (x:(Nat→Value)→HA) (kr:List Nat) (hd:o.dst=some d) (hdφ:∀β β':Nat→Value,(∀j,Nat.testBit (ms.getD i 0) j=true→β j=β' j)→φ β=φ β') (hdx:∀β β':Nat→Value,(∀j,Nat.testBit (ms.getD i 0) j=true→β j=β' j)→x β=x β')
 (h:∀(β:Nat→Value) (Q:Exit→Act→World→Prop) (E':Env) (H':Hp) (rest:List Oper),Agr E' (E β) (o.looksAt ops)→xM H' (H β) kr→St r P ops Q B ((d,φ β)::E') ((key,x β)::H') rest→St r P ops Q B E' H' (o::rest))
 (k:jI r P ops B ms (i+1) (fun β=>(d,φ β)::E β) (fun β=>(key,x β)::H β) l ks K):jI r P ops B ms i E H (o::l) ((some key,kr)::ks) K:=
 shH ⟨some d,φ,some key,x,kr⟩ (fun hm hb hi=>⟨hd,fun β β' hj=>⟨hdφ β β' (BJ hm hb hi hj),hdx β β' (BJ hm hb hi hj)⟩,fun β Q E' H' rest hl hk kk=>h β Q E' H' rest (jY hl) (oP hk) (by
  have:=kk (β i)
  have e:x (upd β i (β i))=x β:=hdx _ _ (fun j hj=>pY (zA hb hm hi hj))
  have e':φ (upd β i (β i))=φ β:=hdφ _ _ (fun j hj=>pY (zA hb hm hi hj))
  simp only [lW,lX] at this
  rw[e,e'] at this
  exact this)⟩) k
theorem sta {T d ty:Nat} {pos:String} {af:Array Edge} {z:List Value} {zs:List AV} (key:Nat) (hz:dM P T z) (hx:pP zs z)
 (k:jI r P ops B ms (i+1) (fun β=>(d,ptr key (gbk (β i)) 0)::E β) (fun β=>(key,cell (gbk (β i)) zs)::H β) l ks K) (hn:Nat.blt d B.nt=true:=by rfl):
 jI r P ops B ms i E H ({ dst:=some d,op:= .alloc T,type:=ty,pos:=pos,after:=af,guard:=none }::l) ((some key,[])::ks) K:=
 shH ⟨some d,fun β=>ptr key (gbk (β i)) 0,some key,fun β=>cell (gbk (β i)) zs,[]⟩ (fun hm hb hi=>⟨rfl,fun β β' hj=>by
  have e:=hj i (.inl rfl)
  simp only [e,and_self],fun β Q E' H' rest _ _ kk=>al (key:=key) hz hx (fun b=>by
  have:=kk (.int .i64 (b:Int))
  have e:upd β i (.int .i64 (b:Int)) i= .int .i64 (b:Int):=by simp[upd]
  have e':gbk (.int .i64 (b:Int))=b:=by simp[gbk]
  simp only [lW,lX,e,e'] at this
  exact this) hn⟩) k
theorem stm {α:Type} {T d ty e n by_ m:Nat} {pos:String} {af:Array Edge} {z:List Value} {enc:α→List AV} {y:α} {lo co:Operand} (key:Nat) (hT:dW P T e n by_ z) (hy:pP (enc y) z) (hb:m*by_≤aN) (hm:m≤aN)
 (h:∀(β:Nat→Value) (E':Env),Agr E' (E β) (({ dst:=some d,op:= .makeSlice T lo co,type:=ty,pos:=pos,after:=af,guard:=none }:Oper).looksAt ops)→lkO lo E'=int (m:Int)∧lkO co E'=int (m:Int))
 (k:jI r P ops B ms (i+1) (fun β=>(d,osl key (.slice (some ⟨gbk (β i),0,none⟩) m m))::E β) (fun β=>(key,own (.slice (some ⟨gbk (β i),0,none⟩) m m) e n enc (List.replicate m y))::H β) l ks K) (hn:Nat.blt d B.nt=true:=by rfl):
 jI r P ops B ms i E H ({ dst:=some d,op:= .makeSlice T lo co,type:=ty,pos:=pos,after:=af,guard:=none }::l) ((some key,[])::ks) K:=
 shH ⟨some d,fun β=>osl key (.slice (some ⟨gbk (β i),0,none⟩) m m),some key,fun β=>own (.slice (some ⟨gbk (β i),0,none⟩) m m) e n enc (List.replicate m y),[]⟩ (fun hmm hbb hi=>⟨rfl,fun β β' hj=>by
  have e:=hj i (.inl rfl)
  simp only [e,and_self],fun β Q E' H' rest hl _ kk=>mkB (key:=key) (h β E' (jY hl)).1 (h β E' (jY hl)).2 hT hy hb hm (fun b=>by
  have:=kk (.int .i64 (b:Int))
  have e:upd β i (.int .i64 (b:Int)) i= .int .i64 (b:Int):=by simp[upd]
  have e':gbk (.int .i64 (b:Int))=b:=by simp[gbk]
  simp only [lW,lX,e,e'] at this
  exact this) hn⟩) k
theorem stc {α:Type} {o:Oper} {d e n:Nat} {enc:α→List AV} {xs:List α} (key:Nat) (kr:List Nat) (hd:o.dst=some d)
 (h:∀(β:Nat→Value) (Q:Exit→Act→World→Prop) (E':Env) (H':Hp) (rest:List Oper),Agr E' (E β) (o.looksAt ops)→xM H' (H β) kr→(∀v,St r P ops Q B ((d,osl key v)::E') ((key,own v e n enc xs)::H') rest)→St r P ops Q B E' H' (o::rest))
 (k:jI r P ops B ms (i+1) (fun β=>(d,osl key (sv (β i)))::E β) (fun β=>(key,own (sv (β i)) e n enc xs)::H β) l ks K):jI r P ops B ms i E H (o::l) ((some key,kr)::ks) K:=
 shH ⟨some d,fun β=>osl key (sv (β i)),some key,fun β=>own (sv (β i)) e n enc xs,kr⟩ (fun hm hb hi=>⟨hd,fun β β' hj=>by
  have e:=hj i (.inl rfl)
  simp only [e,and_self],fun β Q E' H' rest hl hk kk=>h β Q E' H' rest (jY hl) (oP hk) (fun v=>by
  have:=kk v
  have e:upd β i v i=v:=by simp[upd]
  simp only [lW,lX,e] at this
  intro a w hs
  obtain⟨F,Ds,hs'⟩:=hs
  have hp:=hs'.hp key
  rw[bB] at hp
  have hv:=JZ hp
  rw[hv] at this
  exact this a w ⟨F,Ds,hs'⟩)⟩) k
theorem drH {id nh:Nat} {E:Env} {H:Hp} (ms:List Nat) (ks:List (Option Nat × List Nat)) {l:List Oper} (hm:P.follows .mixedOrders=true) (hB:yY l.toArray nh ms=true) (hk:Rt nh ms ks=true)
 (hpt:jI r P l.toArray B ms 0 (fun _=>E) (fun _=>H) (l.take nh) ks (fun Ef Hf=> ∀β,St r P l.toArray Q B (Ef β) (Hf β) (l.drop nh))):Ct r P Q B E H (.region id l.toArray true):=fun a w hs=>by
 have hok:=Eb hB
 have hmo:=Ib hB
 have hnl:nh≤l.length:=by simpa using hok.le
 obtain⟨sts,h1,h2,h3,h4⟩:=hpt hmo hok.back (fun j o hj=>by
  have:=(List.getElem?_eq_some_iff.1 hj).1
  simp at this ⊢;omega)
 have hlen:sts.length=nh:=by rw[h1];simp;omega
 have hK:=LK (sts:=sts) hmo hok hlen (by rw[h2];exact hk)
 refine wpIn_region_any hm ?_
 refine LL hok hlen hK (fun i o hi ho=>by
  obtain⟨s,g1,g2⟩:=h3 i o (by rw[List.getElem?_take,if_pos hi];simpa using ho)
  rw[Nat.zero_add] at g2
  exact⟨s,g1,g2⟩) (by simpa using h4) l.toArray.size 0 _ (fun _=>Value.int .i64 0) E H a _ (by simp) (by simp) ?_ (fun j o ho hl=> ?_) (fun j hj hj'=> ?_) (fun i d s hl=> ?_) (fun x _=>rfl) (fun i κ s hl=> ?_) (fun κ _=>rfl) (hs.drew _)
 ·simp[List.countP_replicate]
 ·rw[fL] at hl;cases hl
 ·simp at hj';simp[hj']
 ·rw[fL] at hl;cases hl
 ·rw[fL] at hl;cases hl
end
end AL
