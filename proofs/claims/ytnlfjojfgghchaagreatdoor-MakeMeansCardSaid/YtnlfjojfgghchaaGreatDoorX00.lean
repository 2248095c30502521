/- The abstract logic. Own texts of this claim, packed: MkALCore, MkALOps, MkALOps2, MkALOps3, MkALOps4, MkALCtl, MkALOps5, MkALFun, MkALMap, MkALOps6, MkALOps7, MkALOps8, MkALOps9, MkALNest. -/
import Derived.CallsIn
import Derived.TacticsIn
import Derived.RangeFuncLeaves
import Derived.Laws.Sem
import Derived.Laws.Cells
import Derived.Laws.World
import Derived.Laws.AppendOwn
import Derived.Below
import Derived.KernelRfl
import Derived.IntWalk
import Derived.Laws.Small
import Derived.Laws.Strings
import Derived.Laws.Cover3
import Derived.Laws.CopyRow
import Derived.Laws.OwnMore
import Derived.Laws.MakeOwn
import Derived.Deep.LoopGhost
import Derived.Great.FillDense
import Derived.Great.BuildSlice
import Derived.Maps.Keyed
import Derived.DeepKeys4
import Derived.RangeFuncRecord
import Derived.Laws.IdiomCopy
set_option linter.all false
namespace AL
theorem O {p:Prop} (h:p:=by omega):p:=h
theorem aS {p:Prop} (h:p:=by assumption):p:=h
theorem eX {p:Prop} (h:p:=by first|exact .inr rfl|exact .inl rfl):p:=h
theorem rI {α:Sort _} {β γ:Type} {a:α} {p:β→γ→Prop}:a=a∧∀{w:β} {F:γ},p w F→p w F:=⟨rfl,id⟩
theorem tV:True:=True.intro
theorem J {α:Sort _} {a:α}:a=a:=rfl
theorem bH {p:Prop} (h:p:=by intros;rfl):p:=h
theorem dO {p:Prop} (h:p:=by first|omega|(dsimp only;omega)):p:=h
theorem cA1 {α β:Type} (f:α→β) {a b:α} (h:a=b):f a=f b:=congrArg f h
theorem cA2 {α β γ:Type} (f:α→β→γ) {a b:α} {c d:β} (h:a=b) (g:c=d):f a c=f b d:=by rw[h,g]
theorem cA3 {α β γ δ:Type} (f:α→β→γ→δ) {a b:α} {c d:β} {e i:γ} (h:a=b) (g:c=d) (k:e=i):f a c e=f b d i:=by rw[h,g,k]
end AL
namespace AL
open Go
abbrev Fz:=Nat→Prop
structure AV where
 p:World→Fz→Value→Prop
 st:∀{w:World} {F:Fz} {w':World} {F':Fz} {v:Value},(∀b,F b→F' b)→(∀b,F b→w'.heap[b]?=w.heap[b]?)→p w F v→p w' F' v
def All2 (w:World) (F:Fz):List AV→List Value→Prop
 | [],[]=>True
 |φ::cs,v::vs=>φ.p w F v∧All2 w F cs vs
 |_,_=>False
theorem All2.st {w w':World} {F F':Fz} (hF:∀b,F b→F' b) (hw:∀b,F b→w'.heap[b]?=w.heap[b]?):∀{cs:List AV} {vs:List Value},All2 w F cs vs→All2 w' F' cs vs
 | [],[],_=>trivial
 |φ::_,_::_,h=>⟨φ.st hF hw h.1,All2.st hF hw h.2⟩
 | [],_::_,h=>h.elim
 |_::_,[],h=>h.elim
theorem All2.length {w:World} {F:Fz}:∀{cs:List AV} {vs:List Value},All2 w F cs vs→vs.length=cs.length
 | [],[],_=>rfl
 |_::_,_::_,h=>by simp[All2.length h.2]
 | [],_::_,h=>h.elim
 |_::_,[],h=>h.elim
theorem All2.get {w:World} {F:Fz}:∀{cs:List AV} {vs:List Value},All2 w F cs vs→∀{i:Nat} {φ:AV},cs[i]?=some φ→∃v,vs[i]?=some v∧φ.p w F v
 | [],[],_,i,φ,h=>by simp at h
 |c::cs,v::vs,h,0,φ,he=>by simp at he;subst he;exact⟨v,rfl,h.1⟩
 |c::cs,v::vs,h,i+1,φ,he=>by
  obtain⟨u,hu,hp⟩:=All2.get h.2 (i:=i) (φ:=φ) (by simpa using he)
  exact⟨u,by simpa using hu,hp⟩
 | [],_::_,h,_,_,_=>h.elim
 |_::_,[],h,_,_,_=>h.elim
theorem All2.drop {w:World} {F:Fz}:∀(n:Nat) {cs:List AV} {vs:List Value},All2 w F cs vs→All2 w F (cs.drop n) (vs.drop n)
 |0,_,_,h=>h
 |n+1,[],[],h=>by simpa using h
 |n+1,_::_,_::_,h=>by simpa using All2.drop n h.2
 |_+1,[],_::_,h=>h.elim
 |_+1,_::_,[],h=>h.elim
theorem All2.take {w:World} {F:Fz}:∀(n:Nat) {cs:List AV} {vs:List Value},All2 w F cs vs→All2 w F (cs.take n) (vs.take n)
 |0,cs,vs,_=>by simp[All2]
 |n+1,[],[],h=>by simpa using h
 |n+1,_::_,_::_,h=>by simpa [All2] using⟨h.1,All2.take n h.2⟩
 |_+1,[],_::_,h=>h.elim
 |_+1,_::_,[],h=>h.elim
theorem All2.append {w:World} {F:Fz}:∀{cs cs':List AV} {vs vs':List Value},All2 w F cs vs→All2 w F cs' vs'→All2 w F (cs++cs') (vs++vs')
 | [],_,[],_,_,h'=>by simpa using h'
 |_::_,_,_::_,_,h,h'=>⟨h.1,All2.append h.2 h'⟩
 | [],_,_::_,_,h,_=>h.elim
 |_::_,_,[],_,h,_=>h.elim
theorem All2.set {w:World} {F:Fz}:∀{cs:List AV} {vs:List Value} (i:Nat) {φ:AV} {v:Value},All2 w F cs vs→φ.p w F v→All2 w F (cs.set i φ) (vs.set i v)
 | [],[],_,_,_,_,_=>by simp[All2]
 |_::_,_::_,0,_,_,h,hv=>⟨hv,h.2⟩
 |_::_,_::_,i+1,_,_,h,hv=>⟨h.1,All2.set i h.2 hv⟩
 | [],_::_,_,_,_,h,_=>h.elim
 |_::_,[],_,_,_,h,_=>h.elim
def rdAt (w:World) (b off:Nat) (vs:List Value):Prop:=
 ∃c ty fr,w.heap[b]?=some (.cells c ty fr)∧∀(j:Nat) (v:Value),vs[j]?=some v→c[off+j]?=some v
theorem rdAt.st {w w':World} {b off:Nat} {vs:List Value} (hw:w'.heap[b]?=w.heap[b]?) (h:rdAt w b off vs):rdAt w' b off vs:=by
 obtain⟨c,ty,fr,hc,hv⟩:=h
 exact⟨c,ty,fr,hw.trans hc,hv⟩
theorem rdAt.cell {w:World} {b off:Nat} {vs:List Value} (h:rdAt w b off vs) {j:Nat} {v:Value} (hj:vs[j]?=some v):w.cell? ⟨b,off+j,none⟩=some v:=by
 obtain⟨c,ty,fr,hc,hv⟩:=h
 simp[World.cell?,hc,hv j v hj]
theorem rdAt.drop {w:World} {b off:Nat} {vs:List Value} (h:rdAt w b off vs) (n:Nat):rdAt w b (off+n) (vs.drop n):=by
 obtain⟨c,ty,fr,hc,hv⟩:=h
 exact⟨c,ty,fr,hc,fun j v hj=>by rw[Nat.add_assoc];exact hv (n+j) v (by simpa using hj)⟩
theorem rdAt.take {w:World} {b off:Nat} {vs:List Value} (h:rdAt w b off vs) (n:Nat):rdAt w b off (vs.take n):=by
 obtain⟨c,ty,fr,hc,hv⟩:=h
 refine⟨c,ty,fr,hc,fun j v hj=>hv j v ?_⟩
 rw[List.getElem?_take] at hj
 split at hj
 ·exact hj
 ·simp at hj
def any:AV:=⟨fun _ _ _=>True,fun _ _ _=>trivial⟩
def eqv (x:Value):AV:=⟨fun _ _ v=>v=x,fun _ _ h=>h⟩
def agg (cs:List AV):AV:=⟨fun w F v=> ∃vs:List Value,v= .agg vs.toArray∧All2 w F cs vs,fun hF hw ⟨vs,hv,h⟩=>⟨vs,hv,h.st hF hw⟩⟩
def tup (cs:List AV):AV:=⟨fun w F v=> ∃vs:List Value,v= .tuple vs.toArray∧All2 w F cs vs,fun hF hw ⟨vs,hv,h⟩=>⟨vs,hv,h.st hF hw⟩⟩
def fp (cs:List AV):AV:=
 ⟨fun w F v=> ∃b off vs,v= .pointer (some ⟨b,off,none⟩)∧F b∧rdAt w b off vs∧All2 w F cs vs,
  fun hF hw ⟨b,off,vs,hv,hb,hr,h⟩=>⟨b,off,vs,hv,hF b hb,hr.st (hw b hb),h.st hF hw⟩⟩
def ptr (_k b off:Nat):AV:=⟨fun _ _ v=>v= .pointer (some ⟨b,off,none⟩),fun _ _ h=>h⟩
def aN:Nat:=140737488355328
structure Els {α:Type} (w:World) (F:Fz) (n:Nat) (enc:α→List AV) (xs:List α) (vs:List Value):Prop where
 len:vs.length=xs.length*n
 el:∀(i:Nat) (x:α),xs[i]?=some x→All2 w F (enc x) ((vs.drop (i*n)).take n)
theorem Els.st {α:Type} {w w':World} {F F':Fz} {n:Nat} {enc:α→List AV} {xs:List α} {vs:List Value} (hF:∀b,F b→F' b) (hw:∀b,F b→w'.heap[b]?=w.heap[b]?)
 (h:Els w F n enc xs vs):Els w' F' n enc xs vs:=⟨h.len,fun i x hi=>(h.el i x hi).st hF hw⟩
theorem Els.nil {α:Type} (w:World) (F:Fz) (n:Nat) (enc:α→List AV):Els w F n enc [] []:=⟨by simp,fun i x hi=>by simp at hi⟩
theorem Els.lenD {α:Type} {w:World} {F:Fz} {n:Nat} {enc:α→List AV} {xs:List α} {vs:List Value} (h:Els w F n enc xs vs) {i:Nat} (hi:i<xs.length):((vs.drop (i*n)).take n).length=n:=by
 have h1:(i+1)*n≤xs.length*n:=Nat.mul_le_mul_right n hi
 have h2:=h.len
 rw[Nat.add_mul] at h1
 simp;omega
theorem Els.append {α:Type} {w:World} {F:Fz} {n:Nat} {enc:α→List AV} {xs ys:List α} {vs us:List Value} (h:Els w F n enc xs vs) (h':Els w F n enc ys us):Els w F n enc (xs++ys) (vs++us):=by
 refine⟨by simp[h.len,h'.len,Nat.add_mul],fun i x hi=> ?_⟩
 by_cases hlt:i<xs.length
 ·rw[List.getElem?_append_left hlt] at hi
  have h1:=h.el i x hi
  have h2:(i+1)*n≤xs.length*n:=Nat.mul_le_mul_right n hlt
  have h3:=h.len
  rw[Nat.add_mul] at h2
  rw[List.drop_append_of_le_length O,List.take_append_of_le_length (by simp;omega)]
  exact h1
 ·rw[List.getElem?_append_right O] at hi
  have h1:=h'.el _ x hi
  have h2:i*n=vs.length+(i- xs.length)*n:=by
   rw[h.len,←Nat.add_mul];congr 1;omega
  rw[h2,List.drop_append,List.drop_of_length_le O]
  simpa using h1
theorem Els.one {α:Type} {w:World} {F:Fz} {enc:α→List AV} {x:α} {us:List Value} (h:All2 w F (enc x) us):Els w F us.length enc [x] us:=by
 refine⟨by simp,fun i y hi=> ?_⟩
 cases i with
 |zero=>simp at hi;subst hi;simpa using h
 |succ i=>simp at hi
theorem Els.set {α:Type} {w:World} {F:Fz} {n:Nat} {enc:α→List AV} {xs:List α} {vs us:List Value} (h:Els w F n enc xs vs) {i:Nat} {y:α} (hi:i<xs.length) (hu:us.length=n) (hy:All2 w F (enc y) us):
 Els w F n enc (xs.set i y) (vs.take (i*n)++us++vs.drop (i*n+n)):=by
 have hle:(i+1)*n≤xs.length*n:=Nat.mul_le_mul_right n hi
 have hlen:=h.len
 rw[Nat.add_mul] at hle
 refine⟨by simp[hu];omega,fun j x hj=> ?_⟩
 by_cases e:i=j
 ·subst e
  rw[List.getElem?_set_self hi] at hj
  simp at hj;subst hj
  rw[List.append_assoc,List.drop_append_of_le_length (by simp;omega),List.drop_of_length_le (by simp;omega),List.nil_append,List.take_append_of_le_length O,List.take_of_length_le O]
  exact hy
 ·rw[List.getElem?_set_ne e] at hj
  have hj':=h.el j x hj
  have hjl:j<xs.length:=(List.getElem?_eq_some_iff.1 hj).1
  have e2:((vs.take (i*n)++us++vs.drop (i*n+n)).drop (j*n)).take n=(vs.drop (j*n)).take n:=by
   apply List.ext_getElem?
   intro t
   rw[List.getElem?_take,List.getElem?_take]
   split
   ·next ht=>
    rw[List.getElem?_drop,List.getElem?_drop]
    rcases Nat.lt_or_gt_of_ne e with hlt|hgt
    ·have h1:(i+1)*n≤j*n:=Nat.mul_le_mul_right n hlt
     rw[Nat.add_mul] at h1
     rw[List.getElem?_append_right (by simp;omega),List.getElem?_drop]
     congr 1
     simp;omega
    ·have h1:(j+1)*n≤i*n:=Nat.mul_le_mul_right n hgt
     rw[Nat.add_mul] at h1
     rw[List.append_assoc,List.getElem?_append_left (by simp;omega),List.getElem?_take]
     rw[if_pos O]
   ·rfl
  rw[e2];exact hj'
def sl {α:Type} (n:Nat) (enc:α→List AV) (xs:List α):AV:=
 ⟨fun w F v=> ∃A cap,v= .slice A xs.length cap∧xs.length≤cap∧xs.length≤aN∧(xs≠[]→∃b off vs,A=some ⟨b,off,none⟩∧F b∧rdAt w b off vs∧Els w F n enc xs vs),
  fun hF hw ⟨A,cap,hv,hc,hm,h⟩=>⟨A,cap,hv,hc,hm,fun hx=>by
   obtain⟨b,off,vs,hA,hb,hr,hs⟩:=h hx
   exact⟨b,off,vs,hA,hF b hb,hr.st (hw b hb),hs.st hF hw⟩⟩⟩
def eG (q:Prop) (φ:AV):AV:=⟨fun w F v=>q∧φ.p w F v,fun hF hw h=>⟨h.1,φ.st hF hw h.2⟩⟩
abbrev int (n:Int):AV:=eqv (.int .i64 n)
abbrev u8 (n:Int):AV:=eqv (.int .u8 n)
abbrev bl (b:Bool):AV:=eqv (.bool b)
abbrev str (s:ByteArray):AV:=eqv (.string s)
class One (φ:AV):Prop where
 one:∀{w F v},φ.p w F v→v.oneCell'=true
instance (n:Int):One (int n):=⟨fun h=>by cases h;rfl⟩
instance (n:Int):One (u8 n):=⟨fun h=>by cases h;rfl⟩
instance (b:Bool):One (bl b):=⟨fun h=>by cases h;rfl⟩
instance (s:ByteArray):One (str s):=⟨fun h=>by cases h;rfl⟩
instance (k:IntKind) (n:Int):One (eqv (.int k n)):=⟨fun h=>by cases h;rfl⟩
instance {α:Type} (n:Nat) (enc:α→List AV) (xs:List α):One (sl n enc xs):=⟨fun⟨_,_,h,_⟩=>by cases h;rfl⟩
instance (cs:List AV):One (fp cs):=⟨fun⟨_,_,_,h,_⟩=>by cases h;rfl⟩
instance (k b off:Nat):One (ptr k b off):=⟨fun h=>by cases h;rfl⟩
instance (A:Option Addr) (n c:Nat):One (eqv (.slice A n c)):=⟨fun h=>by cases h;rfl⟩
instance (f:Fn) (a c:Array Value):One (eqv (.func f a c)):=⟨fun h=>by cases h;rfl⟩
instance (m:Option Nat):One (eqv (.map m)):=⟨fun h=>by cases h;rfl⟩
structure HA where
 foot:Fz
 p:World→Fz→Prop
 st:∀{w:World} {F:Fz} {w':World} {F':Fz},(∀b,F b→F' b)→(∀b,F b∨foot b→w'.heap[b]?=w.heap[b]?)→p w F→p w' F'
def emp:HA:=⟨fun _=>False,fun _ _=>True,fun _ _ _=>trivial⟩
def cell (b:Nat) (cs:List AV):HA:=
 ⟨fun x=>x=b,fun w F=> ∃vs ty,w.heap[b]?=some (.cells (List.toArray vs) ty (0,0))∧All2 w F cs vs,
  fun hF hw ⟨vs,ty,h,ha⟩=>⟨vs,ty,(hw b (.inr rfl)).trans h,ha.st hF (fun x hx=>hw x (.inl hx))⟩⟩
def ownB (v:Value):Fz:=match v with
 | .slice (some a) _ _=>fun x=>x=a.block
 |_=>fun _=>False
theorem JU {w w':World} {e n:Nat} {v:Value} {k:Nat} {vs:List Value} (hw:∀b,ownB v b→w'.heap[b]?=w.heap[b]?) (h:w.ownsRow 0 e n v k vs):w'.ownsRow 0 e n v k vs:=by
 refine⟨h.1,?_⟩
 rcases h.2 with h0|⟨g,cap,cur,hv,h1,h2,h3⟩
 ·exact .inl h0
 ·exact .inr ⟨g,cap,cur,hv,h1,(hw g (by subst hv;rfl)).trans h2,h3⟩
def own {α:Type} (v:Value) (e n:Nat) (enc:α→List AV) (xs:List α):HA:=
 ⟨ownB v,fun w F=>xs.length≤aN∧∃vs,w.ownsRow 0 e n v xs.length vs∧Els w F n enc xs vs,
  fun hF hw ⟨hm,vs,h,he⟩=>⟨hm,vs,JU (fun b hb=>hw b (.inr hb)) h,he.st hF (fun b hb=>hw b (.inl hb))⟩⟩
def obj (b:Nat) (o:Obj):HA:=⟨fun x=>x=b,fun w _=>w.heap[b]?=some o,fun _ hw h=>(hw b (.inr rfl)).trans h⟩
abbrev Env:=List (Nat × AV)
abbrev Hp:=List (Nat × HA)
def lk (t:Nat):Env→AV
 | []=>any
 |(s,φ)::r=>bif Nat.beq s t then φ else lk t r
def lkH (t:Nat):Hp→HA
 | []=>emp
 |(s,φ)::r=>bif Nat.beq s t then φ else lkH t r
theorem cR (t:Nat) (φ:AV) (E:Env):lk t ((t,φ)::E)=φ:=by simp[lk]
theorem bU {t s:Nat} (φ:AV) (E:Env) (h:s≠t):lk t ((s,φ)::E)=lk t E:=by
 have:Nat.beq s t=false:=by
  cases hb:Nat.beq s t
  ·rfl
  ·exact absurd (Nat.eq_of_beq_eq_true hb) h
 simp[lk,this]
theorem bB (t:Nat) (φ:HA) (E:Hp):lkH t ((t,φ)::E)=φ:=by simp[lkH]
theorem bG {t s:Nat} (φ:HA) (E:Hp) (h:s≠t):lkH t ((s,φ)::E)=lkH t E:=by
 have:Nat.beq s t=false:=by
  cases hb:Nat.beq s t
  ·rfl
  ·exact absurd (Nat.eq_of_beq_eq_true hb) h
 simp[lkH,this]
def lkO:Operand→Env→AV
 | .tmp t,E=>lk t E
 | .const v,_=>eqv v
 | .global g,_=>eqv (.pointer (some ⟨g,0,none⟩))
 | .func f,_=>eqv (.func (.func f) #[] #[])
structure Base where
 w0:World
 M:Fz
 F0:Fz
 nt:Nat
abbrev Base.N (B:Base):Nat:=B.w0.heap.size
structure SimF (B:Base) (E:Env) (H:Hp) (a:Act) (w:World) (F:Fz) (Ds:List Nat):Prop where
 sz:a.tmps.size=B.nt
 env:∀t,(lk t E).p w F (a.tmps.getD t undef)
 hp:∀k,(lkH k H).p w F
 hF:∀k b,(lkH k H).foot b→¬F b
 hd:∀k k' b,k≠k'→(lkH k H).foot b→¬(lkH k' H).foot b
 hN:∀k b,(lkH k H).foot b→b<w.heap.size∧(B.N≤b∨B.M b)
 Fb:∀b,F b→b<w.heap.size∧(B.F0 b∨B.N≤b∨B.M b)
 F0:∀b,B.F0 b→F b
 Ns:B.N≤w.heap.size
 fr:∀b,b<B.N→¬B.M b→w.heap[b]?=B.w0.heap[b]?
 os:w.os=B.w0.os
 tp:w.tape=B.w0.tape
 out:w.output=B.w0.output
 df:a.defers=Ds.map fun D=> { target:= .collected D,args:= #[] }
 dn:Ds.Nodup
 dD:∀D∈Ds,w.heap[D]?=some (.deferred (some []))∧¬F D∧B.N≤D∧∀k,¬(lkH k H).foot D
def Sim (B:Base) (E:Env) (H:Hp) (a:Act) (w:World):Prop:=∃F Ds,SimF B E H a w F Ds
theorem SimF.opd {B:Base} {E:Env} {H:Hp} {a:Act} {w:World} {F:Fz} {Ds:List Nat} (h:SimF B E H a w F Ds):∀x:Operand,(lkO x E).p w F (a.eval x)
 | .tmp t=>h.env t
 | .const _=>rfl
 | .global _=>rfl
 | .func _=>rfl
theorem SimF.put {B:Base} {E:Env} {H:Hp} {a:Act} {w:World} {F:Fz} {Ds:List Nat} (h:SimF B E H a w F Ds) {d:Nat} (hd:d<B.nt) {φ:AV} {v:Value} (hv:φ.p w F v):
 SimF B ((d,φ)::E) H (a.put (some d) v) w F Ds:=
 { h with
   sz:=by simpa [Act.put] using h.sz
   env:=fun t=>by
    by_cases e:d=t
    ·subst e
     rw[cR]
     have:d<a.tmps.size:=h.sz▸hd
     simpa [Act.put,this] using hv
    ·rw[bU _ _ e]
     have:(a.put (some d) v).tmps.getD t undef=a.tmps.getD t undef:=by
      simp[Act.put,e]
     rw[this];exact h.env t
   df:=by simpa [Act.put] using h.df }
theorem SimF.putNone {B:Base} {E:Env} {H:Hp} {a:Act} {w:World} {F:Fz} {Ds:List Nat} (h:SimF B E H a w F Ds) {v:Value}:SimF B E H (a.put none v) w F Ds:=h
theorem SimF.upd {B:Base} {E:Env} {H:Hp} {a:Act} {w w':World} {F:Fz} {Ds:List Nat} (h:SimF B E H a w F Ds) (k:Nat) (x:HA)
 (hs:w.heap.size≤w'.heap.size) (hos:w'.os=w.os) (htp:w'.tape=w.tape) (hout:w'.output=w.output)
 (hb:∀b,b<w.heap.size→¬(lkH k H).foot b→w'.heap[b]?=w.heap[b]?)
 (hf:∀b,x.foot b→((lkH k H).foot b∨w.heap.size≤b)∧b<w'.heap.size) (hx:x.p w' F):SimF B E ((k,x)::H) a w' F Ds:=
 have hFw:∀b,F b→w'.heap[b]?=w.heap[b]?:=fun b hb'=>hb b (h.Fb b hb').1 (fun hk=>h.hF k b hk hb')
 { sz:=h.sz
   env:=fun t=>(lk t E).st (fun _ hb=>hb) hFw (h.env t)
   hp:=fun j=>by
    by_cases e:k=j
    ·subst e;rw[bB];exact hx
    ·rw[bG _ _ e]
     exact(lkH j H).st (fun _ hb=>hb) (fun b hb'=>hb'.elim (hFw b) (fun hj=>hb b (h.hN j b hj).1 (h.hd j k b (Ne.symm e) hj))) (h.hp j)
   hF:=fun j b hj hFb=>by
    by_cases e:k=j
    ·subst e;rw[bB] at hj
     rcases(hf b hj).1 with h1|h1
     ·exact h.hF k b h1 hFb
     ·exact absurd (h.Fb b hFb).1 O
    ·rw[bG _ _ e] at hj;exact h.hF j b hj hFb
   hd:=fun i j b hij hi hj=>by
    by_cases e:k=i
    ·subst e;rw[bB] at hi;rw[bG _ _ hij] at hj
     rcases(hf b hi).1 with h1|h1
     ·exact h.hd k j b hij h1 hj
     ·exact absurd (h.hN j b hj).1 O
    ·rw[bG _ _ e] at hi
     by_cases e':k=j
     ·subst e';rw[bB] at hj
      rcases(hf b hj).1 with h1|h1
      ·exact h.hd i k b hij hi h1
      ·exact absurd (h.hN i b hi).1 O
     ·rw[bG _ _ e'] at hj;exact h.hd i j b hij hi hj
   hN:=fun j b hj=>by
    by_cases e:k=j
    ·subst e;rw[bB] at hj
     obtain⟨h1,h2⟩:=hf b hj
     exact⟨h2,h1.elim (fun h3=>(h.hN k b h3).2) (fun h3=> .inl (Nat.le_trans h.Ns h3))⟩
    ·rw[bG _ _ e] at hj
     exact⟨Nat.lt_of_lt_of_le (h.hN j b hj).1 hs,(h.hN j b hj).2⟩
   Fb:=fun b hb'=>⟨Nat.lt_of_lt_of_le (h.Fb b hb').1 hs,(h.Fb b hb').2⟩
   F0:=h.F0
   Ns:=Nat.le_trans h.Ns hs
   fr:=fun b hbN hM=>by
    rw[hb b (Nat.lt_of_lt_of_le hbN h.Ns) (fun hk=>(h.hN k b hk).2.elim (fun h1=>by omega) hM)]
    exact h.fr b hbN hM
   os:=hos.trans h.os
   tp:=htp.trans h.tp
   out:=hout.trans h.out
   df:=h.df
   dn:=h.dn
   dD:=fun D hD=>by
    obtain⟨h1,h2,h3,h4⟩:=h.dD D hD
    have hlt:D<w.heap.size:=(Array.getElem?_eq_some_iff.1 h1).1
    refine⟨(hb D hlt (h4 k)).trans h1,h2,h3,fun j hj=> ?_⟩
    by_cases e:k=j
    ·subst e;rw[bB] at hj
     rcases(hf D hj).1 with h5|h5
     ·exact h4 k h5
     ·omega
    ·rw[bG _ _ e] at hj;exact h4 j hj }
theorem SimF.grow {B:Base} {E:Env} {H:Hp} {a:Act} {w w':World} {F F':Fz} {Ds:List Nat} (h:SimF B E H a w F Ds)
 (hs:w.heap.size≤w'.heap.size) (hos:w'.os=w.os) (htp:w'.tape=w.tape) (hout:w'.output=w.output)
 (hb:∀b,b<w.heap.size→w'.heap[b]?=w.heap[b]?) (hF:∀b,F b→F' b) (hF':∀b,F' b→F b∨(w.heap.size≤b∧b<w'.heap.size)):SimF B E H a w' F' Ds:=
 have hFw:∀b,F b→w'.heap[b]?=w.heap[b]?:=fun b hb'=>hb b (h.Fb b hb').1
 { sz:=h.sz
   env:=fun t=>(lk t E).st hF hFw (h.env t)
   hp:=fun j=>(lkH j H).st hF (fun b hb'=>hb'.elim (hFw b) (fun hj=>hb b (h.hN j b hj).1)) (h.hp j)
   hF:=fun j b hj hFb=>(hF' b hFb).elim (h.hF j b hj) (fun h1=>absurd (h.hN j b hj).1 O)
   hd:=h.hd
   hN:=fun j b hj=>⟨Nat.lt_of_lt_of_le (h.hN j b hj).1 hs,(h.hN j b hj).2⟩
   Fb:=fun b hb'=>(hF' b hb').elim (fun h1=>⟨Nat.lt_of_lt_of_le (h.Fb b h1).1 hs,(h.Fb b h1).2⟩) (fun h1=>⟨h1.2,.inr (.inl (Nat.le_trans h.Ns h1.1))⟩)
   F0:=fun b hb'=>hF b (h.F0 b hb')
   Ns:=Nat.le_trans h.Ns hs
   fr:=fun b hbN hM=>by rw[hb b (Nat.lt_of_lt_of_le hbN h.Ns)];exact h.fr b hbN hM
   os:=hos.trans h.os
   tp:=htp.trans h.tp
   out:=hout.trans h.out
   df:=h.df
   dn:=h.dn
   dD:=fun D hD=>by
    obtain⟨h1,h2,h3,h4⟩:=h.dD D hD
    have hlt:D<w.heap.size:=(Array.getElem?_eq_some_iff.1 h1).1
    exact⟨(hb D hlt).trans h1,fun hFD=>(hF' D hFD).elim h2 (fun h5=>by omega),h3,h4⟩ }
theorem heap_alloc (w:World) (o:Obj) {b:Nat} (hb:b<w.heap.size):(w.alloc o).heap[b]?=w.heap[b]?:=by
 show(w.heap.push o)[b]?=_
 rw[Array.getElem?_push];simp[Nat.ne_of_lt hb]
theorem jM (w:World) (o:Obj):(w.alloc o).heap[w.heap.size]?=some o:=by
 show(w.heap.push o)[w.heap.size]?=some o
 rw[Array.getElem?_push];simp
theorem SimF.alloc {B:Base} {E:Env} {H:Hp} {a:Act} {w:World} {F:Fz} {Ds:List Nat} (h:SimF B E H a w F Ds) (k:Nat) (x:HA) (o:Obj)
 (hf:∀b,x.foot b→b=w.heap.size) (hx:x.p (w.alloc o) F):SimF B E ((k,x)::H) a (w.alloc o) F Ds:=
 h.upd (w':=w.alloc o) k x (by simp) rfl rfl rfl (fun b hb _=>heap_alloc w o hb) (fun b hb=>by have:=hf b hb;subst this;exact⟨.inr (Nat.le_refl _),by simp⟩) hx
theorem SimF.stay {B:Base} {E:Env} {H:Hp} {a:Act} {w:World} {F:Fz} {Ds:List Nat} (h:SimF B E H a w F Ds) (o:Obj) {φ:AV} {v:Value} (hv:φ.p w F v):φ.p (w.alloc o) F v:=
 φ.st (fun _ h=>h) (fun b hb=>heap_alloc w o (h.Fb b hb).1) hv
theorem SimF.stays {B:Base} {E:Env} {H:Hp} {a:Act} {w:World} {F:Fz} {Ds:List Nat} (h:SimF B E H a w F Ds) (o:Obj) {cs:List AV} {vs:List Value} (hv:All2 w F cs vs):All2 (w.alloc o) F cs vs:=
 hv.st (fun _ h=>h) (fun b hb=>heap_alloc w o (h.Fb b hb).1)
theorem Sim.drew {B:Base} {E:Env} {H:Hp} {a:Act} {w:World} (h:Sim B E H a w) (n:Nat):Sim B E H a { w with drawn:=n }:=by
 obtain⟨F,Ds,h⟩:=h
 exact⟨F,Ds,h.grow (w':= { w with drawn:=n }) (Nat.le_refl _) rfl rfl rfl (fun _ _=>rfl) (fun _ h=>h) (fun _ h=> .inl h)⟩
def Sub:Env→Env→Prop
 | [],_=>True
 |(t,φ)::r,E=>(∀{w F v},(lk t E).p w F v→φ.p w F v)∧Sub r E
theorem Sub.lk {E:Env}:∀{E':Env},Sub E' E→∀(t:Nat) {w:World} {F:Fz} {v:Value},(lk t E).p w F v→(AL.lk t E').p w F v
 | [],_,_,_,_,_,_=>trivial
 |(s,φ)::r,h,t,w,F,v,hv=>by
  by_cases e:s=t
  ·subst e;rw[cR];exact h.1 hv
  ·rw[bU _ _ e];exact Sub.lk h.2 t hv
def SubH:Hp→Hp→Prop
 | [],_=>True
 |(t,φ)::r,E=>((lkH t E).foot=φ.foot∧∀{w F},(lkH t E).p w F→φ.p w F)∧SubH r E
theorem SubH.lk {E:Hp}:∀{E':Hp},SubH E' E→∀(t:Nat),(∀b,(lkH t E').foot b→(lkH t E).foot b)∧∀{w:World} {F:Fz},(lkH t E).p w F→(lkH t E').p w F
 | [],_,_=>⟨fun _ h=>h.elim,fun _=>trivial⟩
 |(s,φ)::r,h,t=>by
  by_cases e:s=t
  ·subst e;rw[bB];exact⟨fun b hb=>h.1.1▸hb,h.1.2⟩
  ·rw[bG _ _ e];exact SubH.lk h.2 t
theorem SubH.mono {E:Hp} {x:Nat × HA}:∀{E':Hp},SubH E' E→(∀y∈E',y.1≠x.1)→SubH E' (x::E)
 | [],_,_=>trivial
 |(t,φ)::r,h,hne=>by
  refine⟨?_,SubH.mono h.2 (fun y hy=>hne y (List.mem_cons_of_mem _ hy))⟩
  have:x.1≠t:=(hne (t,φ) (by simp)).symm
  rw[show lkH t (x::E)=lkH t E from bG x.2 E this]
  exact h.1
theorem Sub.mk {E' E:Env} (h:∀(t:Nat) (φ:AV),(t,φ)∈E'→∀{w F v},(AL.lk t E).p w F v→φ.p w F v):Sub E' E:=by
 induction E' with
 |nil=>trivial
 |cons x r ih=>exact⟨h x.1 x.2 (by simp),ih (fun t φ ht=>h t φ (List.mem_cons_of_mem _ ht))⟩
def JV (H' H:Hp):Prop:=∀(t:Nat),(∀b,(lkH t H').foot b→(lkH t H).foot b)∧∀{w:World} {F:Fz},(lkH t H).p w F→(lkH t H').p w F
theorem SubH.less {H' H:Hp} (h:SubH H' H):JV H' H:=fun t=>⟨(h.lk t).1,(h.lk t).2⟩
theorem tC (H:Hp):JV H H:=fun _=>⟨fun _ h=>h,fun h=>h⟩
theorem Sim.less {B:Base} {E E':Env} {H H':Hp} {a:Act} {w:World} (h:Sim B E H a w) (hE:∀t,∀{w F v},(lk t E).p w F v→(lk t E').p w F v) (hH:JV H' H):Sim B E' H' a w:=by
 obtain⟨F,Ds,h⟩:=h
 refine⟨F,Ds,{ h with
  env:=fun t=>hE t (h.env t)
  hp:=fun k=>(hH k).2 (h.hp k)
  hF:=fun k b hb=>h.hF k b ((hH k).1 b hb)
  hd:=fun k k' b e hb hb'=>h.hd k k' b e ((hH k).1 b hb) ((hH k').1 b hb')
  hN:=fun k b hb=>h.hN k b ((hH k).1 b hb)
  dD:=fun D hD=> ?_ }⟩
 obtain⟨h1,h2,h3,h4⟩:=h.dD D hD
 exact⟨h1,h2,h3,fun k hk=>h4 k ((hH k).1 D hk)⟩
theorem Sim.weak {B:Base} {E E':Env} {H H':Hp} {a:Act} {w:World} (h:Sim B E H a w) (hE:Sub E' E) (hH:SubH H' H):Sim B E' H' a w:=
 h.less (fun t=>hE.lk t) hH.less
attribute [irreducible] any eqv agg tup fp ptr sl eG emp cell own obj
end AL
namespace AL
open Go
attribute [local semireducible] any eqv agg tup fp ptr sl eG emp cell own obj
abbrev FW (r:Option Nat):Fence:= { fn:=fun _=>True,depth:=none,alive:=false,round:=r }
abbrev wl (r:Option Nat) (P:Program) (ops:Array Oper) (Q:Exit→Act→World→Prop) (rest:List Oper) (a:Act) (w:World):Prop:=wpListIn (FW r) 0 P ops Q rest a w
section
variable {P:Program} {r:Option Nat} {ops:Array Oper} {Q:Exit→Act→World→Prop} {rest:List Oper} {B:Base} {E:Env} {H:Hp} {a:Act} {w:World}
theorem yV {o:Oper} (hg:o.guard=none) (hdf:∀c,o.op≠ .defer c)
 (h:o.uponIn (FW r) 0 P a (wl r P ops Q rest) Q ((execOp a.eval o).run P w)):wl r P ops Q (o::rest) a w:=by
 simp only [wl,wpListIn,Region.wanted,hg,if_true,Oper.wpIn]
 exact⟨fun _ _=>trivial,by rw[Oper.semAt_eq _ _ _ hdf];exact h⟩
theorem iD {ι:Type} {E':ι→Env} {H':ι→Hp} {o:Oper} (h:Sim B E H a w) (hg:o.guard=none) (hdf:∀c,o.op≠ .defer c)
 (hr:∀F Ds,SimF B E H a w F Ds→∃v w',(execOp a.eval o).run P w= .ok (.value v) w'∧∃i,Sim B (E' i) (H' i) (a.put o.dst v) w')
 (k:∀i a w,Sim B (E' i) (H' i) a w→wl r P ops Q rest a w):wl r P ops Q (o::rest) a w:=by
 obtain⟨F,Ds,hs⟩:=h
 obtain⟨v,w',hrun,i,hS⟩:=hr F Ds hs
 refine yV hg hdf ?_
 rw[hrun]
 exact k i _ _ hS
theorem uM {ι:Type} {E':ι→Env} {H':ι→Hp} {o:Oper} (h:Sim B E H a w) (hg:o.guard=none) (hdf:∀c,o.op≠ .defer c)
 (hr:∀F Ds,SimF B E H a w F Ds→∃w',(execOp a.eval o).run P w= .ok .skip w'∧∃i,Sim B (E' i) (H' i) (a.put o.dst undef) w')
 (k:∀i a w,Sim B (E' i) (H' i) a w→wl r P ops Q rest a w):wl r P ops Q (o::rest) a w:=by
 obtain⟨F,Ds,hs⟩:=h
 obtain⟨w',hrun,i,hS⟩:=hr F Ds hs
 refine yV hg hdf ?_
 rw[hrun]
 exact k i _ _ hS
theorem cF {o:Oper} {d:Nat} {φ:AV} (h:Sim B E H a w) (hg:o.guard=none) (hd:o.dst=some d) (hn:Nat.blt d B.nt=true) (hdf:∀c,o.op≠ .defer c)
 (hr:∀F Ds,SimF B E H a w F Ds→∃v,(execOp a.eval o).run P w= .ok (.value v) w∧φ.p w F v)
 (k:∀a w,Sim B ((d,φ)::E) H a w→wl r P ops Q rest a w):wl r P ops Q (o::rest) a w:=
 iD (ι:=Unit) (E':=fun _=>(d,φ)::E) (H':=fun _=>H) h hg hdf (fun F Ds hs=>by
  obtain⟨v,h1,h2⟩:=hr F Ds hs
  exact⟨v,w,h1,(),F,Ds,by rw[hd];exact hs.put (by simpa using hn) h2⟩) (fun _=>k)
theorem iZ (b off n:Nat):Addr.add ⟨b,off,none⟩ n=⟨b,off+n,none⟩:=by
 unfold Addr.add
 split
 ·next h=>subst h;rfl
 ·rfl
variable {d ty:Nat} {pos:String} {af:Array Edge}
theorem Lt {x:Operand} (h:Sim B E H a w) (k:∀a w,Sim B ((d,lkO x E)::E) H a w→wl r P ops Q rest a w) (hn:Nat.blt d B.nt=true:=by rfl):
 wl r P ops Q ({ dst:=some d,op:= .move x,type:=ty,pos:=pos,after:=af,guard:=none }::rest) a w:=
 cF h rfl rfl hn (fun _=>nofun) (fun _ _ hs=>⟨a.eval x,rfl,hs.opd x⟩) k
theorem Fq {x:Operand} (h:Sim B E H a w) (k:∀a w,Sim B ((d,lkO x E)::E) H a w→wl r P ops Q rest a w) (hn:Nat.blt d B.nt=true:=by rfl):
 wl r P ops Q ({ dst:=some d,op:= .assign x,type:=ty,pos:=pos,after:=af,guard:=none }::rest) a w:=
 cF h rfl rfl hn (fun _=>nofun) (fun _ _ hs=>⟨a.eval x,rfl,hs.opd x⟩) k
theorem Fs {c x y:Operand} {b:Bool} {φ:AV} (h:Sim B E H a w) (hc:lkO c E=bl b) (hz:lkO (if b then x else y) E=φ) (k:∀a w,Sim B ((d,φ)::E) H a w→wl r P ops Q rest a w) (hn:Nat.blt d B.nt=true:=by rfl):
 wl r P ops Q ({ dst:=some d,op:= .pick c x y,type:=ty,pos:=pos,after:=af,guard:=none }::rest) a w:=
 cF h rfl rfl hn (fun _=>nofun) (fun F Ds hs=>by
  have h1:=hs.opd c
  rw[hc] at h1
  have h1:a.eval c= .bool b:=h1
  refine⟨if b then a.eval x else a.eval y,?_,?_⟩
  ·simp[execOp,h1,asBool]
  ·subst hz
   cases b
   ·exact hs.opd y
   ·exact hs.opd x) k
structure gS (P:Program) (t n:Nat):Prop where
 agg:∀w,(isAgg t).run P w= .ok true w
 size:∀w,(Go.sizeOf t).run P w= .ok n w
structure dI (P:Program) (t:Nat):Prop where
 agg:∀w,(isAgg t).run P w= .ok false w
 size:∀w,(Go.sizeOf t).run P w= .ok 1 w
def UL (P:Program) (t n:Nat):Bool:=
 (match P.underlying t with|some (.struct _)=>true|some (.array _ _)=>true|_=>false)&&(match P.info? t with|some i=>Nat.beq i.size n|none=>false)
def UM (P:Program) (t:Nat):Bool:=
 (match P.underlying t with|some (.struct _)=>false|some (.array _ _)=>false|some _=>true|none=>false)&&(match P.info? t with|some i=>Nat.beq i.size 1|none=>false)
theorem xG {t n:Nat} (h:(match P.info? t with|some i=>Nat.beq i.size n|none=>false)=true) (w:World):(Go.sizeOf t).run P w= .ok n w:=by
 cases hi:P.info? t with
 |none=>simp[hi] at h
 |some i=>
  rw[hi] at h
  have:i.size=n:=by simpa using h
  simp[Go.sizeOf,typeInfo,program,hi,Sem.run,this]
theorem fU {t n:Nat} (h:UL P t n=true):gS P t n:=by
 simp only [UL,Bool.and_eq_true] at h
 obtain⟨h1,h2⟩:=h
 refine⟨fun w=> ?_,xG h2⟩
 cases hu:P.underlying t with
 |none=>simp[hu] at h1
 |some D=>
  rw[hu] at h1
  cases D<;>simp at h1<;>simp[isAgg,underlying,program,hu,Sem.run]
theorem eH {t:Nat} (h:UM P t=true):dI P t:=by
 simp only [UM,Bool.and_eq_true] at h
 obtain⟨h1,h2⟩:=h
 refine⟨fun w=> ?_,xG h2⟩
 cases hu:P.underlying t with
 |none=>simp[hu] at h1
 |some D=>
  rw[hu] at h1
  cases D<;>simp at h1<;>simp[isAgg,underlying,program,hu,Sem.run]
structure cS (P:Program) (t f off:Nat):Prop where
 run:∀(w:World) (b o:Nat),(Instr.fieldAt t (.pointer (some ⟨b,o,none⟩)) f).run P w= .ok (.pointer (some ⟨b,o+off,none⟩)) w
def Lu (P:Program) (t f off:Nat):Bool:=
 match P.underlying t with
 |some (.struct fs)=>(match fs[f]? with
  |some x=>Nat.beq x.offset off&&(match P.info? x.type with|some i=>Nat.blt 0 i.size|none=>false)
  |none=>false)
 |_=>false
theorem bZ {t f off:Nat} (h:Lu P t f off=true):cS P t f off:=by
 refine⟨fun w b o=> ?_⟩
 unfold Lu at h
 cases hu:P.underlying t with
 |none=>simp[hu] at h
 |some D=>
  rw[hu] at h
  cases D<;>simp at h
  case struct fs=>
  cases hf:fs[f]? with
  |none=>simp[hf] at h
  |some x=>
   rw[hf] at h
   simp only [Bool.and_eq_true] at h
   obtain⟨h1,h2⟩:=h
   have h1:x.offset=off:=by simpa using h1
   cases hi:P.info? x.type with
   |none=>simp[hi] at h2
   |some i=>
    rw[hi] at h2
    have h2:i.size≠0:=by have:0<i.size:=by simpa using h2
                         omega
    simp[Instr.fieldAt,underlying,program,hu,Sem.run,hf,Instr.sureAddr,fieldPlace,Go.sizeOf,typeInfo,hi,h2,iZ,h1]
theorem Ai {b off:Nat} {vs:List Value} (h:rdAt w b off vs) {n:Nat} (hn:vs.length=n):(loadCells ⟨b,off,none⟩ n).run P w= .ok vs.toArray w:=by
 subst hn
 exact run_loadCells_list (P:=P) w ⟨b,off,none⟩ vs (fun j v hj=>by rw[iZ];exact h.cell hj)
theorem kJ {t n:Nat} (ht:gS P t n) {b off:Nat} {vs:List Value} (h:rdAt w b off vs) (hn:vs.length=n):
 (loadVar t ⟨b,off,none⟩).run P w= .ok (.agg vs.toArray) w:=by
 simp[loadVar,ht.agg,ht.size,Ai h hn]
theorem kK {t:Nat} (ht:dI P t) {b off:Nat} {v:Value} (h:w.cell? ⟨b,off,none⟩=some v):(loadVar t ⟨b,off,none⟩).run P w= .ok v w:=by
 simp[loadVar,ht.agg,load,Sem.run,h]
theorem uN {w:World} {F:Fz} {b:Nat} {cs:List AV} (h:(cell b cs).p w F) (o:Nat):∃vs,rdAt w b o vs∧All2 w F (cs.drop o) vs:=by
 obtain⟨vs,t,hc,ha⟩:=h
 exact⟨vs.drop o,⟨vs.toArray,t,(0,0),hc,fun j v hj=>by simpa using hj⟩,ha.drop o⟩
end
end AL
namespace AL
open Go
attribute [local semireducible] any eqv agg tup fp ptr sl eG emp cell own obj
def I64 (n:Int):Prop:= -9223372036854775808≤n∧n≤9223372036854775807
theorem oO {n:Int} (h:I64 n):IntKind.i64.wrap n=n:=by
 rw[IntWalk.i64_left];exact IntWalk.wrap64_in n h
section
variable {P:Program} {r:Option Nat} {ops:Array Oper} {Q:Exit→Act→World→Prop} {rest:List Oper} {B:Base} {E:Env} {H:Hp} {a:Act} {w:World}
variable {d ty:Nat} {pos:String} {af:Array Edge}
def cP (P:Program) (op:BinOp) (T:TypeId) (x y:Operand) (u v z:Value):Prop:=
 ∀w:World,(do eqGuard op T x y u v;binOp op T u v:Sem Value).run P w= .ok z w
section
variable {T:TypeId} {x y:Operand} {m n:Int} {kd:IntKind}
theorem aM (h:I64 (m+n)):cP P .add T x y (.int .i64 m) (.int .i64 n) (.int .i64 (m+n)):=fun w=>by
 simp[eqGuard,binOp,Op.intArith,oO h]
theorem mI (h:I64 (m- n)):cP P .sub T x y (.int .i64 m) (.int .i64 n) (.int .i64 (m- n)):=fun w=>by
 simp[eqGuard,binOp,Op.intArith,oO h]
theorem Xe (h:I64 (m*n)):cP P .mul T x y (.int .i64 m) (.int .i64 n) (.int .i64 (m*n)):=fun w=>by
 simp[eqGuard,binOp,Op.intArith,oO h]
theorem aZ:cP P .lss T x y (.int kd m) (.int kd n) (.bool (decide (m<n))):=fun w=>by simp[eqGuard,binOp,Op.intCmp]
theorem tD:cP P .leq T x y (.int kd m) (.int kd n) (.bool (decide (m≤n))):=fun w=>by simp[eqGuard,binOp,Op.intCmp]
theorem jA:cP P .gtr T x y (.int kd m) (.int kd n) (.bool (decide (n<m))):=fun w=>by simp[eqGuard,binOp,Op.intCmp]
theorem jG:cP P .geq T x y (.int kd m) (.int kd n) (.bool (decide (n≤m))):=fun w=>by simp[eqGuard,binOp,Op.intCmp]
theorem gF:cP P .eql T x y (.int kd m) (.int kd n) (.bool (decide (m=n))):=fun w=>by
 simp[eqGuard,binOp,Op.intCmp]
 by_cases h:m=n<;>simp[h]
theorem fV:cP P .neq T x y (.int kd m) (.int kd n) (.bool (decide (m≠n))):=fun w=>by
 simp[eqGuard,binOp,Op.intCmp]
 by_cases h:m=n<;>simp[h]
theorem UN {b c:Bool} (hT:P.underlying T=some .bool):cP P .neq T x y (.bool b) (.bool c) (.bool (b !=c)):=fun w=>by
 have e:=run_equal_bool w T b c hT
 simp only [eqGuard,binOp,Sem.run_bind]
 simp[e,bne]
theorem Bo (s t:ByteArray):(s.toList==t.toList)=decide (s=t):=by
 have key:s.toList=t.toList↔s=t:=by
  rw[ByteArray.toList_eq,ByteArray.toList_eq]
  exact⟨fun h=>by cases s;cases t;simp at h;simp[h],fun h=>by rw[h]⟩
 by_cases h:s=t
 ·subst h;simp
 ·simp[h,key]
theorem Lv {s t:ByteArray}:cP P .eql T x y (.string s) (.string t) (.bool (decide (s=t))):=fun w=>by
 simp[eqGuard,binOp,Op.stringOp,Bo]
theorem UO {s t:ByteArray}:cP P .neq T x y (.string s) (.string t) (.bool (!decide (s=t))):=fun w=>by
 simp[eqGuard,binOp,Op.stringOp,Bo]
theorem Lw {s t:ByteArray} (h:s.size+t.size≤aN):cP P .add T x y (.string s) (.string t) (.string (s++t)):=fun w=>by
 have:¬(((s.size+t.size:Nat):Int)>IntKind.i64.max):=by
  have h2:IntKind.i64.max=9223372036854775807:=by decide
  rw[h2];unfold aN at h;omega
 simp only [eqGuard,binOp,Op.stringOp,Sem.run_bind]
 rw[if_neg this]
 simp
end
theorem uO {m:Nat} (h:m<2^63):(BitVec.ofInt 64 (m:Int)).toNat=m:=by
 rw[BitVec.toNat_ofInt]
 omega
theorem vR {m:Nat} (h:m<2^63):IntKind.i64.wrap (m:Int)=m:=oO ⟨O,O⟩
theorem Rn {T:TypeId} {x y:Operand} {m n:Nat} (hm:m<2^63) (hn:n<2^63):cP P .and T x y (.int .i64 m) (.int .i64 n) (.int .i64 ((m&&&n:Nat):Int)):=fun w=>by
 simp only [eqGuard,binOp,Op.intBits,Sem.run_bind]
 have e:(BitVec.ofInt IntKind.i64.bits (m:Int)&&&BitVec.ofInt IntKind.i64.bits (n:Int)).toNat=m&&&n:=by
  show(BitVec.ofInt 64 (m:Int)&&&BitVec.ofInt 64 (n:Int)).toNat=_
  rw[BitVec.toNat_and,uO hm,uO hn]
 simp only [e,vR (Nat.lt_of_le_of_lt Nat.and_le_left hm)]
 simp
theorem XV {T:TypeId} {x y:Operand} {m n:Nat} (hm:m<2^63) (hn:n<2^63):cP P .or T x y (.int .i64 m) (.int .i64 n) (.int .i64 ((m|||n:Nat):Int)):=fun w=>by
 simp only [eqGuard,binOp,Op.intBits,Sem.run_bind]
 have e:(BitVec.ofInt IntKind.i64.bits (m:Int)|||BitVec.ofInt IntKind.i64.bits (n:Int)).toNat=m|||n:=by
  show(BitVec.ofInt 64 (m:Int)|||BitVec.ofInt 64 (n:Int)).toNat=_
  rw[BitVec.toNat_or,uO hm,uO hn]
 simp only [e,vR (Nat.or_lt_two_pow hm hn)]
 simp
theorem Xf {T:TypeId} {x y:Operand} {m n:Nat} (hn:n≤64):cP P .shr T x y (.int .i64 m) (.int .i64 n) (.int .i64 ((m>>>n:Nat):Int)):=fun w=>by
 have h1:¬((n:Int)<0):=by omega
 have h2:min n 64=n:=Nat.min_eq_left hn
 simp only [eqGuard,binOp,Op.shift,Sem.run_bind]
 rw[if_neg h1]
 have h3:(m:Int).fdiv (2^n)=((m>>>n:Nat):Int):=by
  rw[Int.fdiv_eq_ediv_of_nonneg _ (by exact Int.pow_nonneg O),Nat.shiftRight_eq_div_pow]
  simp
 simp[IntKind.bits,h2,h3]
theorem UQ {T:TypeId} {x y:Operand} {n:Nat} (hn:n<63):cP P .shl T x y (.int .i64 1) (.int .i64 n) (.int .i64 ((2^n:Nat):Int)):=fun w=>by
 have h1:¬((n:Int)<0):=by omega
 have h2:min n 64=n:=Nat.min_eq_left O
 have h3:2^n<2^63:=Nat.pow_lt_pow_right O hn
 have h4:=vR h3
 simp only [eqGuard,binOp,Op.shift,Sem.run_bind]
 rw[if_neg h1]
 simp[IntKind.bits,h2]
 simpa using h4
structure IsSlice (P:Program) (T e n:Nat):Prop where
 und:P.underlying T=some (.slice e)
 size:∀w,(Go.sizeOf e).run P w= .ok n w
def Lx (P:Program) (T e n:Nat):Bool:=
 (match P.underlying T with|some (.slice e')=>Nat.beq e' e|_=>false)&&(match P.info? e with|some i=>Nat.beq i.size n|none=>false)
theorem eL {T e n:Nat} (h:Lx P T e n=true):IsSlice P T e n:=by
 simp only [Lx,Bool.and_eq_true] at h
 refine⟨?_,xG h.2⟩
 have h1:=h.1
 cases hu:P.underlying T with
 |none=>simp[hu] at h1
 |some D=>
  rw[hu] at h1
  cases D<;>simp at h1
  simp[h1]
theorem IsSlice.run {T e n:Nat} (h:IsSlice P T e n) (w:World):(underlying T).run P w= .ok (.slice e) w:=by
 simp[underlying,program,Sem.run,h.und]
def osl (_k:Nat) (v:Value):AV:=⟨fun _ _ u=>u=v,fun _ _ h=>h⟩
theorem Ft {α:Type} {v:Value} {et n:Nat} {enc:α→List AV} {xs:List α} {w:World} {F:Fz} (h:(own v et n enc xs).p w F):∃A cap,v= .slice A xs.length cap:=by
 obtain⟨_,vs,h,_⟩:=h
 rcases h.2 with⟨hv,hx⟩|⟨g,cap,c,hv,_⟩
 ·exact⟨none,0,by simp[hv,hx]⟩
 ·exact⟨_,_,hv⟩
theorem IK {α:Type} {v:Value} {et n:Nat} {enc:α→List AV} {xs:List α} {w:World} {F:Fz} (h:(own v et n enc xs).p w F):v.oneCell'=true:=by
 obtain⟨A,c,rfl⟩:=Ft h;rfl
def dL (_k:Nat) (v:Value) (n i j:Nat):AV:=
 ⟨fun _ _ u=> ∃b l c,v= .slice (some ⟨b,0,none⟩) l c∧u= .pointer (some ⟨b,i*n+j,none⟩),fun _ _ h=>h⟩
theorem IL {α:Type} {v:Value} {et n:Nat} {enc:α→List AV} {xs:List α} {w:World} {F:Fz} (h:(own v et n enc xs).p w F) {i:Nat} {y:α} (hy:xs[i]?=some y) {b l c:Nat} (hv:v= .slice (some ⟨b,0,none⟩) l c):
 ∃vs,vs.length=n∧rdAt w b (i*n) vs∧All2 w F (enc y) vs:=by
 have hlt:i<xs.length:=(List.getElem?_eq_some_iff.1 hy).1
 obtain⟨_,vs,h,he⟩:=h
 rcases h.2 with⟨hv',hx⟩|⟨b',cap,c',hv',_,hc,_,_,_,htake⟩
 ·omega
 ·rw[hv] at hv'
  simp at hv'
  obtain⟨rfl,_⟩:=hv'
  refine⟨_,he.lenD hlt,?_,he.el i y hy⟩
  have h0:rdAt w b 0 vs:=⟨c',et,(0,0),hc,fun j u hj=>by
   have:(c'.toList.take (xs.length*n))[j]?=some u:=by rw[htake];exact hj
   rw[List.getElem?_take] at this
   split at this
   ·simpa using this
   ·simp at this⟩
  simpa using(h0.drop (i*n)).take n
end
attribute [irreducible] osl dL
end AL
namespace AL
open Go
attribute [local semireducible] any eqv agg tup fp ptr sl eG emp cell own obj osl dL
class OneAll (cs:List AV):Prop where
 all:∀{w F vs},All2 w F cs vs→∀v∈vs,v.oneCell'=true
instance:OneAll []:=⟨fun {w F vs} h v hv=>by cases vs with|nil=>simp at hv|cons _ _=>exact h.elim⟩
instance (φ:AV) (cs:List AV) [h1:One φ] [h2:OneAll cs]:OneAll (φ::cs):=⟨fun {w F vs} h v hv=>by
 cases vs with
 |nil=>simp at hv
 |cons u us=>
  rcases List.mem_cons.1 hv with rfl|h3
  ·exact h1.one h.1
  ·exact h2.all h.2 v h3⟩
section
variable {P:Program} {r:Option Nat} {ops:Array Oper} {Q:Exit→Act→World→Prop} {rest:List Oper} {B:Base} {E:Env} {H:Hp} {a:Act} {w:World}
variable {d ty:Nat} {pos:String} {af:Array Edge}
theorem DX {v:Value} (h:v.oneCell'=true):v.cells= #[v]:=by
 revert h
 cases v<;>simp[Value.oneCell',Value.cells]
theorem qV {g o t:Nat} {vs:List Value} {cur:Array Value} (hg:w.heap[g]?=some (.cells cur t (0,0))) (hl:o+vs.length≤cur.size) (h1:∀v∈vs,v.oneCell'=true):
 (storeCells ⟨g,o,none⟩ vs).run P w= .ok () (w.setRow g (cur.toList.take o++vs++cur.toList.drop (o+vs.length)).toArray):=by
 have:=run_storeCells_at (P:=P) g o t vs 0 cur w hg O h1
 simpa using this
theorem run_storeVar_one {T g o t:Nat} {v:Value} {cur:Array Value} (ht:dI P T) (hg:w.heap[g]?=some (.cells cur t (0,0))) (hl:o<cur.size) (h1:v.oneCell'=true):
 (storeVar T ⟨g,o,none⟩ v).run P w= .ok () (w.setRow g (cur.toList.take o++ [v]++cur.toList.drop (o+1)).toArray):=by
 have:=qV (P:=P) (o:=o) (vs:= [v]) hg (by simp;omega) (by simpa using h1)
 simp only [storeVar,Sem.run_bind,ht.size,Result.andThen_ok,DX h1]
 simpa using this
theorem rM {T g o t n:Nat} {vs:List Value} {cur:Array Value} (ht:gS P T n) (hn:vs.length=n) (hg:w.heap[g]?=some (.cells cur t (0,0))) (hl:o+n≤cur.size) (h1:∀v∈vs,v.oneCell'=true):
 (storeVar T ⟨g,o,none⟩ (.agg vs.toArray)).run P w= .ok () (w.setRow g (cur.toList.take o++vs++cur.toList.drop (o+vs.length)).toArray):=by
 have:=qV (P:=P) (o:=o) (vs:=vs) hg O h1
 simp only [storeVar,Sem.run_bind,ht.size,Result.andThen_ok,Value.cells]
 simpa [hn] using this
theorem SimF.row {F:Fz} {Ds:List Nat} (h:SimF B E H a w F Ds) (key:Nat) (x:HA) {g:Nat} (cur:Array Value) (hg:(lkH key H).foot g) (hf:∀b,x.foot b→(lkH key H).foot b) (hx:x.p (w.setRow g cur) F):
 SimF B E ((key,x)::H) a (w.setRow g cur) F Ds:=
 h.upd (w':=w.setRow g cur) key x (by simp) rfl rfl rfl (fun b _ hb=>setRow_other w g b _ (fun e=>hb (e▸hg))) (fun b hb=>⟨.inl (hf b hb),by have:=(h.hN key b (hf b hb)).1;simpa using this⟩) hx
theorem SimF.rowStay {F:Fz} {Ds:List Nat} (h:SimF B E H a w F Ds) {key g:Nat} (cur:Array Value) (hg:(lkH key H).foot g):∀b,F b→(w.setRow g cur).heap[b]?=w.heap[b]?:=
 fun b hb=>setRow_other w g b _ (fun e=>h.hF key g hg (e▸hb))
theorem EP {α:Type} (l:List α) (o:Nat) (v:α) (h:o<l.length):l.take o++ [v]++l.drop (o+1)=l.set o v:=by
 rw[List.set_eq_take_append_cons_drop,if_pos h];simp
theorem Fu {T key b o:Nat} {cs:List AV} {φ:AV} {x y:Operand} (h:Sim B E H a w) (hx:lkO x E=ptr key b o) (hk:lkH key H=cell b cs) (hy:lkO y E=φ) [h1:One φ] (ht:dI P T) (ho:Nat.blt o cs.length=true)
 (k:∀a w,Sim B E ((key,cell b (cs.set o φ))::H) a w→wl r P ops Q rest a w):
 wl r P ops Q ({ dst:=none,op:= .store T x y,type:=ty,pos:=pos,after:=af,guard:=none }::rest) a w:=
 uM (ι:=Unit) (E':=fun _=>E) (H':=fun _=>(key,cell b (cs.set o φ))::H) h rfl (fun _=>nofun) (fun F Ds hs=>by
  have hvx:=hs.opd x
  have hvy:=hs.opd y
  rw[hx] at hvx
  rw[hy] at hvy
  have hvx:a.eval x= .pointer (some ⟨b,o,none⟩):=hvx
  have h2:=hs.hp key
  rw[hk] at h2
  obtain⟨vs,t,hc,ha⟩:=h2
  have hlen:=ha.length
  have ho':o<vs.length:=by rw[hlen];simpa using ho
  refine⟨w.setRow b (vs.take o++ [a.eval y]++vs.drop (o+1)).toArray,?_,(),F,Ds,SimF.putNone (hs.row key _ _ (by rw[hk];rfl) (fun b' hb'=>by rw[hk];exact hb') ?_)⟩
  ·have:=run_storeVar_one (P:=P) (v:=a.eval y) ht hc (by simpa using ho') (h1.one hvy)
   simp only [execOp,hvx,Instr.storeAt,Instr.sureAddr,Sem.run_bind,Sem.run_pure,Result.andThen_ok]
   rw[this];rfl
  ·refine⟨vs.set o (a.eval y),t,?_,(ha.set o hvy).st (fun _ h=>h) (hs.rowStay _ (key:=key) (by rw[hk];rfl))⟩
   rw[EP _ _ _ ho']
   exact setRow_heap w b _ _ t _ hc) (fun _=>k)
theorem All2.splice {F:Fz} {cs cs':List AV} {vs us:List Value} (o:Nat) (h:All2 w F cs vs) (hu:All2 w F cs' us):All2 w F (cs.take o++cs'++cs.drop (o+cs'.length)) (vs.take o++us++vs.drop (o+us.length)):=by
 rw[hu.length]
 exact((h.take o).append hu).append (h.drop _)
theorem Ly {T n key b o:Nat} {cs cs':List AV} {x y:Operand} (h:Sim B E H a w) (hx:lkO x E=ptr key b o) (hk:lkH key H=cell b cs) (hy:lkO y E=agg cs') [h1:OneAll cs'] (ht:gS P T n) (hn:cs'.length=n) (ho:Nat.ble (o+n) cs.length=true)
 (k:∀a w,Sim B E ((key,cell b (cs.take o++cs'++cs.drop (o+cs'.length)))::H) a w→wl r P ops Q rest a w):
 wl r P ops Q ({ dst:=none,op:= .store T x y,type:=ty,pos:=pos,after:=af,guard:=none }::rest) a w:=
 uM (ι:=Unit) (E':=fun _=>E) (H':=fun _=>(key,cell b (cs.take o++cs'++cs.drop (o+cs'.length)))::H) h rfl (fun _=>nofun) (fun F Ds hs=>by
  have hvx:=hs.opd x
  have hvy:=hs.opd y
  rw[hx] at hvx
  rw[hy] at hvy
  have hvx:a.eval x= .pointer (some ⟨b,o,none⟩):=hvx
  obtain⟨us,hus,hau⟩:=hvy
  have h2:=hs.hp key
  rw[hk] at h2
  obtain⟨vs,t,hc,ha⟩:=h2
  have hlen:=ha.length
  have hlu:=hau.length
  have ho':o+n≤vs.length:=by rw[hlen];simpa using ho
  refine⟨w.setRow b (vs.take o++us++vs.drop (o+us.length)).toArray,?_,(),F,Ds,SimF.putNone (hs.row key _ _ (by rw[hk];rfl) (fun b' hb'=>by rw[hk];exact hb') ?_)⟩
  ·have:=rM (P:=P) (vs:=us) ht O hc (by simpa using ho') (h1.all hau)
   simp only [execOp,hvx,hus,Instr.storeAt,Instr.sureAddr,Sem.run_bind,Sem.run_pure,Result.andThen_ok]
   rw[this];rfl
  ·exact⟨_,t,setRow_heap w b _ _ t _ hc,(ha.splice o hau).st (fun _ h=>h) (hs.rowStay _ (key:=key) (by rw[hk];rfl))⟩) (fun _=>k)
theorem Els.splice {α:Type} {F:Fz} {n:Nat} {enc:α→List AV} {xs:List α} {vs us:List Value} (h:Els w F n enc xs vs) {i j:Nat} {y y':α} (hi:xs[i]?=some y) {cs':List AV} (hu:All2 w F cs' us) (hj:j+cs'.length≤n)
 (he:enc y'=(enc y).take j++cs'++(enc y).drop (j+cs'.length)):
 Els w F n enc (xs.set i y') (vs.take (i*n+j)++us++vs.drop (i*n+j+us.length)):=by
 have hlt:i<xs.length:=(List.getElem?_eq_some_iff.1 hi).1
 have hle:(i+1)*n≤xs.length*n:=Nat.mul_le_mul_right n hlt
 rw[Nat.add_mul] at hle
 have hlen:=h.len
 have hul:=hu.length
 have hel:=h.el i y hi
 have h2:All2 w F (enc y') (((vs.drop (i*n)).take n).take j++us++((vs.drop (i*n)).take n).drop (j+us.length)):=by
  rw[he];exact hel.splice j hu
 have h3:=h.set (y:=y') hlt (us:=((vs.drop (i*n)).take n).take j++us++((vs.drop (i*n)).take n).drop (j+us.length)) (by simp;omega) h2
 have e:vs.take (i*n)++(((vs.drop (i*n)).take n).take j++us++((vs.drop (i*n)).take n).drop (j+us.length))++vs.drop (i*n+n)=vs.take (i*n+j)++us++vs.drop (i*n+j+us.length):=by
  have e1:vs.take (i*n+j)=vs.take (i*n)++((vs.drop (i*n)).take n).take j:=by
   rw[List.take_take,Nat.min_eq_left O,List.take_add]
  have e2:vs.drop (i*n+j+us.length)=((vs.drop (i*n)).take n).drop (j+us.length)++vs.drop (i*n+n):=by
   have:vs.drop (i*n+j+us.length)=(vs.drop (i*n)).drop (j+us.length):=by rw[List.drop_drop,Nat.add_assoc]
   rw[this]
   conv=>lhs;rw[←List.take_append_drop n (vs.drop (i*n))]
   rw[List.drop_append_of_le_length (by simp;omega),List.drop_drop]
  rw[e1,e2];simp[List.append_assoc]
 rw[←e];exact h3
theorem Bp {α:Type} {v:Value} {et n:Nat} {enc:α→List AV} {xs:List α} {F:Fz} (h:(own v et n enc xs).p w F) {i j:Nat} {y y':α} (hi:xs[i]?=some y) {b l c:Nat} (hv:v= .slice (some ⟨b,0,none⟩) l c)
 {cs':List AV} {us:List Value} (hu:All2 w F cs' us) (hj:j+cs'.length≤n) (he:enc y'=(enc y).take j++cs'++(enc y).drop (j+cs'.length)) (hF:¬F b):
 ∃cur:Array Value,w.heap[b]?=some (.cells cur et (0,0))∧i*n+j+us.length≤cur.size∧
  (own v et n enc (xs.set i y')).p (w.setRow b (cur.toList.take (i*n+j)++us++cur.toList.drop (i*n+j+us.length)).toArray) F:=by
 have hlt:i<xs.length:=(List.getElem?_eq_some_iff.1 hi).1
 have hle:(i+1)*n≤xs.length*n:=Nat.mul_le_mul_right n hlt
 rw[Nat.add_mul] at hle
 have hul:=hu.length
 obtain⟨hm,vs,h,hels⟩:=h
 have hlen:=hels.len
 rcases h.2 with⟨hv',hx⟩|⟨b',cap,cur,hv',h0,hc,hcap,hmx,hsz,htake⟩
 ·omega
 ·have hbb:b=b':=by rw[hv] at hv';simp at hv';exact hv'.1
  subst hbb
  have hcl:xs.length*n≤cur.size:=by rw[hsz];exact Nat.mul_le_mul_right n hcap
  refine⟨cur,hc,O,by simpa using hm,vs.take (i*n+j)++us++vs.drop (i*n+j+us.length),⟨?_,.inr ⟨b,cap,_,by simpa using hv',h0,setRow_heap w b cur _ et _ hc,by simpa using hcap,hmx,?_,?_⟩⟩,?_⟩
  ·simp;omega
  ·simp;omega
  ·simp only [List.length_set]
   rw[←htake]
   apply List.ext_getElem?
   intro t
   have m1:min (i*n+j) cur.size=i*n+j:=by omega
   have m2:min (xs.length*n) cur.size=xs.length*n:=by omega
   have m3:min (i*n+j) (xs.length*n)=i*n+j:=by omega
   simp only [List.getElem?_take,List.getElem?_append,List.length_append,List.length_take,List.getElem?_drop,Array.length_toList,m1,m2,m3]
   by_cases h1:t<xs.length*n
   ·rw[if_pos h1]
    by_cases h2:t<i*n+j+us.length
    ·rw[if_pos h2,if_pos h2]
     by_cases h3:t<i*n+j
     ·rw[if_pos h3,if_pos h3,if_pos h3,if_pos h3,if_pos h1]
     ·rw[if_neg h3,if_neg h3]
    ·rw[if_neg h2,if_neg h2,if_pos O]
   ·rw[if_neg h1,if_neg O,if_neg O]
  ·exact(hels.splice hi hu hj he).st (fun _ h=>h) (fun x hx=>setRow_other w b x _ (fun e=>hF (e▸hx)))
theorem Fv {α:Type} {T n key i j et:Nat} {v:Value} {enc:α→List AV} {xs:List α} {x z:Operand} {y y':α} {φ:AV} (h:Sim B E H a w) (hx:lkO x E=dL key v n i j) (hk:lkH key H=own v et n enc xs)
 (hz:lkO z E=φ) [h1:One φ] (ht:dI P T) (hy:xs[i]?=some y) (hj:Nat.blt j n=true) (he:enc y'=(enc y).take j++ [φ]++(enc y).drop (j+1))
 (k:∀a w,Sim B E ((key,own v et n enc (xs.set i y'))::H) a w→wl r P ops Q rest a w):
 wl r P ops Q ({ dst:=none,op:= .store T x z,type:=ty,pos:=pos,after:=af,guard:=none }::rest) a w:=
 uM (ι:=Unit) (E':=fun _=>E) (H':=fun _=>(key,own v et n enc (xs.set i y'))::H) h rfl (fun _=>nofun) (fun F Ds hs=>by
  have hvx:=hs.opd x
  have hvz:=hs.opd z
  rw[hx] at hvx
  rw[hz] at hvz
  obtain⟨b,l,c,hv,hu⟩:=hvx
  have h3:=hs.hp key
  rw[hk] at h3
  have hfoot:(lkH key H).foot b:=by rw[hk];subst hv;rfl
  have hj':j<n:=by simpa using hj
  obtain⟨cur,hc,hl,hp⟩:=Bp h3 hy hv (cs':= [φ]) (us:= [a.eval z]) ⟨hvz,tV⟩ (by simp;omega) he (hs.hF key b hfoot)
  refine⟨_,?_,(),F,Ds,SimF.putNone (hs.row key _ _ hfoot (fun b' hb'=>by rw[hk];exact hb') hp)⟩
  have:=run_storeVar_one (P:=P) (v:=a.eval z) ht hc (o:=i*n+j) (by simp at hl;omega) (h1.one hvz)
  simp only [execOp,hu,Instr.storeAt,Instr.sureAddr,Sem.run_bind,Sem.run_pure,Result.andThen_ok]
  rw[this];rfl) (fun _=>k)
end
end AL
namespace AL
open Go
attribute [local semireducible] any eqv agg tup fp ptr sl eG emp cell own obj osl dL
section
variable {P:Program} {r:Option Nat} {ops:Array Oper} {Q:Exit→Act→World→Prop} {rest:List Oper} {B:Base} {E:Env} {H:Hp} {a:Act} {w:World}
variable {d ty:Nat} {pos:String} {af:Array Edge}
structure dM (P:Program) (t:Nat) (cs:List Value):Prop where
 z:∃v,(∀w,(zeroValue t).run P w= .ok v w)∧v.cells=cs.toArray
theorem cE {t:Nat} {cs:List Value} (h:(P.info? t).map (fun i=>i.zero.map (fun v=>v.cells))=some (some cs.toArray)):dM P t cs:=by
 cases hi:P.info? t with
 |none=>simp[hi] at h
 |some i=>
  cases hz:i.zero with
  |none=>simp[hi,hz] at h
  |some v=>
   simp[hi,hz] at h
   exact⟨v,fun w=>by simp[zeroValue,typeInfo,program,hi,Sem.run,hz],h⟩
def pP (cs:List AV) (vs:List Value):Prop:=∀w F,All2 w F cs vs
theorem Sim.newNil {α:Type} (h:Sim B E H a w) (key e n:Nat) (enc:α→List AV):Sim B E ((key,own (.slice none 0 0) e n enc [])::H) a w:=by
 obtain⟨F,Ds,h⟩:=h
 exact⟨F,Ds,h.upd key _ (Nat.le_refl _) rfl rfl rfl (fun _ _ _=>rfl) (fun b hb=>hb.elim) ⟨Nat.zero_le _,[],⟨by simp,.inl ⟨rfl,rfl⟩⟩,Els.nil _ _ _ _⟩⟩
theorem SimF.freeze {F:Fz} {Ds:List Nat} (h:SimF B E H a w F Ds) (key:Nat):
 SimF B E ((key,emp)::H) a w (fun b=>F b∨(lkH key H).foot b) Ds:=
 have h0:=h.upd key emp (Nat.le_refl _) rfl rfl rfl (fun _ _ _=>rfl) (fun b hb=>hb.elim) trivial
 { h0 with
   env:=fun t=>(lk t E).st (fun _ hb=> .inl hb) (fun _ _=>rfl) (h.env t)
   hp:=fun j=>(lkH j _).st (fun _ hb=> .inl hb) (fun _ _=>rfl) (h0.hp j)
   hF:=fun j b hj hFb=>by
    rcases hFb with hFb|hFb
    ·exact h0.hF j b hj hFb
    ·by_cases e:key=j
     ·subst e;rw[bB] at hj;exact hj
     ·rw[bG _ _ e] at hj;exact h.hd j key b (Ne.symm e) hj hFb
   Fb:=fun b hb=>by
    rcases hb with hb|hb
    ·exact h.Fb b hb
    ·exact⟨(h.hN key b hb).1,.inr (h.hN key b hb).2⟩
   F0:=fun b hb=> .inl (h.F0 b hb)
   dD:=fun D hD=>by
    obtain⟨h1,h2,h3,h4⟩:=h0.dD D hD
    exact⟨h1,fun hF=>hF.elim h2 ((h.dD D hD).2.2.2 key),h3,h4⟩ }
theorem Fw {α:Type} {v:Value} {et n:Nat} {enc:α→List AV} {xs:List α} {F:Fz} (h:(own v et n enc xs).p w F):(sl n enc xs).p w (fun b=>F b∨ownB v b) v:=by
 obtain⟨hm,vs,h,he⟩:=h
 rcases h.2 with⟨hv,hx⟩|⟨b,cap,cur,hv,h0,hc,hcap,hmx,hsz,htake⟩
 ·exact⟨none,0,by simp[hv,hx],O,hm,fun hne=>absurd (List.eq_nil_of_length_eq_zero hx) hne⟩
 ·refine⟨some ⟨b,0,none⟩,cap,hv,hcap,hm,fun _=>⟨b,0,vs,rfl,.inr (by subst hv;rfl),⟨cur,et,(0,0),hc,fun j u hj=> ?_⟩,he.st (fun _ h=> .inl h) (fun _ _=>rfl)⟩⟩
  rw[←htake,List.getElem?_take] at hj
  split at hj
  ·simpa using hj
  ·simp at hj
theorem Sim.freeze {α:Type} {v:Value} {et n:Nat} {enc:α→List AV} {xs:List α} (h:Sim B E H a w) (key t:Nat) (hk:lkH key H=own v et n enc xs) (ht:lk t E=osl key v):
 Sim B ((t,sl n enc xs)::E) ((key,emp)::H) a w:=by
 obtain⟨F,Ds,h⟩:=h
 refine⟨_,Ds,{ h.freeze key with env:=fun s=> ?_ }⟩
 by_cases e:t=s
 ·subst e
  rw[cR]
  have h1:=h.env t
  rw[ht] at h1
  have h1:a.tmps.getD t undef=v:=h1
  rw[h1]
  have h2:=h.hp key
  rw[hk] at h2 ⊢
  exact Fw h2
 ·rw[bU _ _ e];exact(h.freeze key).env s
theorem Sim.freezeC {α:Type} {v:Value} {et n kc b o:Nat} {cs:List AV} {enc:α→List AV} {xs:List α} (h:Sim B E H a w) (key:Nat) (hk:lkH key H=own v et n enc xs) (hc:lkH kc H=cell b cs) (hne:kc≠key)
 (ho:cs[o]?=some (osl key v)):Sim B E ((kc,cell b (cs.set o (sl n enc xs)))::(key,emp)::H) a w:=by
 obtain⟨F,Ds,h⟩:=h
 have h0:=h.freeze key
 have hl:lkH kc ((key,emp)::H)=cell b cs:=by rw[bG _ _ (Ne.symm hne)];exact hc
 refine⟨_,Ds,h0.upd kc _ (Nat.le_refl _) rfl rfl rfl (fun _ _ _=>rfl) (fun x hx=>⟨.inl (by rw[hl];exact hx),?_⟩) ?_⟩
 ·exact(h0.hN kc x (by rw[hl];exact hx)).1
 ·have h1:=h0.hp kc
  rw[hl] at h1
  obtain⟨vs,ty,hcell,ha⟩:=h1
  obtain⟨u,hu,hp⟩:=ha.get ho
  have hp:u=v:=hp
  subst hp
  refine⟨vs,ty,hcell,?_⟩
  have h2:=h.hp key
  rw[hk] at h2
  have h3:=ha.set o (Fw h2|>fun z=>by rw[hk];exact z)
  have e:vs.set o u=vs:=by
   apply List.ext_getElem?
   intro t
   by_cases ht:o=t
   ·subst ht
    rw[List.getElem?_set_self (List.getElem?_eq_some_iff.1 hu).1];exact hu.symm
   ·rw[List.getElem?_set_ne ht]
  rwa [e] at h3
structure dW (P:Program) (T e n by_:Nat) (z:List Value):Prop where
 und:P.underlying T=some (.slice e)
 info:∃i,P.info? e=some i∧i.size=n∧i.bytes=by_∧∃v,i.zero=some v∧v.cells=z.toArray∧v.cells.size=n
 pos:0<n
def Ro (P:Program) (T e n by_:Nat) (z:List Value):Bool:=
 (match P.underlying T with|some (.slice e')=>Nat.beq e' e|_=>false)&&Nat.blt 0 n&&Nat.beq z.length n&&
 (match P.info? e with|some i=>Nat.beq i.size n&&Nat.beq i.bytes by_|none=>false)
theorem gP {T e n by_:Nat} {z:List Value} (h:Ro P T e n by_ z=true) (hz:(P.info? e).map (fun i=>i.zero.map (fun v=>v.cells))=some (some z.toArray)):dW P T e n by_ z:=by
 simp only [Ro,Bool.and_eq_true] at h
 obtain⟨⟨⟨h1,h2⟩,h3⟩,h4⟩:=h
 refine⟨?_,?_,by simpa using h2⟩
 ·cases hu:P.underlying T with
  |none=>simp[hu] at h1
  |some D=>
   rw[hu] at h1
   cases D<;>simp at h1
   simp[h1]
 ·cases hi:P.info? e with
  |none=>simp[hi] at h4
  |some i=>
   rw[hi] at h4 hz
   cases hv:i.zero with
   |none=>simp[hv] at hz
   |some v=>
    simp[hv] at hz
    simp at h4
    exact⟨i,rfl,h4.1,h4.2,v,hv,hz,by rw[hz];simpa using h3⟩
theorem uP {z:Array Value} {n m:Nat} (hz:z.size=n) (hn:0<n):(madeCells z (m*n)).toList=(List.replicate m z.toList).flatten:=by
 apply List.ext_getElem?
 intro t
 by_cases ht:t<m*n
 ·have h1:t/n<m:=(Nat.div_lt_iff_lt_mul hn).2 ht
  have h2:t % n<n:=Nat.mod_lt _ hn
  have e:(List.replicate m z.toList).flatten[t]?=z[t % n]?:=by
   induction m generalizing t with
   |zero=>simp at h1
   |succ m ih=>
    rw[List.replicate_succ,List.flatten_cons]
    by_cases hlt:t<n
    ·rw[List.getElem?_append_left (by simpa [hz] using hlt),Nat.mod_eq_of_lt hlt];simp
    ·rw[List.getElem?_append_right (by simp[hz];omega)]
     have e1:t- z.toList.length=t- n:=by simp[hz]
     have hge:n≤t:=by omega
     have e2:(t- n) % n=t % n:=by
      conv=>rhs;rw[←Nat.sub_add_cancel hge]
      rw[Nat.add_mod_right]
     have e3:(t- n)/n<m:=by
      have:t/n=(t- n)/n+1:=by
        conv=>lhs;rw[←Nat.sub_add_cancel hge]
        rw[Nat.add_div_right _ hn]
      omega
     rw[e1,ih (t- n) (by have:=(Nat.div_lt_iff_lt_mul hn).1 e3;exact this) e3 (by rw[e2];exact h2),e2]
  rw[e]
  simp[madeCells,ht,hz,h2]
 ·rw[List.getElem?_eq_none (by simp[size_madeCells];omega),List.getElem?_eq_none (by simp[hz];omega)]
theorem Els.replicate {α:Type} {F:Fz} {enc:α→List AV} {y:α} {z:List Value} (hy:pP (enc y) z) (m:Nat):Els w F z.length enc (List.replicate m y) (List.replicate m z).flatten:=by
 induction m with
 |zero=>exact⟨by simp,fun i x hi=>by simp at hi⟩
 |succ m ih=>
  rw[List.replicate_succ',List.replicate_succ',List.flatten_append]
  exact ih.append (by simpa using Els.one (hy w F))
theorem nR {e n k:Nat} {v:Value} {vs:List Value} (h:w.ownsRow 0 e n v k vs) {b:Nat} (hb:ownB v b):b<w.heap.size:=by
 rcases h.2 with⟨hv,_⟩|⟨g,cap,cur,hv,_,hg,_⟩
 ·subst hv;exact hb.elim
 ·subst hv
  have hb:b=g:=hb
  subst hb
  exact(Array.getElem?_eq_some_iff.1 hg).1
theorem SimF.grown {F:Fz} {Ds:List Nat} (h:SimF B E H a w F Ds) (key:Nat) (x:HA) {w':World} {row:Option Nat} (hg:w.grownBy w' row) (hrow:∀b,row=some b→(lkH key H).foot b)
 (hf:∀b,x.foot b→((lkH key H).foot b∨w.heap.size≤b)∧b<w'.heap.size) (hx:x.p w' F):SimF B E ((key,x)::H) a w' F Ds:=
 h.upd key x hg.size hg.os hg.tape hg.output (fun b hb hnf=>hg.block b hb (fun e=>hnf (hrow b e.symm))) hf hx
theorem SimF.grownStay {F:Fz} {Ds:List Nat} (h:SimF B E H a w F Ds) {key:Nat} {w':World} {row:Option Nat} (hg:w.grownBy w' row) (hrow:∀b,row=some b→(lkH key H).foot b):∀b,F b→w'.heap[b]?=w.heap[b]?:=
 fun b hb=>hg.block b (h.Fb b hb).1 (fun e=>h.hF key b (hrow b e.symm) hb)
theorem Bq {e n by_ T:Nat} {z:List Value} (hT:dW P T e n by_ z) {ty:Nat} {v:Value} {k:Nat} {xs:List Value} (hown:w.ownsRow 0 e n v k xs) {ad:Addr} {m c:Nat} {news:List Value} (hl:news.length=m*n)
 (hnews:∀(j:Nat) (u:Value),news[j]?=some u→w.cell? (ad.add j)=some u) (h1:∀u∈news,u.oneCell'=true) (h63:k+m≤aN) (hby:(k+m)*by_≤aN):
 ∃v' w',(Builtin.append_ #[T,T] ty #[v,.slice (some ad) m c]).run P w= .ok v' w'∧w'.ownsRow 0 e n v' (k+m) (xs++news)∧w.grownBy w' v.ownBlock∧(∀b,ownB v' b→ownB v b∨w.heap.size≤b):=by
 obtain⟨i,hi,hsz,hb,zv,hz,hcells,hzs⟩:=hT.info
 have h63':k+m≤maxLen:=by unfold maxLen;unfold aN at h63;omega
 have hby':(k+m)*by_≤140737488355328:=by unfold aN at hby;omega
 rcases hown.2 with⟨hv,hk⟩|⟨g,cap,cur,hv,hg0,hg,hcap,hcm,hcs,htake⟩
 ·have hown':w.ownsRow w.heap.size e n v k xs:=⟨hown.1,.inl ⟨hv,hk⟩⟩
  obtain⟨v',w',hr,ho,hgr,_⟩:=run_append_own (P:=P) w w.heap.size T ty e i zv n by_ hT.und hi hz hsz hb hzs hT.pos v k xs hown' ad m c news hl hnews h1 h63' hby' (Nat.le_refl _)
  refine⟨v',w',hr,⟨ho.1,?_⟩,hgr,fun b hbb=> ?_⟩
  ·rcases ho.2 with h|⟨g,cap,cur,h1,_,h2⟩
   ·exact .inl h
   ·exact .inr ⟨g,cap,cur,h1,Nat.zero_le _,h2⟩
  ·rcases ho.2 with⟨h,_⟩|⟨g,cap,cur,h1,h2,_⟩
   ·subst h;exact hbb.elim
   ·subst h1;have:b=g:=hbb
    omega
 ·subst hv
  by_cases hroom:k+m≤cap
  ·obtain⟨w',hr,ho,hgr⟩:=run_append_fits (P:=P) w 0 T ty e i n hT.und hi hsz g k cap xs hown ad m c news hl hnews h1 hroom
   exact⟨_,w',hr,ho,hgr,fun b hb=> .inl hb⟩
  ·subst hsz
   subst hb
   have hlen:(xs++news).length=(k+m)*i.size:=by rw[List.length_append,hown.1,hl,Nat.add_mul]
   have holds:∀(j:Nat) (u:Value),xs[j]?=some u→w.cell? ((⟨g,0,none⟩:Addr).add j)=some u:=hown.cells (g:=g) rfl
   have hr:=run_append_grow (P:=P) w T ty e i zv hT.und hi hz ⟨g,0,none⟩ k cap xs hown.1 holds ad m c news hl hnews O (by unfold aN at h63;omega) (growslice_fits O hby')
   have hge:=grownCap_ge w (k+m) cap e
   have hcm':grownCap w (k+m) cap e≤maxLen:=grownCap_le_maxLen w (k+m) cap e h63'
   refine⟨_,_,hr,⟨hlen,.inr ⟨w.heap.size,_,_,rfl,Nat.zero_le _,heap_alloc_new w.drew _,hge,hcm',?_,?_⟩⟩,⟨rfl,rfl,rfl,by simp,fun k hk _=>heap_alloc_old w.drew _ k hk⟩,fun b hb=> ?_⟩
   ·simp only [Array.size_append,List.size_toArray,size_zeroCells,hzs,hown.1,hl,←Nat.add_mul]
    congr 1
    omega
   ·simp only [Array.toList_append,List.append_assoc]
    rw[←List.append_assoc,←hlen]
    exact List.take_left
   ·have:b=w.heap.size:=hb
    exact .inr O
theorem Aa {e n by_ T:Nat} {z:List Value} (hT:dW P T e n by_ z) {ty:Nat} {v:Value} {k:Nat} {xs:List Value} (hown:w.ownsRow 0 e n v k xs) (A:Option Addr) (c:Nat):
 (Builtin.append_ #[T,T] ty #[v,.slice A 0 c]).run P w= .ok v w:=by
 obtain⟨i,hi,hsz,hb,zv,hz,hcells,hzs⟩:=hT.info
 have hle:∃B cap,v= .slice B k cap∧k≤cap:=by
  rcases hown.2 with⟨hv,hk⟩|⟨g,cap,cur,hv,hg0,hg,hcap,_⟩
  ·exact⟨none,0,by simp[hv,hk],O⟩
  ·exact⟨_,cap,hv,hcap⟩
 obtain⟨B,cap,rfl,hcap⟩:=hle
 cases A<;>cases B<;>simp[Builtin.append_,run_underlying hT.und,Go.sizeOf,typeInfo,program,Sem.run,hi,Builtin.lenOf,Builtin.firstCells,loadCells,loadCellsFrom,hcap,storeCells]
end
end AL
namespace AL
open Go
attribute [local semireducible] any eqv agg tup fp ptr sl eG emp cell own obj osl dL
def fQ (H:Hp):Fz:=fun b=> ∃k,(lkH k H).foot b
structure HpOk (H:Hp) (w:World) (F:Fz):Prop where
 hp:∀k,(lkH k H).p w F
 hF:∀k b,(lkH k H).foot b→¬F b
 hd:∀k k' b,k≠k'→(lkH k H).foot b→¬(lkH k' H).foot b
 hN:∀k b,(lkH k H).foot b→b<w.heap.size
structure Left {ι:Type} (w:World) (F:Fz) (Hi:Hp) (res:Nat→ι→AV) (Ho:ι→Hp) (i:ι) (v:Value) (F':Fz) (w':World):Prop where
 res:(res w.heap.size i).p w' F' v
 ok:HpOk (Ho i) w' F'
 sub:∀b,F b→F' b
 new:∀b,F' b→F b∨(w.heap.size≤b∧b<w'.heap.size)∨fQ Hi b
 foot:∀b,fQ (Ho i) b→w.heap.size≤b∨fQ Hi b
 old:∀b,b<w.heap.size→¬fQ Hi b→w'.heap[b]?=w.heap[b]?
 size:w.heap.size≤w'.heap.size
 os:w'.os=w.os
 tape:w'.tape=w.tape
 out:w'.output=w.output
def Fn (P:Program) (f:FuncId) (args:List AV) (Hi:Hp) {ι:Type} (res:Nat→ι→AV) (Ho:ι→Hp):Prop:=
 ∀(w:World) (F:Fz) (vs:List Value),All2 w F args vs→(∀b,F b→b<w.heap.size)→HpOk Hi w F→
  Calls P f vs.toArray w fun e w'=> ∃i v F',e= .returned v∧Left w F Hi res Ho i v F' w'
abbrev Fn0 (P:Program) (f:FuncId) (args:List AV) (φ:AV):Prop:=Fn P f args [] (ι:=Unit) (fun _ _=>φ) (fun _=> [])
def lY:Nat→List AV→Env
 |_,[]=> []
 |k,φ::r=>(k,φ)::lY (k+1) r
theorem DY {w:World} {F:Fz}:∀{args:List AV} {vs:List Value} (k:Nat),All2 w F args vs→∀(t:Nat),(lk (k+t) (lY k args)).p w F ((vs++List.replicate 0 undef).getD t undef)
 | [],[],k,_,t=>trivial
 |φ::cs,v::vs,k,h,0=>by simp[lY,lk];exact h.1
 |φ::cs,v::vs,k,h,t+1=>by
  have:=DY (k+1) h.2 t
  rw[show k+(t+1)=(k+1)+t by omega]
  have e:lk (k+1+t) (lY k (φ::cs))=lk (k+1+t) (lY (k+1) cs):=bU _ _ O
  rw[e]
  simpa using this
 | [],_::_,_,h,_=>h.elim
 |_::_,[],_,h,_=>h.elim
theorem Br {w:World} {F:Fz}:∀(args:List AV) (k t:Nat),args.length≤t→lk (k+t) (lY k args)=any
 | [],_,_,_=>rfl
 |φ::cs,k,t,h=>by
  obtain⟨s,rfl⟩:∃s,t=s+1:=⟨t- 1,by simp at h;omega⟩
  show lk (k+(s+1)) ((k,φ)::lY (k+1) cs)=any
  rw[bU _ _ O,show k+(s+1)=(k+1)+s by omega]
  exact Br (w:=w) (F:=F) cs (k+1) s (by simpa using h)
section
variable {P:Program} {ι:Type}
def vS (P:Program) (fn:Func) (B:Base) (res:Nat→ι→AV) (Ho:ι→Hp):Exit→Act→World→Prop
 | .normal,a,w| .ret,a,w=> ∃i F Ds E,SimF B E (Ho i) a w F Ds∧∃v,(∀w',(∀b,b∉Ds→w'.heap[b]?=w.heap[b]?)→(results fn a.tmps).run P w'= .ok v w')∧(res B.N i).p w F v
 |_,_,_=>False
theorem xH {fn:Func} {tmps:Array Value} {R:Ending→World→Prop} {v:Value}:∀(Ds:List Nat) (w:World),(∀D∈Ds,w.heap[D]?=some (.deferred (some [])))→Ds.Nodup→
 (∀w',w'.heap.size=w.heap.size→w'.os=w.os→w'.tape=w.tape→w'.output=w.output→(∀b,b∉Ds→w'.heap[b]?=w.heap[b]?)→(results fn tmps).run P w'= .ok v w'∧R (.returned v) w')→
 LeavesInM (FW none) 0 P fn tmps R (Ds.map fun D=> { target:= .collected D,args:= #[] }) .returning w
 | [],w,_,_,h=>by
   obtain⟨h1,h2⟩:=h w rfl rfl rfl rfl (fun _ _=>rfl)
   exact⟨v,h1,h2⟩
 |D::Ds,w,hD,hn,h=>by
  have h0:=hD D (by simp)
  have hlt:D<w.heap.size:=(Array.getElem?_eq_some_iff.1 h0).1
  have hne:∀b,b≠D→(w.heap.setIfInBounds D (Obj.deferred none))[b]?=w.heap[b]?:=fun b hb=>by
   rw[Array.getElem?_setIfInBounds_ne (Ne.symm hb)]
  refine⟨by simp,.inl ⟨D,{ w with heap:=w.heap.setIfInBounds D (.deferred none) },rfl,?_,xH (v:=v) Ds _ (fun D' hD'=> ?_) (List.nodup_cons.1 hn).2 (fun w' hs hos ht ho hb=> ?_)⟩⟩
  ·simp[Instr.takeDeferred,getObj,setObj,Sem.run,h0]
  ·rw[hne D' (fun e=>(List.nodup_cons.1 hn).1 (e▸hD'))]
   exact hD D' (by simp[hD'])
  ·refine h w' (by simpa using hs) hos ht ho (fun b hb'=> ?_)
   simp at hb'
   rw[hb b hb'.2,hne b hb'.1]
theorem Xg {f:FuncId} {fn:Func} {c:Code} {args:List AV} {Hi:Hp} {res:Nat→ι→AV} {Ho:ι→Hp} (hf:P.funcs[f]?=some fn) (hb:fn.body=some c) (hl:Nat.ble args.length fn.ntmps=true) (w:World) (F:Fz) (vs:List Value)
 (h:∀(a:Act),Sim { w0:=w,M:=fQ Hi,F0:=F,nt:=fn.ntmps } (lY 0 args) Hi a w→
   c.wpIn (FW none) 0 P (vS P fn { w0:=w,M:=fQ Hi,F0:=F,nt:=fn.ntmps } res Ho) a w) (hvs:All2 w F args vs) (hF:∀b,F b→b<w.heap.size) (hH:HpOk Hi w F):
 Calls P f vs.toArray w fun e w'=> ∃i v F',e= .returned v∧Left w F Hi res Ho i v F' w':=by
 refine(callsIn_wide (n:=0)).1 (callsIn_of_wp_marks (F:=Fence.wide) (n:=0) hf hb trivial ?_ rfl)
 have hlen:=hvs.length
 have hl':args.length≤fn.ntmps:=by simpa using hl
 refine wpIn_mono (h _ ⟨F,[],?_⟩) ?_
 ·exact {
   sz:=by simp[hlen];omega
   env:=fun t=>by
    by_cases ht:t<vs.length
    ·have:=DY 0 hvs t
     simp only [Nat.zero_add,List.replicate_zero,List.append_nil] at this
     have e:(vs.toArray++Array.replicate (fn.ntmps- vs.toArray.size) undef).getD t undef=vs.getD t undef:=by
      simp[Array.getD,ht]
      intro hc;omega
     rw[e];exact this
    ·have:=Br (w:=w) (F:=F) args 0 t O
     rw[Nat.zero_add] at this
     rw[this];trivial
   hp:=hH.hp
   hF:=hH.hF
   hd:=hH.hd
   hN:=fun k b hb=>⟨hH.hN k b hb,.inr ⟨k,hb⟩⟩
   Fb:=fun b hb=>⟨hF b hb,.inl hb⟩
   F0:=fun _ hb=>hb
   Ns:=Nat.le_refl _
   fr:=fun _ _ _=>rfl
   os:=rfl
   tp:=rfl
   out:=rfl
   df:=rfl
   dn:=List.nodup_nil
   dD:=fun D hD=>by simp at hD }
 ·have fin:∀(a:Act) (w':World),(∃i F' Ds E,SimF { w0:=w,M:=fQ Hi,F0:=F,nt:=fn.ntmps } E (Ho i) a w' F' Ds∧∃v,(∀w'',(∀b,b∉Ds→w''.heap[b]?=w'.heap[b]?)→(results fn a.tmps).run P w''= .ok v w'')∧(res w.heap.size i).p w' F' v)→
   LeavesInM (FW none) 0 P fn a.tmps (fun e w'=> ∃i v F',e= .returned v∧AL.Left w F Hi res Ho i v F' w') a.defers .returning w':=by
   intro a w' ⟨i,F',Ds,E,hs,v,hr,hp⟩
   rw[hs.df]
   refine xH (v:=v) Ds w' (fun D hD=>(hs.dD D hD).1) hs.dn (fun w'' hsz hos htp hout hb=>⟨hr w'' hb,i,v,F',rfl,?_⟩)
   have hFb:∀b,F' b→w''.heap[b]?=w'.heap[b]?:=fun b hb'=>hb b (fun hD=>(hs.dD b hD).2.1 hb')
   have hHb:∀k b,(lkH k (Ho i)).foot b→w''.heap[b]?=w'.heap[b]?:=fun k b hb'=>hb b (fun hD=>(hs.dD b hD).2.2.2 k hb')
   exact {
    res:=(res w.heap.size i).st (fun _ h=>h) hFb hp
    ok:=⟨fun k=>(lkH k (Ho i)).st (fun _ h=>h) (fun b hb'=>hb'.elim (hFb b) (hHb k b)) (hs.hp k),hs.hF,hs.hd,fun k b hb'=>by rw[hsz];exact(hs.hN k b hb').1⟩
    sub:=hs.F0
    new:=fun b hb'=>by
     obtain⟨h1,h2⟩:=hs.Fb b hb'
     rcases h2 with h2|h2|h2
     ·exact .inl h2
     ·exact .inr (.inl ⟨h2,by rw[hsz];exact h1⟩)
     ·exact .inr (.inr h2)
    foot:=fun b ⟨k,hb'⟩=>(hs.hN k b hb').2
    old:=fun b hlt hnf=>by
     rw[hb b (fun hD=>by have:=(hs.dD b hD).2.2.1;simp only [Base.N] at this;omega)]
     exact hs.fr b hlt hnf
    size:=by rw[hsz];exact hs.Ns
    os:=hos.trans hs.os
    tape:=htp.trans hs.tp
    out:=hout.trans hs.out }
  intro e a' w' hq
  cases e with
  |normal=>exact fin a' w' hq
  |ret=>exact fin a' w' hq
  |_=>exact hq.elim
theorem Xh {f:FuncId} {fn:Func} {c:Code} {args:List AV} {Hi:Hp} {res:Nat→ι→AV} {Ho:ι→Hp} (hf:P.funcs[f]?=some fn) (hb:fn.body=some c) (hl:Nat.ble args.length fn.ntmps=true)
 (h:∀(w0:World) (F0:Fz) (a:Act) (w:World),Sim { w0:=w0,M:=fQ Hi,F0:=F0,nt:=fn.ntmps } (lY 0 args) Hi a w→
   c.wpIn (FW none) 0 P (vS P fn { w0:=w0,M:=fQ Hi,F0:=F0,nt:=fn.ntmps } res Ho) a w):Fn P f args Hi res Ho:=fun w F vs hvs hF hH=>Xg hf hb hl w F vs (fun a hs=>h w F a w hs) hvs hF hH
end
section
variable {P:Program} {r:Option Nat} {ops:Array Oper} {Q:Exit→Act→World→Prop} {rest:List Oper} {B:Base} {E:Env} {H:Hp} {a:Act} {w:World}
variable {d ty:Nat} {pos:String} {af:Array Edge} {ι:Type}
def qW:Hp→Hp
 | []=> []
 |(k,_)::r=>(k,emp)::qW r
theorem qX (k:Nat):∀(H H':Hp),(lkH k (H++H')=lkH k H∧∃x∈H,x.1=k)∨(lkH k (H++H')=lkH k H'∧lkH k H=emp∧∀x∈H,x.1≠k)
 | [],H'=> .inr ⟨rfl,rfl,fun x hx=>by simp at hx⟩
 |(s,φ)::r,H'=>by
  by_cases e:s=k
  ·subst e
   exact .inl ⟨by rw[List.cons_append,bB,bB],(s,φ),by simp,rfl⟩
  ·rw[List.cons_append,bG _ _ e,bG _ _ e]
   rcases qX k r H' with⟨h1,x,hx,hk⟩|⟨h1,h2,h3⟩
   ·exact .inl ⟨h1,x,List.mem_cons_of_mem _ hx,hk⟩
   ·exact .inr ⟨h1,h2,fun x hx=>by
      rcases List.mem_cons.1 hx with rfl|hx
      ·exact e
      ·exact h3 x hx⟩
theorem Fx (k:Nat):∀(H:Hp),lkH k (qW H)=emp
 | []=>rfl
 |(s,φ)::r=>by
  by_cases e:s=k
  ·subst e;exact bB _ _ _
  ·show lkH k ((s,emp)::qW r)=emp
   rw[bG _ _ e];exact Fx k r
theorem Bs (k:Nat):∀(H:Hp),(∃x∈qW H,x.1=k)↔∃x∈H,x.1=k
 | []=>by simp[qW]
 |(s,φ)::r=>by simp[qW,Bs k r]
def mQ (Ho Hi H:Hp):Hp:=Ho++(qW Hi++H)
theorem SimF.called {F:Fz} {Ds:List Nat} (h:SimF B E H a w F Ds) {Hi:Hp} (hHi:SubH Hi H) {res:Nat→ι→AV} {Ho:ι→Hp} {i:ι} {v:Value} {F':Fz} {w':World} (hl:Left w F Hi res Ho i v F' w')
 :SimF B E (mQ (Ho i) Hi H) a w' F' Ds:=by
 have hsub:∀k b,(lkH k Hi).foot b→(lkH k H).foot b:=fun k b hb=>(hHi.lk k).1 b hb
 have hfi:∀b,fQ Hi b→∃k,(lkH k Hi).foot b∧(lkH k H).foot b:=fun b ⟨k,hk⟩=>⟨k,hk,hsub k b hk⟩
 have hFw:∀b,F b→w'.heap[b]?=w.heap[b]?:=fun b hb=>hl.old b (h.Fb b hb).1 (fun hf=>by
  obtain⟨k,_,h2⟩:=hfi b hf
  exact h.hF k b h2 hb)
 have cases:∀k,lkH k (mQ (Ho i) Hi H)=lkH k (Ho i)∨(lkH k (mQ (Ho i) Hi H)=lkH k H∧∀b,(lkH k H).foot b→¬fQ Hi b)∨lkH k (mQ (Ho i) Hi H)=emp:=fun k=>by
  rcases qX k (Ho i) (qW Hi++H) with⟨h1,_⟩|⟨h1,h2,h3⟩
  ·exact .inl h1
  ·rcases qX k (qW Hi) H with⟨g1,_⟩|⟨g1,g2,g3⟩
   ·exact .inr (.inr (h1.trans (g1.trans (Fx k Hi))))
   ·refine .inr (.inl ⟨h1.trans g1,fun b hb hf=> ?_⟩)
    obtain⟨k',h4,h5⟩:=hfi b hf
    by_cases e:k=k'
    ·subst e
     have:∃x∈Hi,x.1=k:=by
      rcases qX k Hi [] with⟨_,hx⟩|⟨_,hx,_⟩
      ·exact hx
      ·rw[hx] at h4;exact h4.elim
     obtain⟨x,hx,hxk⟩:=(Bs k Hi).2 this
     exact g3 x hx hxk
    ·exact h.hd k k' b e hb h5
 have hnew:∀b,(∃k,(lkH k (Ho i)).foot b)→w.heap.size≤b∨∃k,(lkH k Hi).foot b∧(lkH k H).foot b:=fun b hb=>(hl.foot b hb).imp id (hfi b)
 exact {
  sz:=h.sz
  env:=fun t=>(lk t E).st hl.sub hFw (h.env t)
  hp:=fun k=>by
   rcases cases k with e|⟨e,hn⟩|e
   ·rw[e];exact hl.ok.hp k
   ·rw[e];exact(lkH k H).st hl.sub (fun b hb=>hb.elim (hFw b) (fun hf=>hl.old b (h.hN k b hf).1 (hn b hf))) (h.hp k)
   ·rw[e];trivial
  hF:=fun k b hb hFb=>by
   rcases cases k with e|⟨e,hn⟩|e
   ·rw[e] at hb;exact hl.ok.hF k b hb hFb
   ·rw[e] at hb
    rcases hl.new b hFb with h1|h1|h1
    ·exact h.hF k b hb h1
    ·exact absurd (h.hN k b hb).1 O
    ·exact hn b hb h1
   ·rw[e] at hb;exact hb
  hd:=fun k k' b hne hb hb'=>by
   rcases cases k with e|⟨e,hn⟩|e<;>rw[e] at hb
   ·rcases cases k' with e'|⟨e',hn'⟩|e'<;>rw[e'] at hb'
    ·exact hl.ok.hd k k' b hne hb hb'
    ·rcases hl.foot b ⟨k,hb⟩ with h1|h1
     ·exact absurd (h.hN k' b hb').1 O
     ·exact hn' b hb' h1
    ·exact hb'
   ·rcases cases k' with e'|⟨e',hn'⟩|e'<;>rw[e'] at hb'
    ·rcases hl.foot b ⟨k',hb'⟩ with h1|h1
     ·exact absurd (h.hN k b hb).1 O
     ·exact hn b hb h1
    ·exact h.hd k k' b hne hb hb'
    ·exact hb'
   ·exact hb
  hN:=fun k b hb=>by
   rcases cases k with e|⟨e,hn⟩|e<;>rw[e] at hb
   ·refine⟨hl.ok.hN k b hb,?_⟩
    rcases hnew b ⟨k,hb⟩ with h1|⟨k',_,h2⟩
    ·exact .inl (Nat.le_trans h.Ns h1)
    ·exact(h.hN k' b h2).2
   ·exact⟨Nat.lt_of_lt_of_le (h.hN k b hb).1 hl.size,(h.hN k b hb).2⟩
   ·exact hb.elim
  Fb:=fun b hb=>by
   rcases hl.new b hb with h1|h1|h1
   ·exact⟨Nat.lt_of_lt_of_le (h.Fb b h1).1 hl.size,(h.Fb b h1).2⟩
   ·exact⟨h1.2,.inr (.inl (Nat.le_trans h.Ns h1.1))⟩
   ·obtain⟨k,_,h2⟩:=hfi b h1
    exact⟨Nat.lt_of_lt_of_le (h.hN k b h2).1 hl.size,.inr (h.hN k b h2).2⟩
  F0:=fun b hb=>hl.sub b (h.F0 b hb)
  Ns:=Nat.le_trans h.Ns hl.size
  fr:=fun b hb hM=>by
   rw[hl.old b (Nat.lt_of_lt_of_le hb h.Ns) (fun hf=>by
    obtain⟨k,_,h2⟩:=hfi b hf
    exact(h.hN k b h2).2.elim (fun h3=>by omega) hM)]
   exact h.fr b hb hM
  os:=hl.os.trans h.os
  tp:=hl.tape.trans h.tp
  out:=hl.out.trans h.out
  df:=h.df
  dn:=h.dn
  dD:=fun D hD=>by
   obtain⟨h1,h2,h3,h4⟩:=h.dD D hD
   have hlt:D<w.heap.size:=(Array.getElem?_eq_some_iff.1 h1).1
   have hni:¬fQ Hi D:=fun hf=>by
    obtain⟨k,_,h5⟩:=hfi D hf
    exact h4 k h5
   refine⟨(hl.old D hlt hni).trans h1,fun hF=> ?_,h3,fun k hk=> ?_⟩
   ·rcases hl.new D hF with h5|h5|h5
    ·exact h2 h5
    ·omega
    ·exact hni h5
   ·rcases cases k with e|⟨e,hn⟩|e<;>rw[e] at hk
    ·rcases hl.foot D ⟨k,hk⟩ with h5|h5
     ·omega
     ·exact hni h5
    ·exact h4 k hk
    ·exact hk }
def opds:List Operand→Env→List AV
 | [],_=> []
 |x::r,E=>lkO x E::opds r E
theorem SimF.opds {F:Fz} {Ds:List Nat} (h:SimF B E H a w F Ds):∀(xs:List Operand),All2 w F (AL.opds xs E) (xs.map a.eval)
 | []=>trivial
 |x::r=>⟨h.opd x,SimF.opds h r⟩
theorem Fy {f:FuncId} {fn:Func} {c:Code} (hf:P.funcs[f]?=some fn) (hb:fn.body=some c) (hn:fn.name≠ "runtime.NumGoroutine") (args:Array Value) (w:World):(callFunc f args).run P w= .ok (.enter f args) w:=by
 simp[callFunc,program,Sem.run,hf,hn,hb]
structure Ent (P:Program) (f:FuncId):Prop where
 run:∀(args:Array Value) (w:World),(callFunc f args).run P w= .ok (.enter f args) w
theorem aR {f:FuncId} (h:(match P.funcs[f]? with|some fn=>fn.body.isSome&& !(fn.name== "runtime.NumGoroutine")|none=>false)=true):Ent P f:=by
 cases hf:P.funcs[f]? with
 |none=>simp[hf] at h
 |some fn=>
  rw[hf] at h
  simp at h
  obtain⟨c,hc⟩:=Option.isSome_iff_exists.1 h.1
  exact⟨Fy hf hc h.2⟩
theorem Aj {o:Oper} {f:FuncId} {args:Array Value} {R:Ending→World→Prop} (hg:o.guard=none) (hdf:∀c,o.op≠ .defer c) (hrun:(execOp a.eval o).run P w= .ok (.enter f args) w)
 (hc:Calls P f args w R) (hk:∀e w',R e w'→∃v,e= .returned v∧wl r P ops Q rest (a.put o.dst v) w'):wl r P ops Q (o::rest) a w:=by
 refine yV hg hdf ?_
 rw[hrun]
 refine⟨fun h=>by simp at h,?_⟩
 have:CallsIn Fence.wide 0 P f args w R:=(callsIn_wide (n:=0)).2 hc
 refine CallsIn.mono (F:=FW r) (n:=0) (R:=R) ⟨trivial,fun cs hr=>this.2 cs (fun d hd=>by cases hd)⟩ (fun e w' hR=> ?_)
 obtain⟨v,rfl,h⟩:=hk e w' hR
 exact h
theorem FA {f:FuncId} {xs:List Operand} {Hi:Hp} {res:Nat→ι→AV} {Ho:ι→Hp} {ts:Array TypeId} (h:Sim B E H a w) (hf:Fn P f (opds xs E) Hi res Ho) (he:Ent P f) (hHi:SubH Hi H)
 (k:∀N i a w,Sim B ((d,res N i)::E) (mQ (Ho i) Hi H) a w→wl r P ops Q rest a w) (hn:Nat.blt d B.nt=true:=by rfl):
 wl r P ops Q ({ dst:=some d,op:= .call { callee:= .value (.func f),args:=xs.toArray,argTypes:=ts },type:=ty,pos:=pos,after:=af,guard:=none }::rest) a w:=by
 obtain⟨F,Ds,hs⟩:=h
 have hH:HpOk Hi w F:=⟨fun k=>(hHi.lk k).2 (hs.hp k),fun k b hb=>hs.hF k b ((hHi.lk k).1 b hb),fun k k' b e hb hb'=>hs.hd k k' b e ((hHi.lk k).1 b hb) ((hHi.lk k').1 b hb'),fun k b hb=>(hs.hN k b ((hHi.lk k).1 b hb)).1⟩
 refine Aj (f:=f) (args:=(xs.map a.eval).toArray) rfl (fun _=>nofun) ?_ (hf w F _ (hs.opds xs) (fun b hb=>(hs.Fb b hb).1) hH) (fun e w' hR=> ?_)
 ·simp[execOp,resolve,Act.eval,Deferred.ofValue,invoke,he.run]
 ·obtain⟨i,v,F',rfl,hl⟩:=hR
  exact⟨v,rfl,k w.heap.size i _ _ ⟨F',Ds,(hs.called hHi hl).put (by simpa using hn) hl.res⟩⟩
theorem Sj {f:FuncId} {xs:List Operand} {φ:AV} {ts:Array TypeId} (h:Sim B E H a w) (hf:Fn0 P f (opds xs E) φ) (he:Ent P f)
 (k:∀a w,Sim B ((d,φ)::E) H a w→wl r P ops Q rest a w) (hn:Nat.blt d B.nt=true:=by rfl):
 wl r P ops Q ({ dst:=some d,op:= .call { callee:= .value (.func f),args:=xs.toArray,argTypes:=ts },type:=ty,pos:=pos,after:=af,guard:=none }::rest) a w:=
 FA h hf he trivial (fun _ _ a w h=>k a w h) hn
theorem Ou {id:Nat} {l:List Oper} (h:wl r P l.toArray Q l a w):(Code.region id l.toArray false).wpIn (FW r) 0 P Q a w:=wpIn_region_lit h
theorem UR {c:Operand} {x y:Code} {b:Bool} (h:Sim B E H a w) (hc:lkO c E=bl b) (ht:b=true→x.wpIn (FW r) 0 P Q a w) (hf:b=false→y.wpIn (FW r) 0 P Q a w):(Code.cond c x y).wpIn (FW r) 0 P Q a w:=by
 obtain⟨F,Ds,hs⟩:=h
 have h1:=hs.opd c
 rw[hc] at h1
 exact wpIn_cond_split h1 ht hf
theorem US {κ:Type} (Ei:κ→Env) (Hi:κ→Hp) (G:κ→Prop) (μ:κ→Nat) (k0:κ) (g0:G k0) {c:Code} (h0:Sim B (Ei k0) (Hi k0) a w)
 (round:∀k a w,G k→Sim B (Ei k) (Hi k) a w→c.wpIn (FW r) 0 P (Exit.then (fun a' w'=> ∃k',G k'∧μ k'<μ k∧Sim B (Ei k') (Hi k') a' w') Q) a w):(Code.loop c).wpIn (FW r) 0 P Q a w:=by
 let p:Act→World→Nat→Prop:=fun a w n=> ∃k,μ k=n∧G k∧Sim B (Ei k) (Hi k) a w
 refine wpIn_loop (fun a w=> ∃n,p a w n) (fun a w=>leastOf (p a w)) ⟨μ k0,k0,rfl,g0,h0⟩ (fun a w hI=> ?_)
 obtain⟨⟨k,hk,hg,hs⟩,hmin⟩:=leastOf_spec hI
 refine wpIn_mono (round k a w hg hs) (fun e a' w' hq=> ?_)
 cases e with
 |normal=>
  obtain⟨k',g',hlt,hs'⟩:=hq
  have h1:p a' w' (μ k'):=⟨k',rfl,g',hs'⟩
  have h2:=(leastOf_spec ⟨_,h1⟩).2 _ h1
  exact⟨⟨_,h1⟩,O⟩
 |_=>exact hq
end
end AL
set_option linter.unusedVariables false
namespace AL
open Go
attribute [local semireducible] any eqv agg tup fp ptr sl eG emp cell own obj osl dL
section
variable {P:Program} {r:Option Nat} {ops:Array Oper} {Q:Exit→Act→World→Prop} {rest:List Oper} {B:Base} {E:Env} {H:Hp} {a:Act} {w:World}
variable {d ty:Nat} {pos:String} {af:Array Edge}
theorem FB {T:TypeId} {x y:Operand} {m:Nat} (hm:m<2^63):cP P .and T x y (.int .i64 m) (.int .i64 1) (.int .i64 ((m&&&1:Nat):Int)):=Rn (n:=1) hm (by decide)
section
variable {P:Program} {T:TypeId} {x y:Operand} {m n:Int}
theorem Bt (hm:0≤m) (h0:0≤n) (hn:n≤64):cP P .shr T x y (.int .i64 m) (.int .i64 n) (.int .i64 ((m.toNat>>>n.toNat:Nat):Int)):=by
 have h:=Xf (P:=P) (T:=T) (x:=x) (y:=y) (m:=m.toNat) (n:=n.toNat) O
 rwa [Int.toNat_of_nonneg hm,Int.toNat_of_nonneg h0] at h
theorem Bu (h0:0≤n) (hn:n<63):cP P .shl T x y (.int .i64 1) (.int .i64 n) (.int .i64 ((2^n.toNat:Nat):Int)):=by
 have h:=UQ (P:=P) (T:=T) (x:=x) (y:=y) (n:=n.toNat) O
 rwa [Int.toNat_of_nonneg h0] at h
theorem Bv (hm:0≤m) (hm':m<2^63) (hn:0≤n) (hn':n<2^63):cP P .and T x y (.int .i64 m) (.int .i64 n) (.int .i64 ((m.toNat&&&n.toNat:Nat):Int)):=by
 have h:=Rn (P:=P) (T:=T) (x:=x) (y:=y) (m:=m.toNat) (n:=n.toNat) O O
 rwa [Int.toNat_of_nonneg hm,Int.toNat_of_nonneg hn] at h
theorem Bw (hm:0≤m) (hm':m<2^63) (hn:0≤n) (hn':n<2^63):cP P .or T x y (.int .i64 m) (.int .i64 n) (.int .i64 ((m.toNat|||n.toNat:Nat):Int)):=by
 have h:=XV (P:=P) (T:=T) (x:=x) (y:=y) (m:=m.toNat) (n:=n.toNat) O O
 rwa [Int.toNat_of_nonneg hm,Int.toNat_of_nonneg hn] at h
end
def Part (E:Env) (x:Operand) (cs:List AV):Prop:=∀{w:World} {F:Fz} {v:Value},(lkO x E).p w F v→∃vs:List Value,v.cells=vs.toArray∧All2 w F cs vs
theorem p1 {x:Operand} {φ:AV} [h1:One φ] (hx:lkO x E=φ):Part E x [φ]:=fun {w F v} h=>by
 rw[hx] at h
 exact⟨[v],DX (h1.one h),h,tV⟩
theorem pA {x:Operand} {cs:List AV} (hx:lkO x E=agg cs):Part E x cs:=fun {w F v} h=>by
 rw[hx] at h
 obtain⟨vs,rfl,ha⟩:=h
 exact⟨vs,rfl,ha⟩
def yX (E:Env) (n:Nat):Nat→List (Nat × Operand)→List (List AV)→Prop
 |_,[],[]=>True
 |k,(i,x)::r,cs::css=>i=k∧cs.length=n∧Part E x cs∧yX E n (k+1) r css
 |_,_,_=>False
theorem vT {F:Fz} {Ds:List Nat} (hs:SimF B E H a w F Ds) {n:Nat}:∀{k:Nat} {ps:List (Nat × Operand)} {css:List (List AV)},yX E n k ps css→
 ∃vs:List Value,(ps.map fun(i,x)=>(i,a.eval x))=((vs.zipIdx k).map fun x=>(x.2,x.1))∧vs.length=css.length∧(∀v∈vs,v.cells.size=n)∧ps.length=css.length∧Els w F n id css (vs.flatMap fun v=>v.cells.toList)
 |_,[],[],_=>⟨[],rfl,rfl,by simp,rfl,Els.nil _ _ _ _⟩
 |k,(i,x)::r,cs::css,h=>by
  obtain⟨rfl,hl,hp,hr⟩:=h
  obtain⟨vs,h1,h2,h3,h4,h5⟩:=vT hs hr
  obtain⟨us,hu,ha⟩:=hp (hs.opd x)
  have hul:=ha.length
  refine⟨a.eval x::vs,by simp[h1],by simp[h2],?_,by simp[h4],?_⟩
  ·intro v hv
   rcases List.mem_cons.1 hv with rfl|hv
   ·rw[hu];simp;omega
   ·exact h3 v hv
  ·have e:us.length=n:=by omega
   have:=(Els.one (w:=w) (F:=F) (enc:=id) (x:=cs) ha)
   rw[e] at this
   have h6:=this.append h5
   simpa [hu] using h6
 |_,[],_::_,h=>h.elim
 |_,_::_,[],h=>h.elim
theorem UT {T e n by_ len:Nat} {z:List Value} {ps:List (Nat × Operand)} {css:List (List AV)} (h:Sim B E H a w) (hT:dW P T e n by_ z) (hp:yX E n 0 ps css) (hl:Nat.beq css.length len=true) (h0:Nat.blt 0 len=true) (hm:Nat.ble (len*n) 1000=true)
 (k:∀a w,Sim B ((d,sl n id css)::E) H a w→wl r P ops Q rest a w) (hn:Nat.blt d B.nt=true:=by rfl):
 wl r P ops Q ({ dst:=some d,op:= .buildSlice T len ps.toArray,type:=ty,pos:=pos,after:=af,guard:=none }::rest) a w:=
 iD (ι:=Unit) (E':=fun _=>(d,sl n id css)::E) (H':=fun _=>H) h rfl (fun _=>nofun) (fun F Ds hs=>by
  obtain⟨i,hi,hsz,hb,zv,hz,hcells,hzs⟩:=hT.info
  obtain⟨vs,h1,h2,h3,h4,h5⟩:=vT hs hp
  have hl:css.length=len:=by simpa using hl
  have h0:0<len:=by simpa using h0
  have hm:len*n≤1000:=by simpa using hm
  have hpos:=hT.pos
  have hfill:=Great.fill_whole hpos vs ((Array.range (len*i.size)).map (zv.cells[· % zv.cells.size]!)) h3 (by simp[h2,hl,hsz])
  have hne:¬len*i.size=0:=by rw[hsz];exact Nat.ne_of_gt (Nat.mul_pos h0 hpos)
  have hrun:=run_buildSlice (P:=P) w T e len (ps.toArray.map fun(i,x)=>(i,a.eval x)) (vs.flatMap fun v=>v.cells.toList).toArray i zv hT.und hi hz (by rw[hsz];omega) hne (by
   have:(ps.toArray.map fun(i,x)=>(i,a.eval x)).toList=((vs.zipIdx 0).map fun x=>(x.2,x.1)):=by simpa using h1
   rw[this,hsz];rw[hsz] at hfill;exact hfill)
  have hlen:len≤aN:=by unfold aN;have:len*1≤len*n:=Nat.mul_le_mul_left _ hpos;omega
  have hg:=hs.grow (w':=w.alloc (.cells (vs.flatMap fun v=>v.cells.toList).toArray e)) (F':=fun b=>F b∨b=w.heap.size) (by simp) rfl rfl rfl (fun b hb=>heap_alloc w _ hb) (fun b hb=> .inl hb) (fun b hb=>hb.imp id (fun h=>by subst h;simp))
  refine⟨_,_,by simp only [execOp,Sem.run_bind,hrun];rfl,(),_,Ds,hg.put (by simpa using hn) ?_⟩
  refine⟨some ⟨w.heap.size,0,none⟩,len,by rw[hl],O,O,fun _=>⟨w.heap.size,0,_,rfl,.inr rfl,⟨_,e,(0,0),jM _ _,fun j v hj=>by simpa using hj⟩,?_⟩⟩
  exact h5.st (fun _ h=> .inl h) (fun b hb=>heap_alloc w _ (hs.Fb b hb).1)) (fun _=>k)
structure fY (P:Program) (T:Nat) (pl:List (Nat × Nat)) (z:List Value):Prop where
 run:∀(w:World) (parts:Array (Nat × Value)) (cells:Array Value),Instr.fill (fun i=>pl[i]?) z.toArray parts.toList=some cells→(Instr.build T parts).run P w= .ok (.agg cells) w
def IM (P:Program) (T:Nat) (pl:List (Nat × Nat)):Bool:=
 match P.underlying T with
 |some (.struct fs)=>fs.size==pl.length&&(List.range pl.length).all fun i=>match fs[i]?,pl[i]? with
  |some f,some (o,s)=>Nat.beq f.offset o&&(match P.info? f.type with|some i=>Nat.beq i.size s|none=>false)
  |_,_=>false
 |_=>false
theorem tE {P:Program} {w:World}:∀(fs:List Field) (pl:List (Nat × Nat)),fs.length=pl.length→(∀(i:Nat) (f:Field) (o s:Nat),fs[i]?=some f→pl[i]?=some (o,s)→f.offset=o∧∃t,P.info? f.type=some t∧t.size=s)→
 (fs.mapM (fun f=>do pure (f.offset,←Go.sizeOf f.type):Field→Sem (Nat × Nat))).run P w= .ok pl w
 | [],[],_,_=>rfl
 |f::fs,(o,s)::pl,hl,h=>by
  obtain⟨h1,t,h2,h3⟩:=h 0 f o s rfl rfl
  have ih:=tE (P:=P) (w:=w) fs pl (by simpa using hl) (fun i g o s hg hp=>h (i+1) g o s (by simpa using hg) (by simpa using hp))
  have hsz:(Go.sizeOf f.type).run P w= .ok s w:=by simp[Go.sizeOf,typeInfo,program,Sem.run,h2,h3]
  simp only [List.mapM_cons,Sem.run_bind,hsz,Result.andThen_ok,Sem.run_pure,h1,ih]
 | [],_::_,hl,_=>by simp at hl
 |_::_,[],hl,_=>by simp at hl
theorem fG {T:Nat} {pl:List (Nat × Nat)} {z:List Value} (h:IM P T pl=true) (hz:(P.info? T).map (fun i=>i.zero.map (fun v=>v.cells))=some (some z.toArray)):fY P T pl z:=by
 refine⟨fun w parts cells hf=> ?_⟩
 obtain⟨zv,hzv,hzc⟩:=(cE hz).z
 unfold IM at h
 cases hu:P.underlying T with
 |none=>simp[hu] at h
 |some D=>
  rw[hu] at h
  cases D<;>simp at h
  case struct fs=>
  obtain⟨hl,hall⟩:=h
  have hm:(fs.mapM (fun f=>do pure (f.offset,←Go.sizeOf f.type):Field→Sem (Nat × Nat))).run P w= .ok pl.toArray w:=by
   have:=tE (P:=P) (w:=w) fs.toList pl (by simpa using hl) (fun i f o s hf' hp=>by
    have hi:i<pl.length:=(List.getElem?_eq_some_iff.1 hp).1
    have hc:=hall i hi
    have hf'':fs[i]?=some f:=by simpa using hf'
    rw[hf'',hp] at hc
    simp at hc
    refine⟨hc.1,?_⟩
    cases hi':P.info? f.type with
    |none=>simp[hi'] at hc
    |some t=>rw[hi'] at hc;exact⟨t,rfl,by simpa using hc.2⟩)
   rw[←Array.toArray_toList (xs:=fs),List.mapM_toArray]
   simp only [Sem.run_map,this,Result.andThen_ok]
  simp only [Instr.build,Sem.run_bind,hzv,Result.andThen_ok,run_underlying hu,hm,hzc]
  have:(fun(x:Nat)=>pl.toArray[x]?)=fun(i:Nat)=>pl[i]?:=by funext i;simp
  simp only [this,hf]
  rfl
def JW:List AV→List (Nat × List AV)→List AV
 |cs,[]=>cs
 |cs,(o,x)::r=>JW (cs.take o++x++cs.drop (o+x.length)) r
def FC (E:Env) (pl:List (Nat × Nat)) (tot:Nat):List (Nat × Operand)→List (Nat × List AV)→Prop
 | [],[]=>True
 |(i,x)::r,(o,cs)::css=>pl[i]?=some (o,cs.length)∧Nat.ble (o+cs.length) tot=true∧Part E x cs∧FC E pl tot r css
 |_,_=>False
theorem Bz {F:Fz} {Ds:List Nat} (hs:SimF B E H a w F Ds) {pl:List (Nat × Nat)} {tot:Nat}:∀{ps:List (Nat × Operand)} {css:List (Nat × List AV)} {cs:List AV} {cells:List Value},FC E pl tot ps css→All2 w F cs cells→cells.length=tot→
 ∃us:List Value,Instr.fill (fun i=>pl[i]?) cells.toArray (ps.map fun(i,x)=>(i,a.eval x))=some us.toArray∧All2 w F (JW cs css) us
 | [],[],cs,cells,_,ha,_=>⟨cells,rfl,ha⟩
 |(i,x)::r,(o,xs)::css,cs,cells,h,ha,hl=>by
  obtain⟨h1,h2,hp,hr⟩:=h
  obtain⟨us,hu,hau⟩:=hp (hs.opd x)
  have hul:=hau.length
  have h2:o+xs.length≤tot:=by simpa using h2
  have hcs:=ha.length
  have e:((us.zipIdx).foldl (fun cs (x:Value × Nat)=>cs.setIfInBounds (o+x.2) x.1) cells.toArray)=(cells.take o++us++cells.drop (o+us.length)).toArray:=by
    obtain⟨g1,g2⟩:=Great.foldl_set o us 0 cells.toArray
    apply Array.ext_getElem?
    intro t
    rw[g2 t]
    simp only [Nat.add_zero,List.size_toArray,List.getElem?_toArray,List.getElem?_append,List.length_append,List.length_take,List.getElem?_take,List.getElem?_drop]
    have m1:min o cells.length=o:=by omega
    simp only [m1]
    by_cases c1:t<o
    ·rw[if_neg O,if_pos O,if_pos c1,if_pos c1]
    ·by_cases c2:t<o+us.length
     ·rw[if_pos O,if_pos c2,if_neg c1]
     ·rw[if_neg O,if_neg c2]
      congr 1;omega
  obtain⟨us',hf,ha'⟩:=Bz hs (cells:=cells.take o++us++cells.drop (o+us.length)) hr (ha.splice o hau) (by simp;omega)
  refine⟨us',?_,ha'⟩
  simp only [List.map_cons,Instr.fill,h1,hu]
  rw[if_neg (by simp;omega)]
  have e2:us.toArray.zipIdx.foldl (fun cs (x:Value × Nat)=>cs.setIfInBounds (o+x.2) x.1) cells.toArray=(cells.take o++us++cells.drop (o+us.length)).toArray:=by
    rw[←e];simp
  rw[e2];exact hf
 | [],_::_,_,_,h,_,_=>h.elim
 |_::_,[],_,_,h,_,_=>h.elim
def iE (s:ByteArray) (i:Nat):Int:=((s.data.getD i 0).toNat:Int)
end
end AL
set_option linter.unusedVariables false
namespace AL
open Go
attribute [local semireducible] any eqv agg tup fp ptr sl eG emp cell own obj osl dL
def clo (f:FuncId) (cs:List AV):AV:=⟨fun w F v=> ∃vs:List Value,v= .func (.func f) #[] vs.toArray∧All2 w F cs vs,fun hF hw ⟨vs,hv,h⟩=>⟨vs,hv,h.st hF hw⟩⟩
instance (f:FuncId) (cs:List AV):One (clo f cs):=⟨fun⟨_,h,_⟩=>by cases h;rfl⟩
def FD (P:Program) (v:Value) (args:Array Value) (w:World) (R:Ending→World→Prop):Prop:=
 (∃f as,(do let d←Deferred.ofValue v args;invoke d.target d.args:Sem Next).run P w= .ok (.enter f as) w∧Calls P f as w R)∨
 (∃l f tmps assign body,(do let d←Deferred.ofValue v args;invoke d.target d.args:Sem Next).run P w= .ok (.round l f tmps assign body) w∧RoundIn (FW none) 0 P l f tmps assign body w R)
def FnV (P:Program) (v:Value) (args:List AV) (Hi:Hp) {ι:Type} (res:Nat→ι→AV) (Ho:ι→Hp):Prop:=
 ∀(w:World) (F:Fz) (vs:List Value),All2 w F args vs→(∀b,F b→b<w.heap.size)→HpOk Hi w F→
  FD P v vs.toArray w fun e w'=> ∃i u F',e= .returned u∧Left w F Hi res Ho i u F' w'
def pf {α:Type} (P:Program) (dom:α→Prop) (D:α→List AV) (p:α→AV):AV:=
 ⟨fun w F v=> ∀(w':World) (F':Fz),(∀b,F b→F' b)→(∀b,F b→w'.heap[b]?=w.heap[b]?)→∀x,dom x→∀vs:List Value,All2 w' F' (D x) vs→(∀b,F' b→b<w'.heap.size)→
   FD P v vs.toArray w' fun e w''=> ∃(i:Unit) (u:Value) (F'':Fz),e= .returned u∧Left w' F' [] (fun _ _=>p x) (fun _=> []) i u F'' w'',
  fun {w F w' F' v} hF hw h w2 F2 hF2 hw2 x hx vs ha hb=>h w2 F2 (fun b hb=>hF2 b (hF b hb)) (fun b hb=>(hw2 b (hF b hb)).trans (hw b hb)) x hx vs ha hb⟩
section
variable {P:Program} {r:Option Nat} {ops:Array Oper} {Q:Exit→Act→World→Prop} {rest:List Oper} {B:Base} {E:Env} {H:Hp} {a:Act} {w:World}
variable {d ty:Nat} {pos:String} {af:Array Edge} {ι:Type}
theorem vU (w:World) (F:Fz):HpOk [] w F:=⟨fun _=>trivial,fun _ _ h=>h.elim,fun _ _ _ _ h=>h.elim,fun _ _ h=>h.elim⟩
theorem Lz {α:Type} {f:FuncId} {cs:List AV} {dom:α→Prop} {D:α→List AV} {p:α→AV} (he:Ent P f) (hf:∀x,dom x→Fn0 P f (D x++cs) (p x)) {w:World} {F:Fz} {v:Value} (h:(clo f cs).p w F v):(pf P dom D p).p w F v:=by
 obtain⟨us,rfl,ha⟩:=h
 intro w' F' hF hw x hx vs hvs hb
 refine .inl ⟨f,(vs++us).toArray,?_,hf x hx w' F' (vs++us) (hvs.append (ha.st hF hw)) hb (vU w' F')⟩
 simp[Deferred.ofValue,invoke,he.run]
theorem Ak {x:Operand} {xs:List Operand} {ts:Array TypeId} {v:Value} {dd:Option Tmp} {R:Ending→World→Prop} (hx:a.eval x=v) (hc:FD P v (xs.map a.eval).toArray w R)
 (hk:∀e w',R e w'→∃u,e= .returned u∧wl r P ops Q rest (a.put dd u) w'):
 wl r P ops Q ({ dst:=dd,op:= .call { callee:= .value x,args:=xs.toArray,argTypes:=ts },type:=ty,pos:=pos,after:=af,guard:=none }::rest) a w:=by
 have hex:∀(z:Next),(do let d←Deferred.ofValue v (xs.map a.eval).toArray;invoke d.target d.args:Sem Next).run P w= .ok z w→
  (execOp a.eval { dst:=dd,op:= .call { callee:= .value x,args:=xs.toArray,argTypes:=ts },type:=ty,pos:=pos,after:=af,guard:=none }).run P w= .ok z w:=fun z hz=>by
  simp only [execOp,resolve,hx,List.map_toArray]
  exact hz
 refine yV rfl (fun _=>nofun) ?_
 rcases hc with⟨f,as,hrun,hc⟩|⟨l,f,tmps,assign,body,hrun,hc⟩
 ·rw[hex _ hrun]
  refine⟨fun h=>by simp at h,?_⟩
  have:CallsIn Fence.wide 0 P f as w R:=(callsIn_wide (n:=0)).2 hc
  refine CallsIn.mono (F:=FW r) (n:=0) (R:=R) ⟨trivial,fun cs hr=>this.2 cs (fun d hd=>by cases hd)⟩ (fun e w' hR=> ?_)
  obtain⟨u,rfl,h⟩:=hk e w' hR
  exact h
 ·rw[hex _ hrun]
  refine⟨fun h=>by simp at h,?_⟩
  refine RoundIn.mono (F:=FW r) (n:=0) (R:=R) ⟨trivial,fun c cs hr=>hc.2 c cs (fun d hd=>by cases hd)⟩ (fun e w' hR=> ?_)
  obtain⟨u,rfl,h⟩:=hk e w' hR
  exact h
theorem Sim.freezeV {cs:List AV} {b o:Nat} (h:Sim B E H a w) (key t:Nat) (hk:lkH key H=cell b cs) (ht:lk t E=ptr key b o):Sim B ((t,fp (cs.drop o))::E) ((key,emp)::H) a w:=by
 obtain⟨F,Ds,h⟩:=h
 refine⟨_,Ds,{ h.freeze key with env:=fun s=> ?_ }⟩
 by_cases e:t=s
 ·subst e
  rw[cR]
  have h1:=h.env t
  rw[ht] at h1
  have h1:a.tmps.getD t undef= .pointer (some ⟨b,o,none⟩):=h1
  have h2:=h.hp key
  rw[hk] at h2 ⊢
  obtain⟨vs,hr,ha⟩:=uN h2 o
  exact⟨b,o,vs,h1,.inr rfl,hr,ha.st (fun _ h=> .inl h) (fun _ _=>rfl)⟩
 ·rw[bU _ _ e];exact(h.freeze key).env s
end
attribute [irreducible] clo pf
end AL
set_option linter.unusedVariables false
set_option linter.unusedSectionVars false
namespace AL
open Go
attribute [local semireducible] any eqv agg tup fp ptr sl eG emp cell own obj osl dL clo pf
def gG {κ ν:Type} [DecidableEq κ]:List (κ × ν)→κ→Option (Nat × ν)
 | [],_=>none
 |(a,b)::l,k=>if a=k then some (0,b) else(gG l k).map fun p=>(p.1+1,p.2)
def bJ {κ ν:Type} [DecidableEq κ] (l:List (κ × ν)) (k:κ):Option ν:=(gG l k).map (·.2)
def bQ {κ ν:Type} [DecidableEq κ]:List (κ × ν)→κ→ν→List (κ × ν)
 | [],k,v=> [(k,v)]
 |(k',v')::l,k,v=>if k'=k then(k,v)::l else(k',v')::bQ l k v
section
variable {κ ν:Type} [DecidableEq κ]
theorem FE (k:κ):bJ ([]:List (κ × ν)) k=none:=rfl
theorem tF (a:κ) (b:ν) (l:List (κ × ν)) (k:κ):bJ ((a,b)::l) k=if a=k then some b else bJ l k:=by
 unfold bJ
 simp only [gG]
 split
 ·rfl
 ·cases gG l k<;>rfl
theorem kO (l:List (κ × ν)) (k k':κ) (v:ν):bJ (bQ l k v) k'=if k=k' then some v else bJ l k':=by
 induction l with
 |nil=>simp[bQ,tF,FE]
 |cons x l ih=>
  obtain⟨a,b⟩:=x
  by_cases h:a=k
  ·subst h
   simp only [bQ,if_true,tF]
   split<;>rfl
  ·simp only [bQ,if_neg h,tF,ih]
   by_cases h2:a=k'
   ·subst h2;simp[Ne.symm h]
   ·simp[h2]
theorem FF (l:List (κ × ν)) (k:κ) (v:ν):(bQ l k v).length=if (bJ l k).isSome then l.length else l.length+1:=by
 induction l with
 |nil=>simp[bQ,FE]
 |cons x l ih=>
  obtain⟨a,b⟩:=x
  simp only [bQ,tF]
  split
  ·simp
  ·simp only [List.length_cons,ih];split<;>rfl
theorem tG {l:List (κ × ν)} {k:κ} (h:gG l k=none) (v:ν):bQ l k v=l++ [(k,v)]:=by
 induction l with
 |nil=>rfl
 |cons x l ih=>
  obtain⟨a,b⟩:=x
  simp only [gG] at h
  split at h
  ·cases h
  ·next hne=>
   simp only [bQ,if_neg hne,List.cons_append]
   rw[ih (by cases hm:gG l k<;>simp_all)]
theorem nC {l:List (κ × ν)} {k:κ} {i:Nat} {u:ν} (h:gG l k=some (i,u)) (v:ν):i<l.length∧l[i]?=some (k,u)∧bQ l k v=l.set i (k,v):=by
 induction l generalizing i with
 |nil=>simp[gG] at h
 |cons x l ih=>
  obtain⟨a,b⟩:=x
  simp only [gG] at h
  split at h
  ·next he=>subst he;simp at h;obtain⟨rfl,rfl⟩:=h;simp[bQ]
  ·next hne=>
   cases hm:gG l k with
   |none=>simp[hm] at h
   |some p=>
    obtain⟨j,u'⟩:=p
    simp[hm] at h
    obtain⟨rfl,rfl⟩:=h
    obtain⟨h1,h2,h3⟩:=ih hm
    refine⟨by simp;omega,by simpa using h2,?_⟩
    simp only [bQ,if_neg hne,h3,List.set_cons_succ]
theorem Ov {l:List (κ × ν)} (hnd:(l.map (·.1)).Nodup) {i:Nat} {k:κ} {u:ν} (h:l[i]?=some (k,u)):gG l k=some (i,u):=by
 induction l generalizing i with
 |nil=>simp at h
 |cons x l ih=>
  obtain⟨a,b⟩:=x
  simp only [List.map_cons,List.nodup_cons] at hnd
  cases i with
  |zero=>simp at h;simp[gG,h.1,h.2]
  |succ i=>
   have h':l[i]?=some (k,u):=by simpa using h
   have hne:a≠k:=fun e=>by
    subst e
    exact hnd.1 (List.mem_map.2 ⟨(a,u),List.mem_of_getElem? h',rfl⟩)
   simp[gG,hne,ih hnd.2 h']
theorem LA {l:List (κ × ν)} {k:κ} (h:gG l k=none):∀x∈l,x.1≠k:=by
 induction l with
 |nil=>simp
 |cons x l ih=>
  obtain⟨a,b⟩:=x
  simp only [gG] at h
  split at h
  ·cases h
  ·next hne=>
   intro y hy
   rcases List.mem_cons.1 hy with rfl|hy
   ·exact hne
   ·exact ih (by cases hm:gG l k<;>simp_all) y hy
theorem DZ {l:List (κ × ν)} (hnd:(l.map (·.1)).Nodup) (k:κ) (v:ν):((bQ l k v).map (·.1)).Nodup:=by
 cases h:gG l k with
 |none=>
  rw[tG h,List.map_append,List.nodup_append]
  refine⟨hnd,by simp,fun a ha b hb=> ?_⟩
  obtain⟨x,hx,rfl⟩:=List.mem_map.1 ha
  simp at hb;subst hb
  exact LA h x hx
 |some p=>
  obtain⟨i,u⟩:=p
  obtain⟨h1,h2,h3⟩:=nC h v
  have:(l.set i (k,v)).map (·.1)=l.map (·.1):=by
   rw[List.map_set]
   apply List.ext_getElem?
   intro t
   by_cases e:i=t
   ·subst e;rw[List.getElem?_set_self (by simpa using h1),List.getElem?_map,h2];rfl
   ·rw[List.getElem?_set_ne e]
  rw[h3,this];exact hnd
end
structure jN {κ:Type} (P:Program) (T K V:Nat) (kE:κ→Value) (dom:κ→Prop):Prop where
 und:P.underlying T=some (.map K V)
 kd:Go.Maps.Keyed P K
 dk:∀k,dom k→∃l,keyOf P K (kE k)=some l
 inj:∀k k',dom k→dom k'→kE k=kE k'→k=k'
def mp {κ ν:Type} (r:Nat) (kE:κ→Value) (dom:κ→Prop) (vE:ν→AV) (l:List (κ × ν)):HA:=
 ⟨fun x=>x=r,fun w F=> ∃(es:Array MapEntry) (clock:Nat),w.heap[r]?=some (.map es clock)∧es.toList.map (·.key)=l.map (fun x=>kE x.1)∧All2 w F (l.map fun(x:κ × ν)=>vE x.2) (es.toList.map (fun(e:MapEntry)=>e.val))∧(l.map (·.1)).Nodup∧(∀x∈l,dom x.1),
  fun hF hw h=>by
   obtain⟨es,c,h1,h2,h3,h4⟩:=h
   exact⟨es,c,(hw r (.inr rfl)).trans h1,h2,All2.st hF (fun b hb=>hw b (.inl hb)) h3,h4⟩⟩
def mpv (_k r:Nat):AV:=⟨fun _ _ v=>v= .map (some r),fun _ _ h=>h⟩
instance (k r:Nat):One (mpv k r):=⟨fun h=>by cases h;rfl⟩
section
variable {P:Program} {r:Option Nat} {ops:Array Oper} {Q:Exit→Act→World→Prop} {rest:List Oper} {B:Base} {E:Env} {H:Hp} {a:Act} {w:World}
variable {d ty:Nat} {pos:String} {af:Array Edge} {κ ν:Type} [DecidableEq κ]
theorem uA {T K V:Nat} {kE:κ→Value} {dom:κ→Prop} (hT:jN P T K V kE dom) {l:List (κ × ν)} {es:List MapEntry} (hkeys:es.map (·.key)=l.map (fun x=>kE x.1)) (hnd:(l.map (·.1)).Nodup) (hd:∀x∈l,dom x.1) (q:κ) (hq:dom q) (w:World):
 (gG l q=none∧(Instr.findKey K (kE q) es).run P w= .ok none w)∨∃i u e,gG l q=some (i,u)∧es[i]?=some e∧e.key=kE q∧(Instr.findKey K (kE q) es).run P w= .ok (some (i,e.val)) w:=by
 obtain⟨lq,hlq⟩:=hT.dk q hq
 have hall:∀e∈es,∃(i:Nat) (x:κ × ν),es[i]?=some e∧l[i]?=some x∧e.key=kE x.1:=fun e he=>by
  obtain⟨i,hi⟩:=List.getElem?_of_mem he
  have h1:(es.map (·.key))[i]?=some e.key:=by simp[hi]
  rw[hkeys,List.getElem?_map] at h1
  cases hx:l[i]? with
  |none=>simp[hx] at h1
  |some x=>rw[hx] at h1;exact⟨i,x,hi,hx,by simpa using h1.symm⟩
 rcases hT.kd.find w hlq es (fun e he=>by
  obtain⟨i,x,_,hx,hk⟩:=hall e he
  obtain⟨lx,hlx⟩:=hT.dk x.1 (hd x (List.mem_of_getElem? hx))
  exact⟨lx,by rw[hk];exact hlx⟩) with⟨h1,h2⟩|⟨j,e,h1,h2,h3⟩
 ·refine .inl ⟨?_,h1⟩
  cases hm:gG l q with
  |none=>rfl
  |some p=>
   obtain⟨i,u⟩:=p
   obtain⟨g1,g2,_⟩:=nC hm u
   have g3:(l.map fun x=>kE x.1)[i]?=some (kE q):=by simp[g2]
   rw[←hkeys,List.getElem?_map] at g3
   cases he:es[i]? with
   |none=>simp[he] at g3
   |some e=>
    rw[he] at g3
    exact absurd (by simpa using g3) (h2 e (List.mem_of_getElem? he))
 ·have h4:(es.map (·.key))[j]?=some e.key:=by simp[h2]
  rw[hkeys,List.getElem?_map] at h4
  cases hx:l[j]? with
  |none=>simp[hx] at h4
  |some x=>
   obtain⟨k',u⟩:=x
   rw[hx] at h4
   have h5:kE k'=kE q:=by simpa [h3] using h4
   have h6:=hT.inj k' q (hd (k',u) (List.mem_of_getElem? hx)) hq h5
   subst h6
   exact .inr ⟨j,u,e,Ov hnd hx,h2,h3,h1⟩
theorem xE {T K V b:Nat} {kE:κ→Value} {dom:κ→Prop} {vE:ν→AV} {l:List (κ × ν)} (hT:jN P T K V kE dom) {F:Fz} {es:Array MapEntry} {c:Nat} (hc:w.heap[b]?=some (.map es c)) (hkeys:es.toList.map (·.key)=l.map (fun x=>kE x.1))
 (hvals:All2 w F (l.map fun x=>vE x.2) (es.toList.map (·.val))) (hnd:(l.map (·.1)).Nodup) (hd:∀x∈l,dom x.1) {q:κ} (hq:dom q) {v:Value} {y:ν} (hv:(vE y).p w F v) (hFb:¬F b):
 ∃es' c',(Instr.mapUpdate T (.map (some b)) (kE q) v).run P w= .ok () (w.putObj b (.map es' c'))∧(mp b kE dom vE (bQ l q y)).p (w.putObj b (.map es' c')) F:=by
 obtain⟨lq,hlq⟩:=hT.dk q hq
 have hgo:(getObj b).run P w= .ok (.map es c) w:=by simp[getObj,Sem.run,hc]
 have hlt:b<w.heap.size:=(Array.getElem?_eq_some_iff.1 hc).1
 have hset:∀o,(setObj b o).run P w= .ok () (w.putObj b o):=fun o=>by simp[setObj,Sem.run,World.putObj,hc]
 have hst:∀o,∀b',F b'→(w.putObj b o).heap[b']?=w.heap[b']?:=fun o b' hb'=>World.putObj_heap_other (fun e=>hFb (e▸hb'))
 have hdom:∀x∈bQ l q y,dom x.1:=by
  cases hm:gG l q with
  |none=>
   rw[tG hm]
   intro x hx
   rcases List.mem_append.1 hx with hx|hx
   ·exact hd x hx
   ·simp at hx;subst hx;exact hq
  |some p=>
   obtain⟨i,u⟩:=p
   obtain⟨h1,h2,h3⟩:=nC hm y
   rw[h3]
   intro x hx
   rcases List.mem_or_eq_of_mem_set hx with hx|hx
   ·exact hd x hx
   ·subst hx;exact hq
 rcases uA hT hkeys hnd hd q hq w with⟨g1,g2⟩|⟨i,u,e,g1,g2,g3,g4⟩
 ·refine⟨es.push { key:=kE q,val:=v,born:=c },c+1,?_,_,_,World.putObj_heap_same hlt,?_,?_,DZ hnd q y,hdom⟩
  ·simp only [Instr.mapUpdate,Sem.run_bind,run_underlying hT.und,Result.andThen_ok,hgo,hT.kd.check w _ hlq,g2,hset]
  ·rw[tG g1];simp[hkeys]
  ·rw[tG g1]
   have:=(hvals.st (fun _ h=>h) (hst (.map (es.push { key:=kE q,val:=v,born:=c }) (c+1)))).append (cs':= [vE y]) (vs':= [v]) ⟨(vE y).st (fun _ h=>h) (hst _) hv,tV⟩
   simpa using this
 ·obtain⟨h1,h2,h3⟩:=nC g1 y
  have he:es[i]?=some e:=by simpa using g2
  have hi:i<es.size:=(Array.getElem?_eq_some_iff.1 he).1
  have hk:(Instr.keyThatStays (kE q) (kE q)).run P w= .ok (kE q) w:=hT.kd.stays w hlq
  have hmod:(es.modify i fun e'=> { e' with key:=kE q,val:=v }).toList=es.toList.set i { e with key:=kE q,val:=v }:=by
   apply List.ext_getElem?
   intro t
   rw[Array.getElem?_toList,Array.getElem?_modify]
   by_cases e1:i=t
   ·subst e1
    rw[List.getElem?_set_self (by simpa using hi)]
    simp[he]
   ·rw[List.getElem?_set_ne e1];simp[e1]
  refine⟨es.modify i fun e'=> { e' with key:=kE q,val:=v },c,?_,_,_,World.putObj_heap_same hlt,?_,?_,DZ hnd q y,hdom⟩
  ·simp only [Instr.mapUpdate,Sem.run_bind,run_underlying hT.und,Result.andThen_ok,hgo,hT.kd.check w _ hlq,g4,he,Option.map_some,Option.getD_some,g3,hk,hset]
  ·rw[hmod,h3,List.map_set,List.map_set,hkeys]
  ·rw[hmod,h3,List.map_set,List.map_set]
   exact(hvals.st (fun _ h=>h) (hst _)).set i ((vE y).st (fun _ h=>h) (hst _) hv)
theorem SimF.mapped {F:Fz} {Ds:List Nat} (hs:SimF B E H a w F Ds) {b key:Nat} {kE:κ→Value} {dom:κ→Prop} {vE:ν→AV} {l l':List (κ × ν)} (hk:lkH key H=mp b kE dom vE l) {o:Obj} (hp:(mp b kE dom vE l').p (w.putObj b o) F):
 SimF B E ((key,mp b kE dom vE l')::H) a (w.putObj b o) F Ds:=
 hs.upd key _ (by simp) rfl rfl rfl (fun b' _ hnf=>World.putObj_heap_other (fun e=>hnf (by rw[hk];exact e))) (fun b' hb'=>⟨.inl (by rw[hk];exact hb'),by
  have:=(hs.hN key b' (by rw[hk];exact hb')).1
  simpa using this⟩) hp
end
theorem Al {P:Program} {V:Nat} {v:Value} (h:(P.info? V).map (fun i=>i.zero)=some (some v)) (φ:AV) (hφ:∀w F,φ.p w F v):∀w F,∃u,(zeroValue V).run P w= .ok u w∧φ.p w F u:=fun w F=>by
 cases hi:P.info? V with
 |none=>simp[hi] at h
 |some i=>
  rw[hi] at h
  have h:i.zero=some v:=by simpa using h
  exact⟨v,by simp[zeroValue,typeInfo,program,hi,Sem.run,h],hφ w F⟩
theorem Ow {P:Program} {T K V:Nat} (hT:P.underlying T=some (.map K V)) (hK:P.underlying K=some .string):jN P T K V (fun s:ByteArray=>Value.string s) (fun s=>s.size≤aN) where
 und:=hT
 kd:=Go.Maps.string_keyed hK
 dk:=fun k hk=>⟨.string k.data.toList,by
  have:k.size≤maxLen:=by unfold maxLen;unfold aN at hk;omega
  simp[keyOf,hK,mapKey,this]⟩
 inj:=fun k k' _ _ h=>by cases h;rfl
attribute [irreducible] mp mpv
end AL
set_option linter.unusedVariables false
namespace AL
open Go
attribute [local semireducible] any eqv agg tup fp ptr sl eG emp cell own obj osl dL clo pf mp mpv
section
variable {P:Program} {r:Option Nat} {ops:Array Oper} {Q:Exit→Act→World→Prop} {rest:List Oper} {B:Base} {E:Env} {H:Hp} {a:Act} {w:World}
variable {d ty:Nat} {pos:String} {af:Array Edge}
def OpdsIs (E:Env):List Operand→List AV→Prop
 | [],[]=>True
 |x::xs,φ::φs=>lkO x E=φ∧OpdsIs E xs φs
 |_,_=>False
theorem OpdsIs.eq:∀{xs:List Operand} {φs:List AV},OpdsIs E xs φs→opds xs E=φs
 | [],[],_=>rfl
 |_::_,_::_,h=>by show _::_=_;rw[h.1,OpdsIs.eq h.2]
 | [],_::_,h=>h.elim
 |_::_,[],h=>h.elim
inductive Bor (E:Env) (H:Hp) (x:Operand):AV→Prop
 |here {φ:AV} (h:lkO x E=φ):Bor E H x φ
 |own {α:Type} (key:Nat) {v:Value} {e n:Nat} {enc:α→List AV} {xs:List α} (h:lkO x E=osl key v) (hk:lkH key H=own v e n enc xs):Bor E H x (sl n enc xs)
def BorIs (E:Env) (H:Hp):List Operand→List AV→Prop
 | [],[]=>True
 |x::xs,φ::φs=>Bor E H x φ∧BorIs E H xs φs
 |_,_=>False
theorem BorIs.all {F:Fz} {Ds:List Nat} (h:SimF B E H a w F Ds):∀{xs:List Operand} {φs:List AV},BorIs E H xs φs→All2 w (fun b=>F b∨fQ H b) φs (xs.map a.eval)
 | [],[],_=>trivial
 |x::_,_::_,hb=>by
  refine⟨?_,BorIs.all h hb.2⟩
  have h0:=h.opd x
  rcases hb.1 with hφ|⟨key,hφ,hk⟩
  ·rw[hφ] at h0;exact AV.st _ (fun _ h=> .inl h) (fun _ _=>rfl) h0
  ·rw[hφ] at h0
   have h0:a.eval x=_:=h0
   have hp:=h.hp key
   rw[hk] at hp
   rw[h0]
   exact AV.st _ (fun b hb=>hb.imp id (fun hf=>⟨key,by rw[hk];exact hf⟩)) (fun _ _=>rfl) (Fw hp)
 | [],_::_,h=>h.elim
 |_::_,[],h=>h.elim
theorem Xi {α:Type} {n:Nat} {enc:α→List AV} {xs:List α} {css:List (List AV)} (he:xs.map enc=css) {w:World} {F:Fz} {v:Value} (h:(sl n id css).p w F v):(sl n enc xs).p w F v:=by
 subst he
 obtain⟨A,cap,hv,hc,hm,h⟩:=h
 rw[List.length_map] at hv hc hm
 refine⟨A,cap,hv,hc,hm,fun hx=> ?_⟩
 obtain⟨b,off,vs,hA,hb,hr,hl,he⟩:=h (by simpa using hx)
 exact⟨b,off,vs,hA,hb,hr,by simpa using hl,fun i x hi=>he i (enc x) (by simp[hi])⟩
end
end AL
set_option linter.unusedVariables false
namespace AL
open Go
attribute [local semireducible] any eqv agg tup fp ptr sl eG emp cell own obj osl dL clo pf mp mpv
theorem Els.sub {α:Type} {w:World} {F:Fz} {n:Nat} {enc:α→List AV} {xs:List α} {vs:List Value} (h:Els w F n enc xs vs) {l k:Nat} (hl:l≤k) (hk:k≤xs.length):Els w F n enc ((xs.take k).drop l) ((vs.drop (l*n)).take ((k- l)*n)):=by
 have hlen:=h.len
 have h1:k*n≤xs.length*n:=Nat.mul_le_mul_right n hk
 have h2:l*n+(k- l)*n=k*n:=by rw[←Nat.add_mul];congr 1;omega
 refine⟨by simp[Nat.min_eq_left hk];omega,fun i x hi=> ?_⟩
 rw[List.getElem?_drop,List.getElem?_take] at hi
 split at hi
 ·next hlt=>
  have h3:=h.el (l+i) x hi
  have h4:(i+1)*n≤(k- l)*n:=Nat.mul_le_mul_right n O
  rw[Nat.add_mul] at h4
  have e:((((vs.drop (l*n)).take ((k- l)*n)).drop (i*n)).take n)=((vs.drop ((l+i)*n)).take n):=by
   apply List.ext_getElem?
   intro t
   rw[List.getElem?_take,List.getElem?_take]
   split
   ·rw[List.getElem?_drop,List.getElem?_take,List.getElem?_drop,List.getElem?_drop,if_pos O]
    congr 1
    rw[Nat.add_mul];omega
   ·rfl
  rw[e];exact h3
 ·cases hi
section
variable {P:Program} {r:Option Nat} {ops:Array Oper} {Q:Exit→Act→World→Prop} {rest:List Oper} {B:Base} {E:Env} {H:Hp} {a:Act} {w:World}
variable {d ty:Nat} {pos:String} {af:Array Edge}
def CY (E:Env) (x:Option Operand) (dflt m:Nat):Prop:=match x with
 |none=>m=dflt
 |some x=>lkO x E=int (m:Int)
theorem UU {α:Type} {F:Fz} {n:Nat} {enc:α→List AV} {xs:List α} {A:Option Addr} {cap l k:Nat} (hv:(sl n enc xs).p w F (.slice A xs.length cap)) (hl:l≤k) (hk:k≤xs.length):
 (sl n enc ((xs.take k).drop l)).p w F (.slice (if cap=l then A else A.map (·.add (l*n))) (k- l) (cap- l)):=by
 obtain⟨A',cap',hv,hc,hm,h⟩:=hv
 cases hv
 refine⟨_,_,by simp[Nat.min_eq_left hk];exact⟨rfl,rfl⟩,by simp;omega,by simp;omega,fun hx=> ?_⟩
 have hlt:l<k:=by
  rcases Nat.lt_or_ge l k with h'|h'
  ·exact h'
  ·exact absurd (List.eq_nil_of_length_eq_zero (by simp;omega)) hx
 obtain⟨b,off,vs,hA,hb,hr,he⟩:=h (fun e=>by rw[e] at hk;simp at hk;omega)
 subst hA
 refine⟨b,off+l*n,(vs.drop (l*n)).take ((k- l)*n),?_,hb,(hr.drop (l*n)).take _,he.sub hl hk⟩
 rw[if_neg O]
 simp[iZ]
theorem JX {T e:Nat} (hT:P.underlying T=some (.slice e)) (A:Option Addr) (n c:Nat):(Op.equal T (.slice A n c) (.slice none 0 0)).run P w= .ok A.isNone w:=by
 cases A with
 |none=>
  show(Op.equalIn (Op.maxDepth- 1+1) T _ _).run P w=_
  simp only [Op.equalIn,Sem.run_bind,run_underlying hT,Result.andThen_ok,Sem.run_pure,Option.isNone_none]
 |some A=>
  show(Op.equalIn (Op.maxDepth- 1+1) T _ _).run P w=_
  simp only [Op.equalIn,Sem.run_bind,run_underlying hT,Result.andThen_ok,Sem.run_pure,Option.isNone_some]
theorem Xj {T e:Nat} {x y:Operand} (hT:P.underlying T=some (.slice e)) (A:Option Addr) (n c:Nat):cP P .eql T x y (.slice A n c) (.slice none 0 0) (.bool A.isNone):=fun w=>by
 have h:=JX (w:=w) hT A n c
 simp only [eqGuard,binOp,Sem.run_bind]
 simp[h]
theorem Sk {α:Type} {T T' e n:Nat} {enc:α→List AV} {xs:List α} {x:Operand} (h:Sim B E H a w) (hx:lkO x E=sl n enc xs) (hT:P.underlying T=some (.slice e)) (k:∀b:Bool,(b=true→xs= [])→∀a w,Sim B ((d,bl b)::E) H a w→wl r P ops Q rest a w) (hn:Nat.blt d B.nt=true:=by rfl):
 wl r P ops Q ({ dst:=some d,op:= .binOp .eql T x (.const (.slice none 0 0)) T',type:=ty,pos:=pos,after:=af,guard:=none }::rest) a w:=
 iD (ι:= { b:Bool//b=true→xs= [] }) (E':=fun b=>(d,bl b.1)::E) (H':=fun _=>H) h rfl (fun _=>nofun) (fun F Ds hs=>by
  have hv:=hs.opd x
  rw[hx] at hv
  obtain⟨A,cap,hv1,_,_,h⟩:=hv
  have hb:A.isNone=true→xs= []:=fun hA=>by
   rcases Classical.em (xs= []) with h0|h0
   ·exact h0
   ·obtain⟨b,off,vs,hA',_⟩:=h h0
    subst hA';cases hA
  refine⟨.bool A.isNone,w,?_,⟨A.isNone,hb⟩,F,Ds,hs.put (by simpa using hn) rfl⟩
  have:=Xj (P:=P) (x:=x) (y:= .const (.slice none 0 0)) hT A xs.length cap w
  have hc:a.eval (.const (.slice none 0 0))= .slice none 0 0:=rfl
  simp only [execOp,hv1,hc,Sem.run_bind] at this ⊢
  rw[this];rfl) (fun b=>k b.1 b.2)
theorem JY {m n:Nat} (hm:m<2^63) (hn:n<2^63):(BitVec.ofInt 64 (m:Int)&&& ~~~ BitVec.ofInt 64 (n:Int)).toNat=m^^^ (m&&&n):=by
 apply Nat.eq_of_testBit_eq
 intro i
 rw[BitVec.toNat_and,Nat.testBit_and,uO hm,Nat.testBit_xor,Nat.testBit_and,BitVec.testBit_toNat,BitVec.getLsbD_not,←BitVec.testBit_toNat,uO hn]
 by_cases hi:i<64
 ·simp only [hi,decide_true,Bool.true_and]
  cases m.testBit i<;>cases n.testBit i<;>rfl
 ·have:m.testBit i=false:=Nat.testBit_lt_two_pow (Nat.lt_of_lt_of_le hm (Nat.pow_le_pow_right O O))
  simp[this]
theorem Ox {T:TypeId} {x y:Operand} {m n:Nat} (hm:m<2^63) (hn:n<2^63):cP P .andNot T x y (.int .i64 m) (.int .i64 n) (.int .i64 ((m^^^ (m&&&n):Nat):Int)):=fun w=>by
 simp only [eqGuard,binOp,Op.intBits,Sem.run_bind]
 have e:(BitVec.ofInt IntKind.i64.bits (m:Int)&&& ~~~ BitVec.ofInt IntKind.i64.bits (n:Int)).toNat=m^^^ (m&&&n):=JY hm hn
 have hb:m^^^ (m&&&n)<2^63:=Nat.xor_lt_two_pow hm (Nat.lt_of_le_of_lt Nat.and_le_left hm)
 simp only [e,vR hb]
 simp
theorem LB {T:TypeId} {x y:Operand} {m n:Int} (hm:0≤m) (hm':m<2^63) (hn:0≤n) (hn':n<2^63):cP P .andNot T x y (.int .i64 m) (.int .i64 n) (.int .i64 ((m.toNat^^^ (m.toNat&&&n.toNat):Nat):Int)):=by
 have h:=Ox (P:=P) (T:=T) (x:=x) (y:=y) (m:=m.toNat) (n:=n.toNat) O O
 rwa [Int.toNat_of_nonneg hm,Int.toNat_of_nonneg hn] at h
end
end AL
set_option linter.unusedVariables false
namespace AL
open Go
attribute [local semireducible] any eqv agg tup fp ptr sl eG emp cell own obj osl dL clo pf mp mpv
theorem Ea {p q:Nat→Option (Nat × Nat)} (h:∀i x,p i=some x→q i=some x):∀(parts:List (Nat × Value)) (cells r:Array Value),Instr.fill p cells parts=some r→Instr.fill q cells parts=some r
 | [],_,_,hf=>hf
 |(i,v)::rest,cells,r,hf=>by
  unfold Instr.fill at hf ⊢
  cases hp:p i with
  |none=>rw[hp] at hf;cases hf
  |some x=>
   rw[hp] at hf;rw[h i x hp]
   obtain⟨o,s⟩:=x
   dsimp only at hf ⊢
   split
   ·next hc=>rw[if_pos hc] at hf;cases hf
   ·next hc=>rw[if_neg hc] at hf;exact Ea h rest _ r hf
def UV (P:Program) (T:Nat) (pl:List (Nat × Nat)):Bool:=
 match P.underlying T with
 |some (.array _ e)=>match P.info? e with
  |some i=>(List.range pl.length).all fun j=>match pl[j]? with
   |some (o,s)=>Nat.beq o (j*i.size)&&Nat.beq s i.size
   |none=>false
  |none=>false
 |_=>false
theorem Sl {P:Program} {T:Nat} {pl:List (Nat × Nat)} {z:List Value} (h:UV P T pl=true) (hz:(P.info? T).map (fun i=>i.zero.map (fun v=>v.cells))=some (some z.toArray)):fY P T pl z:=by
 refine⟨fun w parts cells hf=> ?_⟩
 obtain⟨zv,hzv,hzc⟩:=(cE hz).z
 unfold UV at h
 cases hu:P.underlying T with
 |none=>simp[hu] at h
 |some D=>
  rw[hu] at h
  cases D<;>simp at h
  case array n e=>
  cases hi:P.info? e with
  |none=>simp[hi] at h
  |some i=>
   rw[hi] at h
   dsimp only at h
   have hsz:(Go.sizeOf e).run P w= .ok i.size w:=by simp[Go.sizeOf,typeInfo,program,Sem.run,hi]
   have hf':=Ea (q:=fun j=>some (j*i.size,i.size)) (fun j x hx=>by
    have hj:j<pl.length:=(List.getElem?_eq_some_iff.1 hx).1
    have h1:=(List.all_eq_true.1 h) j (List.mem_range.2 hj)
    rw[hx] at h1
    obtain⟨o,s⟩:=x
    simp at h1
    simp[h1.1,h1.2]) _ _ _ hf
   simp only [Instr.build,Sem.run_bind,hzv,Result.andThen_ok,run_underlying hu,hzc,hsz,hf']
   rfl
section
variable {P:Program} {r:Option Nat} {ops:Array Oper} {Q:Exit→Act→World→Prop} {rest:List Oper} {B:Base} {E:Env} {H:Hp} {a:Act} {w:World}
variable {d ty:Nat} {pos:String} {af:Array Edge} {ι:Type}
end
end AL
set_option linter.unusedVariables false
set_option linter.unusedSimpArgs false
namespace AL
open Go
attribute [local semireducible] any eqv agg tup fp ptr sl eG emp cell own obj osl dL clo pf mp mpv
abbrev u64 (n:Int):AV:=eqv (.int .u64 n)
def U64 (n:Int):Prop:=0≤n∧n<18446744073709551616
theorem mR {n:Int} (h:U64 n):IntKind.u64.wrap n=n:=by
 obtain⟨h0,h1⟩:=h
 have e:(2:Int)^IntKind.u64.bits=18446744073709551616:=rfl
 have s:IntKind.u64.signed=false:=rfl
 simp only [IntKind.wrap,e,s]
 simp;omega
section
variable {P:Program} {T:TypeId} {x y:Operand} {m n:Int}
theorem BA (h:U64 (m+n)):cP P .add T x y (.int .u64 m) (.int .u64 n) (.int .u64 (m+n)):=fun w=>by
 simp[eqGuard,binOp,Op.intArith,mR h]
theorem xI (h:U64 (m*n)):cP P .mul T x y (.int .u64 m) (.int .u64 n) (.int .u64 (m*n)):=fun w=>by
 simp[eqGuard,binOp,Op.intArith,mR h]
theorem IP {m:Nat} (h:m<2^64):(BitVec.ofInt 64 (m:Int)).toNat=m:=by
 rw[BitVec.toNat_ofInt]
 omega
theorem Am (h0:0≤m) (h:m<4294967296):cP P .and T x y (.int .u64 m) (.int .u64 4294967295) (.int .u64 m):=fun w=>by
 obtain⟨k,rfl⟩:=Int.eq_ofNat_of_zero_le h0
 simp only [eqGuard,binOp,Op.intBits,Sem.run_bind]
 have e:(BitVec.ofInt IntKind.u64.bits (k:Int)&&&BitVec.ofInt IntKind.u64.bits (4294967295:Int)).toNat=k:=by
  show(BitVec.ofInt 64 (k:Int)&&&BitVec.ofInt 64 ((4294967295:Nat):Int)).toNat=_
  rw[BitVec.toNat_and,IP O,IP O]
  have:=Nat.and_two_pow_sub_one_eq_mod k 32
  rw[show(2^32- 1:Nat)=4294967295 from rfl] at this
  rw[this];omega
 simp only [e,mR (n:=(k:Int)) ⟨O,O⟩]
 simp
theorem rN (h0:0≤m) (h:m<4294967296):cP P .shr T x y (.int .u64 m) (.int .u64 32) (.int .u64 0):=fun w=>by
 obtain⟨k,rfl⟩:=Int.eq_ofNat_of_zero_le h0
 have e:k/4294967296=0:=Nat.div_eq_of_lt O
 have h1:¬((32:Int)<0):=by omega
 have h3:(k:Int).fdiv (2^32)=0:=by
  rw[Int.fdiv_eq_ediv_of_nonneg _ (by decide)]
  omega
 simp only [eqGuard,binOp,Op.shift,Sem.run_bind]
 rw[if_neg h1]
 have h4:(k:Int).fdiv 4294967296=0:=h3
 simp[IntKind.bits,h4,IntKind.wrap]
end
section
variable {P:Program} {r:Option Nat} {ops:Array Oper} {Q:Exit→Act→World→Prop} {rest:List Oper} {B:Base} {E:Env} {H:Hp} {a:Act} {w:World}
variable {d ty:Nat} {pos:String} {af:Array Edge} {ι:Type}
theorem Oy {α:Type} {m cap et b:Nat} {enc:α→List AV} {xs ys:List α} {F:Fz} (h:(own (.slice (some ⟨b,0,none⟩) m cap) et 1 enc xs).p w F) {i:Nat} {cs:List Value} (hc:Els w F 1 enc ys cs) (hfit:i+ys.length≤xs.length) (hF:¬F b):
 ∃cur:Array Value,w.heap[b]?=some (.cells cur et (0,0))∧i+cs.length≤cur.size∧cur.toList.take xs.length=cur.toList.take (xs.length*1)∧
  (own (.slice (some ⟨b,0,none⟩) m cap) et 1 enc (xs.take i++ys++xs.drop (i+ys.length))).p (w.setRow b (cur.toList.take i++cs++cur.toList.drop (i+cs.length)).toArray) F:=by
 obtain⟨hm,vs,h,hels⟩:=h
 have hlen:=hels.len
 have hcl:=hc.len
 simp only [Nat.mul_one] at hlen hcl
 rcases h.2 with⟨hv',hx⟩|⟨b',cap',cur,hv',h0,hcc,hcap,hmx,hsz,htake⟩
 ·cases hv'
 ·simp only [Value.slice.injEq,Option.some.injEq,Addr.mk.injEq,and_true] at hv'
  obtain⟨rfl,rfl,rfl⟩:=hv'
  have hst:∀b',F b'→(w.setRow b (cur.toList.take i++cs++cur.toList.drop (i+cs.length)).toArray).heap[b']?=w.heap[b']?:=fun b' hb=>setRow_other w b b' _ (fun e=>hF (e▸hb))
  have hels':=hels.st (fun _ h=>h) hst
  have hc':=hc.st (fun _ h=>h) hst
  have htot:(xs.take i++ys++xs.drop (i+ys.length)).length=xs.length:=by simp;omega
  simp only [Nat.mul_one] at hsz htake
  refine⟨cur,hcc,O,by rw[Nat.mul_one],by rw[htot];exact hm,vs.take i++cs++vs.drop (i+cs.length),⟨?_,.inr ⟨b,cap,_,?_,h0,setRow_heap w b cur _ et _ hcc,by rw[htot];exact hcap,hmx,?_,?_⟩⟩,?_,?_⟩
  ·rw[htot];simp;omega
  ·rw[htot]
  ·simp;omega
  ·rw[htot,←htake]
   apply List.ext_getElem?
   intro t
   have m1:min i cur.size=i:=by omega
   have m2:min xs.length cur.size=xs.length:=by omega
   have m3:min i xs.length=i:=by omega
   simp only [Nat.mul_one,List.getElem?_take,List.getElem?_append,List.length_append,List.length_take,List.getElem?_drop,Array.length_toList,m1,m2,m3]
   by_cases h1:t<xs.length
   ·rw[if_pos h1]
    by_cases h2:t<i+cs.length
    ·rw[if_pos h2,if_pos h2]
     by_cases h3:t<i
     ·rw[if_pos h3,if_pos h3,if_pos h3,if_pos h3,if_pos h1]
     ·rw[if_neg h3,if_neg h3]
    ·rw[if_neg h2,if_neg h2,if_pos O]
   ·rw[if_neg h1,if_neg O,if_neg O]
  ·rw[htot];simp;omega
  ·intro t x ht
   simp only [Nat.mul_one]
   have hvl:(vs.take i++cs++vs.drop (i+cs.length)).length=xs.length:=by simp;omega
   have htl:t<xs.length:=by rw[←htot];exact(List.getElem?_eq_some_iff.1 ht).1
   have e1:∀(l:List Value) (t:Nat),(l.drop t).take 1=match l[t]? with|some v=> [v]|none=> []:=fun l t=>by
    cases hl:l[t]? with
    |none=>rw[List.drop_eq_nil_of_le (by simpa using hl)];rfl
    |some v=>
     obtain⟨hlt,rfl⟩:=List.getElem?_eq_some_iff.1 hl
     rw[List.drop_eq_getElem_cons hlt];rfl
   rw[e1]
   have g1:=fun t x h=>hels'.el t x h
   have g2:=fun t x h=>hc'.el t x h
   simp only [Nat.mul_one,e1] at g1 g2
   have m3:min i xs.length=i:=by omega
   have m4:min i vs.length=i:=by omega
   simp only [List.getElem?_append,List.length_append,List.length_take,List.getElem?_take,List.getElem?_drop,m3,m4] at ht ⊢
   by_cases h2:t<i+ys.length
   ·rw[if_pos h2] at ht
    rw[if_pos O]
    by_cases h3:t<i
    ·rw[if_pos h3,if_pos h3] at ht
     rw[if_pos h3,if_pos h3]
     exact g1 t x ht
    ·rw[if_neg h3] at ht
     rw[if_neg h3]
     exact g2 _ x ht
   ·rw[if_neg h2] at ht
    rw[if_neg O]
    have:=g1 _ x ht
    rw[show i+cs.length+(t- (i+cs.length))=i+ys.length+(t- (i+ys.length)) by omega]
    exact this
theorem xJ {α:Type} {T T' e by_ m cap l c l2 c2 et b i key:Nat} {z:List Value} {enc:α→List AV} {xs ys:List α} {F:Fz} {Ds:List Nat} (hs:SimF B E H a w F Ds) (hk:lkH key H=own (.slice (some ⟨b,0,none⟩) m cap) et 1 enc xs) (hT:dW P T e 1 by_ z)
 {A:Option Addr} {cs:List Value} (hcs:Els w F 1 enc ys cs) (hn:ys.length=min l2 l) (hfit:i+ys.length≤xs.length) (hsrc:0<ys.length→∃a,A=some a∧∀j v,cs[j]?=some v→w.cell? (a.add j)=some v) (h1:∀v∈cs,v.oneCell'=true):
 ∃w',(Builtin.copy_ #[T,T'] ty #[.slice (some ⟨b,i,none⟩) l c,.slice A l2 c2]).run P w= .ok (.int .i64 (ys.length:Int)) w'∧SimF B E ((key,own (.slice (some ⟨b,0,none⟩) m cap) et 1 enc (xs.take i++ys++xs.drop (i+ys.length)))::H) a w' F Ds:=by
 obtain⟨ti,hi,hsz,_⟩:=hT.info
 have hs1:(P.info? e).map (·.size)=some 1:=by rw[hi];simp[hsz]
 have hcl:=hcs.len
 rw[Nat.mul_one] at hcl
 have hfoot:(lkH key H).foot b:=by rw[hk];rfl
 have h3:=hs.hp key
 rw[hk] at h3
 obtain⟨cur,hcc,hl,_,hp⟩:=Oy h3 hcs hfit (hs.hF key b hfoot)
 by_cases h0:0<ys.length
 ·obtain⟨a',rfl,hrd⟩:=hsrc h0
  refine⟨_,by rw[run_copy_row (P:=P) w T T' ty e b i l c a' l2 c2 cur et cs hT.und hs1 hcc (by rw[hcl,hn]) hrd hl h1,hcl];rfl,hs.row key _ _ hfoot (fun b' hb'=>by rw[hk];exact hb') hp⟩
 ·have hy:ys= []:=List.eq_nil_of_length_eq_zero O
  subst hy
  refine⟨w,by rw[run_copy_none (P:=P) w T T' ty e _ A l c l2 c2 hT.und hs1 (show min l2 l=0 by rw[←hn];rfl)];rfl,?_⟩
  have e1:xs.take i++ []++xs.drop (i+0)=xs:=by simp
  have e1:xs.take i++ []++xs.drop (i+([]:List α).length)=xs:=e1
  rw[e1]
  have:own (.slice (some ⟨b,0,none⟩) m cap) et 1 enc xs=lkH key H:=hk.symm
  exact hs.upd key _ (Nat.le_refl _) rfl rfl rfl (fun _ _ _=>rfl) (fun b hb=>⟨.inl (by rw[hk];exact hb),(hs.hN key b (by rw[hk];exact hb)).1⟩) h3
end
end AL
set_option linter.unusedVariables false
namespace AL
open Go
attribute [local semireducible] any eqv agg tup fp ptr sl eG emp cell own obj osl dL clo pf mp mpv
def sv (v:Value):Value:=match v with
 | .slice A n c=> .slice A n c
 |_=> .slice none 0 0
instance (key:Nat) (v:Value):One (osl key (sv v)):=⟨fun {w F u} h=>by
 have h:u=sv v:=h
 subst h
 unfold sv
 split<;>rfl⟩
instance (v:Value):One (eqv (sv v)):=⟨fun {w F u} h=>by
 have h:u=sv v:=h
 subst h
 unfold sv
 split<;>rfl⟩
theorem JZ {α:Type} {v:Value} {e n:Nat} {enc:α→List AV} {xs:List α} {w:World} {F:Fz} (h:(own v e n enc xs).p w F):sv v=v:=by
 obtain⟨_,vs,h,_⟩:=h
 rcases h.2 with⟨hv,_⟩|⟨b,cap,cur,hv,_⟩
 ·rw[hv];rfl
 ·rw[hv];rfl
def aX {α:Type} (us:List Value) (e n:Nat) (enc:α→List AV) (xss:List (List α)) (hole:Option Nat):HA:=
 ⟨fun b=> ∃i u,us[i]?=some u∧hole≠some i∧ownB u b,
  fun w F=>us.length=xss.length∧(∀(i:Nat) (u:Value) (xs:List α),us[i]?=some u→xss[i]?=some xs→hole≠some i→(own u e n enc xs).p w F)∧
   ∀(i j:Nat) (u v:Value),i≠j→us[i]?=some u→us[j]?=some v→hole≠some i→hole≠some j→∀b,ownB u b→¬ownB v b,
  fun hF hw ⟨h1,h2,h3⟩=>⟨h1,fun i u xs hu hx hh=>HA.st _ hF (fun b hb=>hw b (hb.imp id (fun ho=>⟨i,u,hu,hh,ho⟩))) (h2 i u xs hu hx hh),h3⟩⟩
section
variable {B:Base} {E:Env} {H:Hp} {a:Act} {w:World}
theorem Sim.takeB {α:Type} {us:List Value} {e n:Nat} {enc:α→List AV} {xss:List (List α)} {u:Value} {xs:List α} (hs:Sim B E H a w) (key key' i:Nat) (hk:lkH key H=aX us e n enc xss none) (hk':lkH key' H=emp) (hne:key'≠key)
 (hu:us[i]?=some u) (hx:xss[i]?=some xs):Sim B E ((key',own u e n enc xs)::(key,aX us e n enc xss (some i))::H) a w:=by
 obtain⟨F,Ds,h⟩:=hs
 have l1:lkH key' ((key',own u e n enc xs)::(key,aX us e n enc xss (some i))::H)=own u e n enc xs:=bB _ _ _
 have l2:lkH key ((key',own u e n enc xs)::(key,aX us e n enc xss (some i))::H)=aX us e n enc xss (some i):=by rw[bG _ _ hne,bB]
 have l3:∀k,k≠key'→k≠key→lkH k ((key',own u e n enc xs)::(key,aX us e n enc xss (some i))::H)=lkH k H:=fun k h1 h2=>by rw[bG _ _ (Ne.symm h1),bG _ _ (Ne.symm h2)]
 have hp0:=h.hp key
 rw[hk] at hp0
 obtain⟨g1,g2,g3⟩:=hp0
 have f1:∀b,ownB u b→(lkH key H).foot b:=fun b hb=>by rw[hk];exact⟨i,u,hu,by simp,hb⟩
 have f2:∀b,(aX us e n enc xss (some i)).foot b→(lkH key H).foot b:=fun b ⟨j,v,hj,_,hb⟩=>by rw[hk];exact⟨j,v,hj,by simp,hb⟩
 have f0:∀k b,(lkH k ((key',own u e n enc xs)::(key,aX us e n enc xss (some i))::H)).foot b→∃k0,(lkH k0 H).foot b∧(k≠key'→k≠key→k0=k)∧(k=key'∨k=key→k0=key):=fun k b hb=>by
  by_cases e1:k=key'
  ·subst e1;rw[l1] at hb;exact⟨key,f1 b hb,fun h=>absurd rfl h,fun _=>rfl⟩
  ·by_cases e2:k=key
   ·subst e2;rw[l2] at hb;exact⟨k,f2 b hb,fun _ _=>rfl,fun _=>rfl⟩
   ·rw[l3 k e1 e2] at hb;exact⟨k,hb,fun _ _=>rfl,fun h=>h.elim (fun h=>absurd h e1) (fun h=>absurd h e2)⟩
 have hdis:∀b,ownB u b→¬(aX us e n enc xss (some i)).foot b:=fun b hb ⟨j,v,hj,hh,hb'⟩=>g3 i j u v (fun e=>hh (by rw[e])) hu hj (by simp) (by simp) b hb hb'
 refine⟨F,Ds,{ h with
  hp:=fun k=> ?_
  hF:=fun k b hb=>by obtain⟨k0,h0,_⟩:=f0 k b hb;exact h.hF k0 b h0
  hd:=fun k k2 b hkk hb hb2=> ?_
  hN:=fun k b hb=>by obtain⟨k0,h0,_⟩:=f0 k b hb;exact h.hN k0 b h0
  dD:=fun D hD=> ?_ }⟩
 ·by_cases e1:k=key'
  ·subst e1;rw[l1];exact g2 i u xs hu hx (by simp)
  ·by_cases e2:k=key
   ·subst e2;rw[l2];exact⟨g1,fun j v ys hj hy _=>g2 j v ys hj hy (by simp),fun j j' v v' hjj hj hj' _ _=>g3 j j' v v' hjj hj hj' (by simp) (by simp)⟩
   ·rw[l3 k e1 e2];exact h.hp k
 ·obtain⟨k0,h0,p1,p2⟩:=f0 k b hb
  obtain⟨k1,h1,q1,q2⟩:=f0 k2 b hb2
  by_cases e:k0=k1
  ·-- both in the big one
   by_cases a1:k=key'
   ·subst a1;rw[l1] at hb
    by_cases b2:k2=key
    ·subst b2;rw[l2] at hb2;exact hdis b hb hb2
    ·have:=q1 (Ne.symm hkk) b2
     have h5:=p2 (.inl rfl)
     exact b2 O
   ·by_cases a2:k=key
    ·subst a2;rw[l2] at hb
     by_cases b1:k2=key'
     ·subst b1;rw[l1] at hb2;exact hdis b hb2 hb
     ·have:=q1 b1 (Ne.symm hkk)
      have h5:=p2 (.inr rfl)
      omega
    ·have h5:=p1 a1 a2
     by_cases b1:k2=key'∨k2=key
     ·have:=q2 b1;omega
     ·have:=q1 (fun h=>b1 (.inl h)) (fun h=>b1 (.inr h));omega
  ·exact h.hd k0 k1 b e h0 h1
 ·obtain⟨d1,d2,d3,d4⟩:=h.dD D hD
  exact⟨d1,d2,d3,fun k hk0=>by obtain⟨k0,h0,_⟩:=f0 k D hk0;exact d4 k0 h0⟩
theorem Sim.giveB {α:Type} {us:List Value} {e n:Nat} {enc:α→List AV} {xss:List (List α)} {u:Value} {xs:List α} (hs:Sim B E H a w) (key key' i:Nat) (hk:lkH key H=aX us e n enc xss (some i)) (hk':lkH key' H=own u e n enc xs) (hne:key'≠key) (hi:i<us.length):
 Sim B E ((key',emp)::(key,aX (us.set i u) e n enc (xss.set i xs) none)::H) a w:=by
 obtain⟨F,Ds,h⟩:=hs
 have l1:lkH key' ((key',emp)::(key,aX (us.set i u) e n enc (xss.set i xs) none)::H)=emp:=bB _ _ _
 have l2:lkH key ((key',emp)::(key,aX (us.set i u) e n enc (xss.set i xs) none)::H)=aX (us.set i u) e n enc (xss.set i xs) none:=by rw[bG _ _ hne,bB]
 have l3:∀k,k≠key'→k≠key→lkH k ((key',emp)::(key,aX (us.set i u) e n enc (xss.set i xs) none)::H)=lkH k H:=fun k h1 h2=>by rw[bG _ _ (Ne.symm h1),bG _ _ (Ne.symm h2)]
 have hp0:=h.hp key
 rw[hk] at hp0
 obtain⟨g1,g2,g3⟩:=hp0
 have hp1:=h.hp key'
 rw[hk'] at hp1
 have at_:∀(j:Nat) (v:Value),(us.set i u)[j]?=some v→(j=i∧v=u)∨(j≠i∧us[j]?=some v):=fun j v hj=>by
  by_cases e1:i=j
  ·subst e1;rw[List.getElem?_set_self hi] at hj;exact .inl ⟨rfl,(Option.some.inj hj).symm⟩
  ·rw[List.getElem?_set_ne e1] at hj;exact .inr ⟨Ne.symm e1,hj⟩
 have fo:∀(j:Nat) (v:Value) (b:Nat),j≠i→us[j]?=some v→ownB v b→(lkH key H).foot b:=fun j v b hj hv hb=>by rw[hk];exact⟨j,v,hv,fun e=>hj (Option.some.inj e).symm,hb⟩
 have f2:∀b,(aX (us.set i u) e n enc (xss.set i xs) none).foot b→(lkH key' H).foot b∨(lkH key H).foot b:=fun b ⟨j,v,hj,_,hb⟩=>by
  rcases at_ j v hj with⟨_,rfl⟩|⟨h1,h2⟩
  ·left;rw[hk'];exact hb
  ·right;exact fo j v b h1 h2 hb
 have f0:∀k b,(lkH k ((key',emp)::(key,aX (us.set i u) e n enc (xss.set i xs) none)::H)).foot b→∃k0,(lkH k0 H).foot b∧k≠key'∧(k≠key→k0=k)∧(k=key→k0=key∨k0=key'):=fun k b hb=>by
  by_cases e1:k=key'
  ·subst e1;rw[l1] at hb;exact hb.elim
  ·by_cases e2:k=key
   ·subst e2;rw[l2] at hb
    rcases f2 b hb with h1|h1
    ·exact⟨key',h1,e1,fun h=>absurd rfl h,fun _=> .inr rfl⟩
    ·exact⟨k,h1,e1,fun _=>rfl,fun _=> .inl rfl⟩
   ·rw[l3 k e1 e2] at hb;exact⟨k,hb,e1,fun _=>rfl,fun h=>absurd h e2⟩
 refine⟨F,Ds,{ h with
  hp:=fun k=> ?_
  hF:=fun k b hb=>by obtain⟨k0,h0,_⟩:=f0 k b hb;exact h.hF k0 b h0
  hd:=fun k k2 b hkk hb hb2=> ?_
  hN:=fun k b hb=>by obtain⟨k0,h0,_⟩:=f0 k b hb;exact h.hN k0 b h0
  dD:=fun D hD=> ?_ }⟩
 ·by_cases e1:k=key'
  ·subst e1;rw[l1];trivial
  ·by_cases e2:k=key
   ·subst e2;rw[l2]
    refine⟨by simpa using g1,fun j v ys hj hy _=> ?_,fun j j' v v' hjj hj hj' _ _ b hb hb'=> ?_⟩
    ·rcases at_ j v hj with⟨rfl,rfl⟩|⟨h1,h2⟩
     ·rw[List.getElem?_set_self O] at hy
      have:xs=ys:=Option.some.inj hy
      subst this;exact hp1
     ·rw[List.getElem?_set_ne (Ne.symm h1)] at hy
      exact g2 j v ys h2 hy (fun e=>h1 (Option.some.inj e).symm)
    ·rcases at_ j v hj with⟨rfl,rfl⟩|⟨h1,h2⟩
     ·rcases at_ j' v' hj' with⟨rfl,_⟩|⟨h3,h4⟩
      ·exact hjj rfl
      ·exact h.hd key' k b hne (by rw[hk'];exact hb) (fo j' v' b h3 h4 hb')
     ·rcases at_ j' v' hj' with⟨rfl,rfl⟩|⟨h3,h4⟩
      ·exact h.hd key' k b hne (by rw[hk'];exact hb') (fo j v b h1 h2 hb)
      ·exact g3 j j' v v' hjj h2 h4 (fun e=>h1 (Option.some.inj e).symm) (fun e=>h3 (Option.some.inj e).symm) b hb hb'
   ·rw[l3 k e1 e2];exact h.hp k
 ·obtain⟨k0,h0,a1,p1,p2⟩:=f0 k b hb
  obtain⟨k1,h1,b1,q1,q2⟩:=f0 k2 b hb2
  by_cases e:k0=k1
  ·by_cases a2:k=key
   ·have:=q1 (fun h=>hkk (a2.trans h.symm))
    rcases p2 a2 with h5|h5<;>omega
   ·have h5:=p1 a2
    by_cases b2:k2=key
    ·rcases q2 b2 with h6|h6<;>omega
    ·have:=q1 b2;omega
  ·exact h.hd k0 k1 b e h0 h1
 ·obtain⟨d1,d2,d3,d4⟩:=h.dD D hD
  exact⟨d1,d2,d3,fun k hk0=>by obtain⟨k0,h0,_⟩:=f0 k D hk0;exact d4 k0 h0⟩
theorem Sim.nilsB {α:Type} (h:Sim B E H a w) (key m e n:Nat) (enc:α→List AV):Sim B E ((key,aX (List.replicate m (.slice none 0 0)) e n enc (List.replicate m []) none)::H) a w:=by
 obtain⟨F,Ds,h⟩:=h
 have hu:∀(i:Nat) (u:Value),(List.replicate m (Value.slice none 0 0))[i]?=some u→u= .slice none 0 0:=fun i u hi=>by
  rw[List.getElem?_replicate] at hi
  split at hi
  ·exact(Option.some.inj hi).symm
  ·cases hi
 refine⟨F,Ds,h.upd key _ (Nat.le_refl _) rfl rfl rfl (fun _ _ _=>rfl) (fun b hb=> ?_) ⟨by simp,fun i u xs hi hx _=> ?_,fun i j u v _ hi _ _ _ b hb=> ?_⟩⟩
 ·obtain⟨i,u,hi,_,hb⟩:=hb
  have:=hu i u hi
  subst this;exact hb.elim
 ·have:=hu i u hi
  subst this
  have:xs= []:=by
   rw[List.getElem?_replicate] at hx
   split at hx
   ·exact(Option.some.inj hx).symm
   ·cases hx
  subst this
  exact⟨Nat.zero_le _,[],⟨by simp,.inl ⟨rfl,rfl⟩⟩,Els.nil _ _ _ _⟩
 ·have:=hu i u hi
  subst this;exact hb.elim
abbrev dG:Value→List AV:=fun u=> [eqv u]
end
end AL
