/- The abstract logic. Own texts of this claim, packed: MkALDraw2, MkALTab, MkALPair, MkALFresh. -/
import Derived.Test.YtnlfjojfgghchaaGreatDoorX01
set_option linter.all false
set_option linter.unusedVariables false
namespace AL
open Go
def upd (β:Nat→Value) (i:Nat) (b:Value):Nat→Value:=fun j=>bif Nat.beq j i then b else β j
def gbk (v:Value):Nat:=match v with
 | .int _ n=>n.toNat
 |_=>0
theorem pV {β:Nat→Value} {i j:Nat} {b:Value} (h:j≠i):upd β i b j=β j:=by
 have:Nat.beq j i=false:=by
  cases hb:Nat.beq j i
  ·rfl
  ·exact absurd (Nat.eq_of_beq_eq_true hb) h
 simp[upd,this]
def mR (d:Option Nat) (φ:AV) (E:Env):Env:=match d with
 |some d=>(d,φ)::E
 |none=>E
def mS (κ:Option Nat) (x:HA) (H:Hp):Hp:=match κ with
 |some κ=>(κ,x)::H
 |none=>H
structure Stp where
 d:Option Nat
 φ:(Nat→Value)→AV
 κ:Option Nat
 x:(Nat→Value)→HA
 kr:List Nat
def zY (H' H:Hp):List Nat→Prop
 | []=>True
 |k::r=>lkH k H'=lkH k H∧zY H' H r
theorem rD {H' H:Hp}:∀{l:List Nat},(∀k∈l,lkH k H'=lkH k H)→zY H' H l
 | [],_=>trivial
 |k::r,h=>⟨h k (by simp),rD (fun y hy=>h y (List.mem_cons_of_mem _ hy))⟩
def PE (β:Nat→Value) (E:Env):List Stp→Env
 | []=>E
 |s::l=>PE β (mR s.d (s.φ β) E) l
def PH (β:Nat→Value) (H:Hp):List Stp→Hp
 | []=>H
 |s::l=>PH β (mS s.κ (s.x β) H) l
theorem xD (d:Nat) (φ:AV) (E:Env):lk d (mR (some d) φ E)=φ:=dC _ _ _
theorem qG {d:Option Nat} {φ:AV} {E:Env} {t:Nat} (h:d≠some t):lk t (mR d φ E)=lk t E:=by
 cases d with
 |none=>rfl
 |some d=>exact cC _ _ (fun e=>h (by rw[e]))
theorem wV (d:Nat) (φ:HA) (E:Hp):lkH d (mS (some d) φ E)=φ:=bG _ _ _
theorem oO {d:Option Nat} {φ:HA} {E:Hp} {t:Nat} (h:d≠some t):lkH t (mS d φ E)=lkH t E:=by
 cases d with
 |none=>rfl
 |some d=>exact bI _ _ (fun e=>h (by rw[e]))
theorem nR {β:Nat→Value} {t:Nat}:∀{l:List Stp} {E:Env},(∀s∈l,s.d≠some t)→lk t (PE β E l)=lk t E
 | [],_,_=>rfl
 |s::l,E,h=>by
  show lk t (PE β (mR s.d (s.φ β) E) l)=_
  rw[nR (fun y hy=>h y (List.mem_cons_of_mem _ hy)),qG (h s (by simp))]
theorem pO {β:Nat→Value} {t:Nat}:∀{l:List Stp} {H:Hp},(∀s∈l,s.κ≠some t)→lkH t (PH β H l)=lkH t H
 | [],_,_=>rfl
 |s::l,H,h=>by
  show lkH t (PH β (mS s.κ (s.x β) H) l)=_
  rw[pO (fun y hy=>h y (List.mem_cons_of_mem _ hy)),oO (h s (by simp))]
theorem zZ {β:Nat→Value} {t:Nat}:∀{l:List Stp} {E:Env} (i:Nat) (s:Stp),l[i]?=some s→s.d=some t→(∀(j:Nat) (s':Stp),i<j→l[j]?=some s'→s'.d≠some t)→lk t (PE β E l)=s.φ β
 | [],_,i,s,h,_,_=>by simp at h
 |s0::l,E,0,s,h,hd,hl=>by
  simp at h;subst h
  show lk t (PE β (mR s0.d (s0.φ β) E) l)=_
  rw[nR (fun y hy=>by
   obtain⟨j,hj⟩:=List.getElem?_of_mem hy
   exact hl (j+1) y O (by simpa using hj)),hd,xD]
 |s0::l,E,i+1,s,h,hd,hl=>zZ (l:=l) (E:=mR s0.d (s0.φ β) E) i s (by simpa using h) hd (fun j s' hj hs=>hl (j+1) s' O (by simpa using hs))
theorem xE {β:Nat→Value} {t:Nat}:∀{l:List Stp} {H:Hp} (i:Nat) (s:Stp),l[i]?=some s→s.κ=some t→(∀(j:Nat) (s':Stp),i<j→l[j]?=some s'→s'.κ≠some t)→lkH t (PH β H l)=s.x β
 | [],_,i,s,h,_,_=>by simp at h
 |s0::l,H,0,s,h,hd,hl=>by
  simp at h;subst h
  show lkH t (PH β (mS s0.κ (s0.x β) H) l)=_
  rw[pO (fun y hy=>by
   obtain⟨j,hj⟩:=List.getElem?_of_mem hy
   exact hl (j+1) y O (by simpa using hj)),hd,wV]
 |s0::l,H,i+1,s,h,hd,hl=>xE (l:=l) (H:=mS s0.κ (s0.x β) H) i s (by simpa using h) hd (fun j s' hj hs=>hl (j+1) s' O (by simpa using hs))
def QP (nh:Nat) (ms:List Nat) (ks:List (Option Nat × List Nat)):Bool:=
 (List.range nh).all fun i=>(List.range nh).all fun j=>Nat.beq i j||match ks[i]?,ks[j]? with
   |some (wi,ri),some (some κ,_)=>(!ri.contains κ&&wi !=some κ)||Nat.testBit (ms.getD i 0) j||Nat.testBit (ms.getD j 0) i
   |_,_=>true
structure KL (ops:Array Oper) (sts:List Stp):Prop where
 ok:∀(i j:Nat) (si sj:Stp) (κ:Nat),sts[i]?=some si→sts[j]?=some sj→i≠j→sj.κ=some κ→κ∈si.kr∨si.κ=some κ→nO ops i j∨nO ops j i
theorem KM {ops:Array Oper} {nh:Nat} {ms:List Nat} {sts:List Stp} (hm:nC ops ms=true) (hb:xC ops nh) (hl:sts.length=nh) (h:QP nh ms (sts.map fun s=>(s.κ,s.kr))=true):KL ops sts:=by
 refine⟨fun i j si sj κ hi hj hne hκ hm'=> ?_⟩
 have hi':i<nh:=by rw[←hl];exact(List.getElem?_eq_some_iff.1 hi).1
 have hj':j<nh:=by rw[←hl];exact(List.getElem?_eq_some_iff.1 hj).1
 have h1:=(List.all_eq_true.1 ((List.all_eq_true.1 h) i (List.mem_range.2 hi'))) j (List.mem_range.2 hj')
 have hne':Nat.beq i j=false:=by
  cases hb:Nat.beq i j
  ·rfl
  ·exact absurd (Nat.eq_of_beq_eq_true hb) hne
 simp only [List.getElem?_map,hi,hj,Option.map_some,hκ,hne',Bool.false_or,Bool.or_eq_true] at h1
 rcases h1 with(h1|h1)|h1
 ·simp only [Bool.and_eq_true,Bool.not_eq_true',bne_iff_ne,ne_eq] at h1
  rcases hm' with h2|h2
  ·have:=h1.1;simp[h2] at this
  ·exact absurd h2 h1.2
 ·exact .inl (nP hm hb.back i (Nat.lt_of_lt_of_le hi' hb.le) j h1)
 ·exact .inr (nP hm hb.back j (Nat.lt_of_lt_of_le hj' hb.le) i h1)
theorem yT {ops:Array Oper} (hback:∀(i:Nat) (o:Oper),ops[i]?=some o→∀e∈o.after,Region.binds .any e=true→e.on<i) {i j:Nat} (h:nO ops i j):j<i:=by
 induction h with
 |one hw=>
  rename_i i j
  cases ho:ops[i]? with
  |none=>unfold wf at hw;rw[ho] at hw;cases hw
  |some o=>
   obtain⟨e,he,hb,rfl⟩:=rC ho hw
   exact hback i o ho e he hb
 |more hw _ ih=>
  rename_i i m j _
  cases ho:ops[i]? with
  |none=>unfold wf at hw;rw[ho] at hw;cases hw
  |some o=>
   obtain⟨e,he,hb,rfl⟩:=rC ho hw
   have:=hback i o ho e he hb
   omega
theorem NF {ops:Array Oper} {i j:Nat} (h:nO ops i j):∃o,ops[i]?=some o:=by
 cases h with
 |one hw=>cases ho:ops[i]? with
  |none=>unfold wf at hw;rw[ho] at hw;cases hw
  |some o=>exact⟨o,rfl⟩
 |more hw _=>cases ho:ops[i]? with
  |none=>unfold wf at hw;rw[ho] at hw;cases hw
  |some o=>exact⟨o,rfl⟩
section
variable {P:Program} {r:Option Nat} {ops:Array Oper} {Q:Exit→Act→World→Prop} {B:Base}
def Js (r:Option Nat) (P:Program) (ops:Array Oper) (B:Base) (i:Nat) (o:Oper) (E:(Nat→Value)→Env) (H:(Nat→Value)→Hp) (s:Stp):Prop:=
 o.dst=s.d∧(∀(β β':Nat→Value),(∀j,j=i∨nO ops i j→β j=β' j)→s.φ β=s.φ β'∧s.x β=s.x β')∧
 ∀(β:Nat→Value) (Q:Exit→Act→World→Prop) (E':Env) (H':Hp) (rest:List Oper),(∀x∈o.looksAt ops,lk x E'=lk x (E β))→(∀k∈s.kr,lkH k H'=lkH k (H β))→
  (∀b,St r P ops Q B (mR s.d (s.φ (upd β i b)) E') (mS s.κ (s.x (upd β i b)) H') rest)→St r P ops Q B E' H' (o::rest)
theorem KN {nh:Nat} (hB:xC ops nh) {sts:List Stp} {E:Env} {H:Hp} (hlen:sts.length=nh) (hK:KL ops sts)
 (hps:∀(i:Nat) (o:Oper),i<nh→ops[i]?=some o→∃s,sts[i]?=some s∧Js r P ops B i o (fun β=>PE β E (sts.take i)) (fun β=>PH β H (sts.take i)) s)
 (ht:∀β,St r P ops Q B (PE β E sts) (PH β H sts) (ops.toList.drop nh)):∀(fuel c:Nat) (listed:Array Bool) (β:Nat→Value) (E':Env) (H':Hp) (a:Act) (w:World),listed.size=ops.size→fuel+c=ops.size→(listed.toList.countP (· ==true)=c)→
 (∀(j:Nat) (o:Oper),ops[j]?=some o→listed.getD j false=true→∀e∈o.after,Region.binds .any e=true→listed.getD e.on false=true)→(∀j,nh≤j→j<ops.size→listed.getD j true=false)→
 (∀(i d:Nat) (s:Stp),listed.getD i false=true→sts[i]?=some s→s.d=some d→lk d E'=s.φ β)→(∀(x:Nat),(∀(i:Nat) (s:Stp),listed.getD i false=true→sts[i]?=some s→s.d≠some x)→lk x E'=lk x E)→
 (∀(i κ:Nat) (s:Stp),listed.getD i false=true→sts[i]?=some s→s.κ=some κ→(∀(j:Nat) (s':Stp),listed.getD j false=true→sts[j]?=some s'→s'.κ=some κ→j≤i)→lkH κ H'=s.x β)→
 (∀(κ:Nat),(∀(i:Nat) (s:Stp),listed.getD i false=true→sts[i]?=some s→s.κ≠some κ)→lkH κ H'=lkH κ H)→Sim B E' H' a w→
 wpAnyIn (FW r) 0 P .any ops Q fuel listed a w:=by
 have hdst:∀(i:Nat) (s:Stp),sts[i]?=some s→∃o,ops[i]?=some o∧o.dst=s.d∧i<nh:=fun i s hi=>by
  have hlt:i<nh:=by rw[←hlen];exact(List.getElem?_eq_some_iff.1 hi).1
  have hlt':i<ops.size:=Nat.lt_of_lt_of_le hlt hB.le
  obtain⟨s',h1,h2⟩:=hps i ops[i] hlt (by simp[hlt'])
  rw[hi] at h1;simp at h1;subst h1
  exact⟨ops[i],by simp[hlt'],h2.1,hlt⟩
 have huniq:∀(i j:Nat) (d:Nat) (si sj:Stp),sts[i]?=some si→sts[j]?=some sj→si.d=some d→sj.d=some d→i=j:=fun i j d si sj hi hj hdi hdj=>by
  obtain⟨oi,h1,h2,hli⟩:=hdst i si hi
  obtain⟨oj,h3,h4,hlj⟩:=hdst j sj hj
  refine Classical.byContradiction fun hne=> ?_
  exact hB.dst i j oi oj d h1 h3 hli hlj hne (h4.trans hdj) (h2.trans hdi)
 have hend:∀(fuel:Nat) (listed:Array Bool) (β:Nat→Value) (E':Env) (H':Hp) (a:Act) (w:World),listed.size=ops.size→fuel+nh=ops.size→(∀j,j<nh→listed.getD j false=true)→(∀j,nh≤j→j<ops.size→listed.getD j true=false)→
  (∀(i d:Nat) (s:Stp),listed.getD i false=true→sts[i]?=some s→s.d=some d→lk d E'=s.φ β)→(∀(x:Nat),(∀(i:Nat) (s:Stp),listed.getD i false=true→sts[i]?=some s→s.d≠some x)→lk x E'=lk x E)→
  (∀(i κ:Nat) (s:Stp),listed.getD i false=true→sts[i]?=some s→s.κ=some κ→(∀(j:Nat) (s':Stp),listed.getD j false=true→sts[j]?=some s'→s'.κ=some κ→j≤i)→lkH κ H'=s.x β)→
  (∀(κ:Nat),(∀(i:Nat) (s:Stp),listed.getD i false=true→sts[i]?=some s→s.κ≠some κ)→lkH κ H'=lkH κ H)→Sim B E' H' a w→wpAnyIn (FW r) 0 P .any ops Q fuel listed a w:=by
  intro fuel listed β E' H' a w hsz hf hall hut e1 e2 g1 g2 hs
  have hl:∀(i:Nat) (s:Stp),sts[i]?=some s→listed.getD i false=true:=fun i s hi=>hall i (by rw[←hlen];exact(List.getElem?_eq_some_iff.1 hi).1)
  refine qR hB fuel nh listed a w (Nat.le_refl _) hf hsz hall hut (ht β a w (hs.less (fun x {w F v} hp=> ?_) (fun κ=> ?_)))
  ·have:lk x E'=lk x (PE β E sts):=by
    by_cases hx:∃(i:Nat) (s:Stp),sts[i]?=some s∧s.d=some x
    ·obtain⟨i,s,hi,hd⟩:=hx
     rw[e1 i x s (hl i s hi) hi hd,zZ i s hi hd (fun j s' hj hs' hd'=>by have:=huniq i j x s s' hi hs' hd hd';omega)]
    ·rw[e2 x (fun i s _ hi hd=>hx ⟨i,s,hi,hd⟩),nR (fun s hs' hd=>by
      obtain⟨i,hi⟩:=List.getElem?_of_mem hs'
      exact hx ⟨i,s,hi,hd⟩)]
   rw[←this];exact hp
  ·have:lkH κ H'=lkH κ (PH β H sts):=by
    by_cases hx:∃(i:Nat) (s:Stp),sts[i]?=some s∧s.κ=some κ
    ·-- the last writer
     have hmax:∃(i:Nat) (s:Stp),sts[i]?=some s∧s.κ=some κ∧∀(j:Nat) (s':Stp),i<j→sts[j]?=some s'→s'.κ≠some κ:=by
      have:∃m,(∃s:Stp,sts[sts.length- m]?=some s∧s.κ=some κ)∧∀m',(∃s:Stp,sts[sts.length- m']?=some s∧s.κ=some κ)→m≤m':=by
       refine exists_least ?_
       obtain⟨i,s,hi,hκ⟩:=hx
       have hlt:=(List.getElem?_eq_some_iff.1 hi).1
       exact⟨sts.length- i,s,by rw[show sts.length- (sts.length- i)=i by omega];exact hi,hκ⟩
      obtain⟨m,⟨s,hm,hκ⟩,hmin⟩:=this
      refine⟨sts.length- m,s,hm,hκ,fun j s' hj hs' hκ'=> ?_⟩
      have hlt:=(List.getElem?_eq_some_iff.1 hs').1
      have:=hmin (sts.length- j) ⟨s',by rw[show sts.length- (sts.length- j)=j by omega];exact hs',hκ'⟩
      omega
     obtain⟨i,s,hi,hκ,hlast⟩:=hmax
     rw[g1 i κ s (hl i s hi) hi hκ (fun j s' _ hs' hκ'=>by
      rcases Nat.lt_or_ge i j with h|h
      ·exact absurd hκ' (hlast j s' h hs')
      ·exact h),xE i s hi hκ hlast]
    ·rw[g2 κ (fun i s _ hi hd=>hx ⟨i,s,hi,hd⟩),pO (fun s hs' hd=>by
      obtain⟨i,hi⟩:=List.getElem?_of_mem hs'
      exact hx ⟨i,s,hi,hd⟩)]
   rw[←this];exact⟨fun _ h=>h,fun h=>h⟩
 intro fuel
 induction fuel with
 |zero=>
  intro c listed β E' H' a w hsz hf hc hcl hut e1 e2 g1 g2 hs
  have hall:∀j,j<ops.size→listed.getD j false=true:=fun j hj=>by
   have hl0:listed.toList.length=ops.size:=by simpa using hsz
   have:listed.toList.countP (· ==true)=listed.toList.length:=by rw[hc];omega
   have:=List.countP_eq_length.1 this (listed[j]' O) (by simp)
   simp[hsz,hj] at this ⊢;exact this
  have hnh:nh=ops.size:=by
   rcases Nat.lt_or_ge nh ops.size with h|h
   ·have h3:=hut nh (Nat.le_refl _) h
    have h4:=hall nh h
    simp[hsz,h] at h3 h4
    rw[h3] at h4;cases h4
   ·have:=hB.le;omega
  exact hend 0 listed β E' H' a w hsz O (fun j hj=>hall j O) hut e1 e2 g1 g2 hs
 |succ fuel ih=>
  intro c listed β E' H' a w hsz hf hc hcl hut e1 e2 g1 g2 hs
  by_cases hall:∀j,j<nh→listed.getD j false=true
  ·have hcnt:c=nh:=by
    have hle:=hB.le
    rw[←hc,←List.take_append_drop nh listed.toList,List.countP_append]
    have q1:(listed.toList.take nh).countP (· ==true)=nh:=by
     have:(listed.toList.take nh).length=nh:=by simp;omega
     rw[List.countP_eq_length.2,this]
     intro b hb
     obtain⟨i,hi⟩:=List.getElem?_of_mem hb
     rw[List.getElem?_take] at hi
     split at hi
     ·next hlt=>
      have h3:=hall i hlt
      have:i<listed.size:=by omega
      simp[this] at hi h3
      rw[←hi,h3];rfl
     ·cases hi
    have q2:(listed.toList.drop nh).countP (· ==true)=0:=by
     rw[List.countP_eq_zero]
     intro b hb
     obtain⟨i,hi⟩:=List.getElem?_of_mem hb
     rw[List.getElem?_drop] at hi
     have hlt:nh+i<listed.size:=by have:=(List.getElem?_eq_some_iff.1 hi).1;simpa using this
     have h3:=hut (nh+i) O O
     simp[hlt] at hi h3
     rw[←hi,h3];simp
    omega
   exact hend (fuel+1) listed β E' H' a w hsz O hall hut e1 e2 g1 g2 hs
  ·have hex:∃j,(j<nh∧listed.getD j false=false)∧∀m,(m<nh∧listed.getD m false=false)→j≤m:=by
    refine exists_least (Classical.byContradiction fun hno=>hall (fun j hj=> ?_))
    cases hg:listed.getD j false
    ·exact absurd ⟨j,hj,hg⟩ hno
    ·rfl
   obtain⟨j0,⟨hj0,hj0f⟩,hmin⟩:=hex
   have hnt:∀i,listed.getD i false=false→i<ops.size→listed.getD i true=false:=fun i hi hlt=>by
    simp[hsz,hlt] at hi ⊢;exact hi
   have hj0s:j0<ops.size:=Nat.lt_of_lt_of_le hj0 hB.le
   have hr0:j0∈Region.ready .any ops listed:=mem_ready.2 ⟨hnt j0 hj0f hj0s,ops[j0],by simp[hj0s],fun e he hb=>by
    have hlt:=hB.back j0 ops[j0] (by simp[hj0s]) e he hb
    cases hg:listed.getD e.on false
    ·have:=hmin e.on ⟨O,hg⟩;omega
    ·rfl⟩
   refine⟨fun h0=>(by rw[h0] at hr0;cases hr0),fun i hi=> ?_⟩
   obtain⟨hun,oi,hoi,hafter⟩:=mem_ready.1 hi
   have his:i<ops.size:=(Array.getElem?_eq_some_iff.1 hoi).1
   have hinh:i<nh:=by
    rcases Nat.lt_or_ge i nh with h|h
    ·exact h
    ·have:=mA hcl (hB.tail i oi hoi h j0 O) oi hoi hafter
     rw[hj0f] at this;cases this
   have hunf:listed.getD i false=false:=by simp[hsz,his] at hun ⊢;exact hun
   obtain⟨s,hpi,hd,hdep,hstep⟩:=hps i oi hinh hoi
   have hbefore:∀j,nO ops i j→listed.getD j false=true:=fun j hp=>mA hcl hp oi hoi hafter
   have hbehind:∀j,nO ops j i→listed.getD j false=false:=fun j hp=>by
    cases hg:listed.getD j false
    ·rfl
    ·obtain⟨oj,hoj⟩:=NF hp
     have:=mA hcl hp oj hoj (hcl j oj hoj hg)
     rw[hunf] at this;cases this
   have hlook:∀x∈oi.looksAt ops,lk x E'=lk x (PE β E (sts.take i)):=fun x hx=>by
    by_cases hex:∃(j:Nat) (s':Stp),sts[j]?=some s'∧s'.d=some x
    ·obtain⟨j,s',hj,hdx⟩:=hex
     obtain⟨oj,hoj,hdj,_⟩:=hdst j s' hj
     rcases hB.dep i j oi oj x hoi hoj hinh (hdj.trans hdx) hx with⟨hlt,hw⟩|⟨hlt,hw⟩
     ·have hl:listed.getD j false=true:=hbefore j (.one hw)
      rw[e1 j x s' hl hj hdx]
      have hjt:(sts.take i)[j]?=some s':=by rw[List.getElem?_take,if_pos hlt];exact hj
      exact(zZ j s' hjt hdx (fun k s'' hk hs'' hd''=>by
       rw[List.getElem?_take] at hs''
       split at hs''
       ·have:=huniq j k x s' s'' hj hs'' hdx hd'';omega
       ·cases hs'')).symm
     ·have hjn:=hbehind j (.one hw)
      rw[e2 x (fun k s'' hk hpk hd''=>by
       have:=huniq k j x s'' s' hpk hj hd'' hdx
       subst this;rw[hjn] at hk;cases hk)]
      exact(nR (fun s'' hs'' hd''=>by
       obtain⟨k,hk⟩:=List.getElem?_of_mem hs''
       rw[List.getElem?_take] at hk
       split at hk
       ·next hki=>
        have:=huniq k j x s'' s' hk hj hd'' hdx
        omega
       ·cases hk)).symm
    ·rw[e2 x (fun k s'' _ hpk hd''=>hex ⟨k,s'',hpk,hd''⟩)]
     exact(nR (fun s'' hs'' hd''=>by
      obtain⟨k,hk⟩:=List.getElem?_of_mem hs''
      rw[List.getElem?_take] at hk
      split at hk
      ·exact hex ⟨k,s'',hk,hd''⟩
      ·cases hk)).symm
   have hkr:∀κ∈s.kr,lkH κ H'=lkH κ (PH β H (sts.take i)):=fun κ hκ=>by
    have hw:∀(j:Nat) (s':Stp),sts[j]?=some s'→s'.κ=some κ→j≠i→(listed.getD j false=true↔j<i):=fun j s' hj hκ' hne=>by
     rcases hK.ok i j s s' κ hpi hj (Ne.symm hne) hκ' (.inl hκ) with hp|hp
     ·exact⟨fun _=>yT hB.back hp,fun _=>hbefore j hp⟩
     ·have h1:=yT hB.back hp
      exact⟨fun h=>(by rw[hbehind j hp] at h;cases h),fun h=>by omega⟩
    by_cases hex:∃(j:Nat) (s':Stp),sts[j]?=some s'∧s'.κ=some κ∧j<i
    ·have hmax:∃(j:Nat) (s':Stp),sts[j]?=some s'∧s'.κ=some κ∧j<i∧∀(k:Nat) (s'':Stp),j<k→k<i→sts[k]?=some s''→s''.κ≠some κ:=by
      have:∃m,(m≤i∧1≤m∧∃s':Stp,sts[i- m]?=some s'∧s'.κ=some κ)∧∀m',(m'≤i∧1≤m'∧∃s':Stp,sts[i- m']?=some s'∧s'.κ=some κ)→m≤m':=by
       refine exists_least ?_
       obtain⟨j,s',hj,hκ',hlt⟩:=hex
       exact⟨i- j,O,O,s',by rw[show i- (i- j)=j by omega];exact hj,hκ'⟩
      obtain⟨m,⟨hm1,hm2,s',hm,hκ'⟩,hmn⟩:=this
      refine⟨i- m,s',hm,hκ',O,fun k s'' hk hki hs'' hκ''=> ?_⟩
      have:=hmn (i- k) ⟨O,O,s'',by rw[show i- (i- k)=k by omega];exact hs'',hκ''⟩
      omega
     obtain⟨j,s',hj,hκ',hji,hlast⟩:=hmax
     have hl:=(hw j s' hj hκ' O).2 hji
     rw[g1 j κ s' hl hj hκ' (fun k s'' hk hs'' hκ''=>by
      rcases Nat.lt_or_ge j k with h|h
      ·by_cases e:k=i
       ·subst e;rw[hunf] at hk;cases hk
       ·have:=(hw k s'' hs'' hκ'' e).1 hk
        exact absurd hκ'' (hlast k s'' h this hs'')
      ·exact h)]
     have hjt:(sts.take i)[j]?=some s':=by rw[List.getElem?_take,if_pos hji];exact hj
     exact(xE j s' hjt hκ' (fun k s'' hk hs'' hκ''=>by
      rw[List.getElem?_take] at hs''
      split at hs''
      ·next hki=>exact hlast k s'' hk hki hs'' hκ''
      ·cases hs'')).symm
    ·rw[g2 κ (fun k s'' hk hs'' hκ''=>by
      by_cases e:k=i
      ·subst e;rw[hunf] at hk;cases hk
      ·exact hex ⟨k,s'',hs'',hκ'',(hw k s'' hs'' hκ'' e).1 hk⟩)]
     exact(pO (fun s'' hs'' hκ''=>by
      obtain⟨k,hk⟩:=List.getElem?_of_mem hs''
      rw[List.getElem?_take] at hk
      split at hk
      ·next hki=>exact hex ⟨k,s'',hk,hκ'',hki⟩
      ·cases hk)).symm
   refine EW hoi (fun Q' hQ'=>hstep β Q' E' H' [] hlook hkr (fun b a' w' hs'=>hQ' a' w' ?_) a w hs)
   have hsame:∀(j:Nat) (s':Stp),listed.getD j false=true→sts[j]?=some s'→s'.φ (upd β i b)=s'.φ β∧s'.x (upd β i b)=s'.x β:=fun j s' hj hs'=>by
    obtain⟨oj,hoj,_,hjn⟩:=hdst j s' hs'
    obtain⟨s'',h1,h2⟩:=hps j oj hjn hoj
    rw[hs'] at h1;simp at h1;subst h1
    refine h2.2.1 _ _ (fun k hk=>pV (fun e=> ?_))
    subst e
    rcases hk with rfl|hp
    ·rw[hunf] at hj;cases hj
    ·rw[hbehind j hp] at hj;cases hj
   have hlj:∀j,(listed.setIfInBounds i true).getD j false=true→j=i∨listed.getD j false=true:=fun j hj=>by
    by_cases e:i=j
    ·exact .inl e.symm
    ·rw[getD_set_ne _ e] at hj;exact .inr hj
   refine ih (c+1) (listed.setIfInBounds i true) (upd β i b) _ _ a' w' (by simpa using hsz) O ?_ (fun j o ho hl e he hb=> ?_) (fun j hj hj'=>by rw[getD_set_ne _ O];exact hut j hj hj')
    (fun k d' s' hk hpk hd'=> ?_) (fun x hx=> ?_) (fun k κ s' hk hpk hκ hm=> ?_) (fun κ hκ=> ?_) hs'
   ·rw[Array.toList_setIfInBounds]
    have hfi:listed.toList[i]?=some false:=by
     have h9:i<listed.size:=by omega
     simp[h9] at hunf ⊢;exact hunf
    rw[nQ _ _ hfi,hc]
   ·rcases hlj j hl with e'|hl'
    ·subst e'
     have:o=oi:=Option.some.inj (ho.symm.trans hoi)
     subst this
     exact getD_set_true (hafter e he hb)
    ·exact getD_set_true (hcl j o ho hl' e he hb)
   ·rcases hlj k hk with e'|hl'
    ·subst e'
     rw[hpi] at hpk;simp at hpk;subst hpk
     rw[hd',xD]
    ·have hne:s.d≠some d':=fun e=>by
      have:=huniq i k d' s s' hpi hpk e hd'
      subst this;rw[hunf] at hl';cases hl'
     rw[qG hne,e1 k d' s' hl' hpk hd',(hsame k s' hl' hpk).1]
   ·have hne:s.d≠some x:=hx i s (by simp[hsz,his]) hpi
    rw[qG hne]
    exact e2 x (fun k s' hk hpk=>hx k s' (getD_set_true hk) hpk)
   ·rcases hlj k hk with e'|hl'
    ·subst e'
     rw[hpi] at hpk;simp at hpk;subst hpk
     rw[hκ,wV]
    ·have hne:s.κ≠some κ:=fun e=>by
      have h1:=hm i s (by simp[hsz,his]) hpi e
      have hki:k≠i:=fun e'=>by subst e';rw[hunf] at hl';cases hl'
      rcases hK.ok i k s s' κ hpi hpk (Ne.symm hki) hκ (.inr e) with hp|hp
      ·have:=yT hB.back hp;omega
      ·rw[hbehind k hp] at hl';cases hl'
     rw[oO hne,(hsame k s' hl' hpk).2]
     exact g1 k κ s' hl' hpk hκ (fun j s'' hj hs'' hκ''=>hm j s'' (getD_set_true hj) hs'' hκ'')
   ·have hne:s.κ≠some κ:=hκ i s (by simp[hsz,his]) hpi
    rw[oO hne]
    exact g2 κ (fun k s' hk hpk=>hκ k s' (getD_set_true hk) hpk)
theorem GX {nh:Nat} {ms:List Nat} (h:yS ops nh ms=true):nC ops ms=true:=by
 unfold yS at h
 simp only [Bool.and_eq_true] at h
 exact h.1.1
def kJ (r:Option Nat) (P:Program) (ops:Array Oper) (B:Base) (ms:List Nat) (i:Nat) (E:(Nat→Value)→Env) (H:(Nat→Value)→Hp) (l:List Oper) (ks:List (Option Nat × List Nat)) (K:((Nat→Value)→Env)→((Nat→Value)→Hp)→Prop):Prop:=
 nC ops ms=true→(∀(i:Nat) (o:Oper),ops[i]?=some o→∀e∈o.after,Region.binds .any e=true→e.on<i)→(∀(j:Nat) (o:Oper),l[j]?=some o→i+j<ops.size)→
 ∃sts:List Stp,sts.length=l.length∧(sts.map fun s=>(s.κ,s.kr))=ks∧(∀(j:Nat) (o:Oper),l[j]?=some o→∃s,sts[j]?=some s∧Js r P ops B (i+j) o (fun β=>PE β (E β) (sts.take j)) (fun β=>PH β (H β) (sts.take j)) s)∧K (fun β=>PE β (E β) sts) (fun β=>PH β (H β) sts)
variable {ms:List Nat} {i:Nat} {E:(Nat→Value)→Env} {H:(Nat→Value)→Hp} {l:List Oper} {ks:List (Option Nat × List Nat)} {K:((Nat→Value)→Env)→((Nat→Value)→Hp)→Prop}
theorem pnH (k:K E H):kJ r P ops B ms i E H [] [] K:=fun _ _ _=>⟨[],rfl,rfl,fun j o h=>by simp at h,k⟩
theorem shH {o:Oper} (s:Stp) (h:nC ops ms=true→(∀(i:Nat) (o:Oper),ops[i]?=some o→∀e∈o.after,Region.binds .any e=true→e.on<i)→i<ops.size→Js r P ops B i o E H s)
 (k:kJ r P ops B ms (i+1) (fun β=>mR s.d (s.φ β) (E β)) (fun β=>mS s.κ (s.x β) (H β)) l ks K):kJ r P ops B ms i E H (o::l) ((s.κ,s.kr)::ks) K:=fun hm hb hl=>by
 obtain⟨sts,h1,h2,h3,h4⟩:=k hm hb (fun j o hj=>by have:=hl (j+1) o (by simpa using hj);omega)
 refine⟨s::sts,by simp[h1],by simp[h2],fun j o' hj=> ?_,h4⟩
 cases j with
 |zero=>simp at hj;subst hj;exact⟨s,rfl,h hm hb (by have:=hl 0 o rfl;simpa using this)⟩
 |succ j=>
  obtain⟨s',h5,h6⟩:=h3 j o' (by simpa using hj)
  refine⟨s',by simpa using h5,?_⟩
  rw[show i+(j+1)=i+1+j by omega]
  exact h6
theorem Bh (hm:nC ops ms=true) (hb:∀(i:Nat) (o:Oper),ops[i]?=some o→∀e∈o.after,Region.binds .any e=true→e.on<i) (hi:i<ops.size) {β β':Nat→Value} (h:∀j,j=i∨nO ops i j→β j=β' j):∀j,Nat.testBit (ms.getD i 0) j=true→β j=β' j:=
 fun j hj=>h j (.inr (nP hm hb i hi j hj))
theorem yU (hb:∀(i:Nat) (o:Oper),ops[i]?=some o→∀e∈o.after,Region.binds .any e=true→e.on<i) (hm:nC ops ms=true) (hi:i<ops.size) {j:Nat} (hj:Nat.testBit (ms.getD i 0) j=true):j≠i:=fun e=>by
 have:=yT hb (nP hm hb i hi j hj)
 omega
theorem stv {o:Oper} {d:Nat} (φ:(Nat→Value)→AV) (kr:List Nat) (hd:o.dst=some d) (hdep:∀β β':Nat→Value,(∀j,Nat.testBit (ms.getD i 0) j=true→β j=β' j)→φ β=φ β')
 (h:∀(β:Nat→Value) (Q:Exit→Act→World→Prop) (E':Env) (H':Hp) (rest:List Oper),Agr E' (E β) (o.looksAt ops)→zY H' (H β) kr→St r P ops Q B ((d,φ β)::E') H' rest→St r P ops Q B E' H' (o::rest))
 (k:kJ r P ops B ms (i+1) (fun β=>(d,φ β)::E β) H l ks K):kJ r P ops B ms i E H (o::l) ((none,kr)::ks) K:=
 shH ⟨some d,φ,none,fun _=>emp,kr⟩ (fun hm hb hi=>⟨hd,fun β β' hj=>⟨hdep β β' (Bh hm hb hi hj),rfl⟩,fun β Q E' H' rest hl hk kk=>h β Q E' H' rest (kT hl) (rD hk) (by
  have:=kk (β i)
  have e:φ (upd β i (β i))=φ β:=hdep _ _ (fun j hj=>pV (yU hb hm hi hj))
  simp only [mR,mS] at this
  rw[e] at this
  exact this)⟩) k
theorem stw {o:Oper} (key:Nat) (x:(Nat→Value)→HA) (kr:List Nat) (hd:o.dst=none) (hdep:∀β β':Nat→Value,(∀j,Nat.testBit (ms.getD i 0) j=true→β j=β' j)→x β=x β')
 (h:∀(β:Nat→Value) (Q:Exit→Act→World→Prop) (E':Env) (H':Hp) (rest:List Oper),Agr E' (E β) (o.looksAt ops)→zY H' (H β) kr→St r P ops Q B E' ((key,x β)::H') rest→St r P ops Q B E' H' (o::rest))
 (k:kJ r P ops B ms (i+1) E (fun β=>(key,x β)::H β) l ks K):kJ r P ops B ms i E H (o::l) ((some key,kr)::ks) K:=
 shH ⟨none,fun _=>any,some key,x,kr⟩ (fun hm hb hi=>⟨hd,fun β β' hj=>⟨rfl,hdep β β' (Bh hm hb hi hj)⟩,fun β Q E' H' rest hl hk kk=>h β Q E' H' rest (kT hl) (rD hk) (by
  have:=kk (β i)
  have e:x (upd β i (β i))=x β:=hdep _ _ (fun j hj=>pV (yU hb hm hi hj))
  simp only [mR,mS] at this
  rw[e] at this
  exact this)⟩) k
theorem stb {o:Oper} {d:Nat} (key:Nat) (φ:(Nat→Value)→AV) (x:(Nat→Value)→HA) (kr:List Nat) (hd:o.dst=some d) (hdφ:∀β β':Nat→Value,(∀j,Nat.testBit (ms.getD i 0) j=true→β j=β' j)→φ β=φ β') (hdx:∀β β':Nat→Value,(∀j,Nat.testBit (ms.getD i 0) j=true→β j=β' j)→x β=x β')
 (h:∀(β:Nat→Value) (Q:Exit→Act→World→Prop) (E':Env) (H':Hp) (rest:List Oper),Agr E' (E β) (o.looksAt ops)→zY H' (H β) kr→St r P ops Q B ((d,φ β)::E') ((key,x β)::H') rest→St r P ops Q B E' H' (o::rest))
 (k:kJ r P ops B ms (i+1) (fun β=>(d,φ β)::E β) (fun β=>(key,x β)::H β) l ks K):kJ r P ops B ms i E H (o::l) ((some key,kr)::ks) K:=
 shH ⟨some d,φ,some key,x,kr⟩ (fun hm hb hi=>⟨hd,fun β β' hj=>⟨hdφ β β' (Bh hm hb hi hj),hdx β β' (Bh hm hb hi hj)⟩,fun β Q E' H' rest hl hk kk=>h β Q E' H' rest (kT hl) (rD hk) (by
  have:=kk (β i)
  have e:x (upd β i (β i))=x β:=hdx _ _ (fun j hj=>pV (yU hb hm hi hj))
  have e':φ (upd β i (β i))=φ β:=hdφ _ _ (fun j hj=>pV (yU hb hm hi hj))
  simp only [mR,mS] at this
  rw[e,e'] at this
  exact this)⟩) k
theorem sta {T d ty:Nat} {pos:String} {af:Array Edge} {z:List Value} {zs:List AV} (key:Nat) (hz:eR P T z) (hx:pN zs z)
 (k:kJ r P ops B ms (i+1) (fun β=>(d,ptr key (gbk (β i)) 0)::E β) (fun β=>(key,cell (gbk (β i)) zs)::H β) l ks K) (hn:Nat.blt d B.nt=true:=by rfl):
 kJ r P ops B ms i E H ({ dst:=some d,op:= .alloc T,type:=ty,pos:=pos,after:=af,guard:=none }::l) ((some key,[])::ks) K:=
 shH ⟨some d,fun β=>ptr key (gbk (β i)) 0,some key,fun β=>cell (gbk (β i)) zs,[]⟩ (fun hm hb hi=>⟨rfl,fun β β' hj=>by
  have e:=hj i (.inl rfl)
  simp only [e,and_self],fun β Q E' H' rest _ _ kk=>al (key:=key) hz hx (fun b=>by
  have:=kk (.int .i64 (b:Int))
  have e:upd β i (.int .i64 (b:Int)) i= .int .i64 (b:Int):=by simp[upd]
  have e':gbk (.int .i64 (b:Int))=b:=by simp[gbk]
  simp only [mR,mS,e,e'] at this
  exact this) hn⟩) k
theorem stm {α:Type} {T d ty e n by_ m:Nat} {pos:String} {af:Array Edge} {z:List Value} {enc:α→List AV} {y:α} {lo co:Operand} (key:Nat) (hT:eM P T e n by_ z) (hy:pN (enc y) z) (hb:m*by_≤aT) (hm:m≤aT)
 (h:∀(β:Nat→Value) (E':Env),Agr E' (E β) (({ dst:=some d,op:= .makeSlice T lo co,type:=ty,pos:=pos,after:=af,guard:=none }:Oper).looksAt ops)→lkO lo E'=int (m:Int)∧lkO co E'=int (m:Int))
 (k:kJ r P ops B ms (i+1) (fun β=>(d,osl key (.slice (some ⟨gbk (β i),0,none⟩) m m))::E β) (fun β=>(key,own (.slice (some ⟨gbk (β i),0,none⟩) m m) e n enc (List.replicate m y))::H β) l ks K) (hn:Nat.blt d B.nt=true:=by rfl):
 kJ r P ops B ms i E H ({ dst:=some d,op:= .makeSlice T lo co,type:=ty,pos:=pos,after:=af,guard:=none }::l) ((some key,[])::ks) K:=
 shH ⟨some d,fun β=>osl key (.slice (some ⟨gbk (β i),0,none⟩) m m),some key,fun β=>own (.slice (some ⟨gbk (β i),0,none⟩) m m) e n enc (List.replicate m y),[]⟩ (fun hmm hbb hi=>⟨rfl,fun β β' hj=>by
  have e:=hj i (.inl rfl)
  simp only [e,and_self],fun β Q E' H' rest hl _ kk=>mkB (key:=key) (h β E' (kT hl)).1 (h β E' (kT hl)).2 hT hy hb hm (fun b=>by
  have:=kk (.int .i64 (b:Int))
  have e:upd β i (.int .i64 (b:Int)) i= .int .i64 (b:Int):=by simp[upd]
  have e':gbk (.int .i64 (b:Int))=b:=by simp[gbk]
  simp only [mR,mS,e,e'] at this
  exact this) hn⟩) k
theorem stc {α:Type} {o:Oper} {d e n:Nat} {enc:α→List AV} {xs:List α} (key:Nat) (kr:List Nat) (hd:o.dst=some d)
 (h:∀(β:Nat→Value) (Q:Exit→Act→World→Prop) (E':Env) (H':Hp) (rest:List Oper),Agr E' (E β) (o.looksAt ops)→zY H' (H β) kr→(∀v,St r P ops Q B ((d,osl key v)::E') ((key,own v e n enc xs)::H') rest)→St r P ops Q B E' H' (o::rest))
 (k:kJ r P ops B ms (i+1) (fun β=>(d,osl key (sv (β i)))::E β) (fun β=>(key,own (sv (β i)) e n enc xs)::H β) l ks K):kJ r P ops B ms i E H (o::l) ((some key,kr)::ks) K:=
 shH ⟨some d,fun β=>osl key (sv (β i)),some key,fun β=>own (sv (β i)) e n enc xs,kr⟩ (fun hm hb hi=>⟨hd,fun β β' hj=>by
  have e:=hj i (.inl rfl)
  simp only [e,and_self],fun β Q E' H' rest hl hk kk=>h β Q E' H' rest (kT hl) (rD hk) (fun v=>by
  have:=kk v
  have e:upd β i v i=v:=by simp[upd]
  simp only [mR,mS,e] at this
  intro a w hs
  obtain⟨F,Ds,hs'⟩:=hs
  have hp:=hs'.hp key
  rw[bG] at hp
  have hv:=Jp hp
  rw[hv] at this
  exact this a w ⟨F,Ds,hs'⟩)⟩) k
theorem drH {id nh:Nat} {E:Env} {H:Hp} (ms:List Nat) (ks:List (Option Nat × List Nat)) {l:List Oper} (hm:P.follows .mixedOrders=true) (hB:yS l.toArray nh ms=true) (hk:QP nh ms ks=true)
 (hpt:kJ r P l.toArray B ms 0 (fun _=>E) (fun _=>H) (l.take nh) ks (fun Ef Hf=> ∀β,St r P l.toArray Q B (Ef β) (Hf β) (l.drop nh))):Ct r P Q B E H (.region id l.toArray true):=fun a w hs=>by
 have hok:=Dj hB
 have hmo:=GX hB
 have hnl:nh≤l.length:=by simpa using hok.le
 obtain⟨sts,h1,h2,h3,h4⟩:=hpt hmo hok.back (fun j o hj=>by
  have:=(List.getElem?_eq_some_iff.1 hj).1
  simp at this ⊢;omega)
 have hlen:sts.length=nh:=by rw[h1];simp;omega
 have hK:=KM (sts:=sts) hmo hok hlen (by rw[h2];exact hk)
 refine wpIn_region_any hm ?_
 refine KN hok hlen hK (fun i o hi ho=>by
  obtain⟨s,g1,g2⟩:=h3 i o (by rw[List.getElem?_take,if_pos hi];simpa using ho)
  rw[Nat.zero_add] at g2
  exact⟨s,g1,g2⟩) (by simpa using h4) l.toArray.size 0 _ (fun _=>Value.int .i64 0) E H a _ (by simp) (by simp) ?_ (fun j o ho hl=> ?_) (fun j hj hj'=> ?_) (fun i d s hl=> ?_) (fun x _=>rfl) (fun i κ s hl=> ?_) (fun κ _=>rfl) (hs.drew _)
 ·simp[List.countP_replicate]
 ·rw[fK] at hl;cases hl
 ·simp at hj';simp[hj']
 ·rw[fK] at hl;cases hl
 ·rw[fK] at hl;cases hl
end
end AL
set_option linter.unusedVariables false
namespace AL
open Go
attribute [local semireducible] emp osl
def both (φ ψ:AV):AV:=⟨fun w F v=>φ.p w F v∧ψ.p w F v,fun hF hw h=>⟨φ.st hF hw h.1,ψ.st hF hw h.2⟩⟩
class Amb (ψ:AV):Prop where
 amb:∀{w F v} (u:Value),ψ.p w F v→ψ.p w F u
section
variable {P:Program} {r:Option Nat} {ops:Array Oper} {Q:Exit→Act→World→Prop} {rest:List Oper} {B:Base} {E:Env} {H:Hp} {ψ:AV} [hA:Amb ψ]
theorem Sim.tbI {a:Act} {w:World} {φ:AV} (h:Sim B E H a w) (t t':Nat) (hx:lk t E=both φ ψ):Sim B ((t,φ)::(t',ψ)::E) H a w:=by
 obtain⟨F,Ds,hs⟩:=h
 have h1:=hs.env t
 rw[hx] at h1
 refine⟨F,Ds,{ hs with env:=fun s=> ?_ }⟩
 by_cases e:t=s
 ·subst e;rw[dC];exact h1.1
 ·rw[cC _ _ e]
  by_cases e':t'=s
  ·subst e';rw[dC];exact hA.amb _ h1.2
  ·rw[cC _ _ e'];exact hs.env s
theorem Sim.tbU {a:Act} {w:World} {φ:AV} (h:Sim B E H a w) (t t':Nat) (hx:lk t E=φ) (ht:lk t' E=ψ):Sim B ((t,both φ ψ)::E) H a w:=by
 obtain⟨F,Ds,hs⟩:=h
 have h1:=hs.env t
 have h2:=hs.env t'
 rw[hx] at h1
 rw[ht] at h2
 refine⟨F,Ds,{ hs with env:=fun s=> ?_ }⟩
 by_cases e:t=s
 ·subst e;rw[dC];exact⟨h1,hA.amb _ h2⟩
 ·rw[cC _ _ e];exact hs.env s
theorem tbI {φ:AV} {c:Code} (t t':Nat) (hx:lk t E=both φ ψ) (k:Ct r P Q B ((t,φ)::(t',ψ)::E) H c):Ct r P Q B E H c:=fun a w hs=>k a w (hs.tbI t t' hx)
theorem tbU {φ:AV} (t t':Nat) (hx:lk t E=φ) (ht:lk t' E=ψ) (k:St r P ops Q B ((t,both φ ψ)::E) H rest):St r P ops Q B E H rest:=fun a w hs=>k a w (hs.tbU t t' hx ht)
end
def eB (ψ:AV):HA:=⟨fun _=>False,fun w F=>ψ.p w F undef,fun hF hw h=>ψ.st hF (fun b hb=>hw b (.inl hb)) h⟩
section
variable {P:Program} {r:Option Nat} {ops:Array Oper} {Q:Exit→Act→World→Prop} {rest:List Oper} {B:Base} {E:Env} {H:Hp} {ψ:AV} [hA:Amb ψ]
variable {d ty:Nat} {pos:String} {af:Array Edge}
theorem tbH {c:Code} (t key:Nat) (hk:lkH key H=eB ψ) (k:Ct r P Q B ((t,ψ)::E) H c):Ct r P Q B E H c:=fun a w ⟨F,Ds,hs⟩=>by
 have h1:=hs.hp key
 rw[hk] at h1
 refine k a w ⟨F,Ds,{ hs with env:=fun s=> ?_ }⟩
 by_cases e:t=s
 ·subst e;rw[dC];exact hA.amb _ h1
 ·rw[cC _ _ e];exact hs.env s
theorem NG {f:FuncId} {xs:List Operand} {φs:List AV} {φ:AV} {ts:Array TypeId} (hx:OpdsIs E xs φs) (hf:Fn P f φs [(998,eB ψ)] (ι:=Unit) (fun _ _=>φ) (fun _=> [])) (he:Ent P f) (t:Nat) (ht:lk t E=ψ) (hk:lkH 998 H=emp)
 (k:St r P ops Q B ((d,φ)::E) H rest) (hn:Nat.blt d B.nt=true:=by rfl):
 St r P ops Q B E H ({ dst:=some d,op:= .call { callee:= .value (.func f),args:=xs.toArray,argTypes:=ts },type:=ty,pos:=pos,after:=af,guard:=none }::rest):=fun a w hs=>by
 obtain⟨F,Ds,hs⟩:=hs
 have h1:=hs.env t
 rw[ht] at h1
 have hs2:Sim B E ((998,eB ψ)::H) a w:=⟨F,Ds,hs.upd 998 (eB ψ) (Nat.le_refl _) rfl rfl rfl (fun _ _ _=>rfl) (fun b hb=>hb.elim) (hA.amb _ h1)⟩
 refine cal (Hi:= [(998,eB ψ)]) hx hf he ⟨by rw[bG];exact rI,tV⟩ (fun N _=> ?_) hn a w hs2
 intro a w hs3
 refine k a w (hs3.less (fun _ _ _ _ h=>h) (fun j=> ?_))
 show(∀b,(lkH j H).foot b→_)∧_
 by_cases e:998=j
 ·subst e;rw[hk];exact⟨fun b h=>h.elim,fun _=>trivial⟩
 ·have:lkH j (mO [] [(998,eB ψ)] ((998,eB ψ)::H))=lkH j H:=by
   show lkH j ((998,emp)::(998,eB ψ)::H)=_
   rw[bI _ _ e,bI _ _ e]
  rw[this];exact⟨fun _ h=>h,fun h=>h⟩
end
instance (φ ψ:AV) [h:One φ]:One (both φ ψ):=⟨fun hp=>h.one hp.1⟩
end AL
set_option linter.unusedVariables false
namespace AL
open Go
attribute [local semireducible] any eqv agg tup fp ptr sl eQ emp cell own obj osl dP clo pf mp mpv
section
variable {P:Program} {r:Option Nat} {ops:Array Oper} {Q:Exit→Act→World→Prop} {rest:List Oper} {B:Base} {E:Env} {H:Hp} {a:Act} {w:World}
variable {d ty:Nat} {pos:String} {af:Array Edge}
theorem kd {φ φ':AV} (h:∀{w F v},φ.p w F v→φ'.p w F v) (k:St r P ops Q B ((d,φ')::E) H rest):St r P ops Q B ((d,φ)::E) H rest:=fun a w hs=>k a w (hs.less (fun t _ _ _ hv=>by
 by_cases e:d=t
 ·subst e;rw[dC] at hv ⊢;exact h hv
 ·rw[cC _ _ e] at hv ⊢;exact hv) (fun t=>⟨fun _ h=>h,fun h=>h⟩))
theorem Xf {f:FuncId} {cs:List AV} {x:Operand} {xs:List Operand} {φs:List AV} {φ:AV} {ts:Array TypeId} (hc:lkO x E=clo f cs) (hx:OpdsIs E xs φs) (hf:Fn0 P f (φs++cs) φ) (he:Ent P f)
 (k:St r P ops Q B ((d,φ)::E) H rest) (hn:Nat.blt d B.nt=true:=by rfl):
 St r P ops Q B E H ({ dst:=some d,op:= .call { callee:= .value x,args:=xs.toArray,argTypes:=ts },type:=ty,pos:=pos,after:=af,guard:=none }::rest):=
 QO (Hi:= []) (ι:=Unit) (res:=fun _ _=>φ) (Ho:=fun _=> []) hc (by rw[hx.eq];exact hf) he trivial (fun _ _=>k) hn
theorem svI {α:Type} (key:Nat) {v:Value} {e n:Nat} {enc:α→List AV} {xs:List α} (hk:lkH key H=own v e n enc xs):∀a w,Sim B E H a w→sv v=v:=fun a w ⟨F,Ds,hs⟩=>by
 have:=hs.hp key
 rw[hk] at this
 exact Jp this
end
end AL
set_option linter.unusedVariables false
namespace AL
open Go
attribute [local semireducible] any eqv agg tup fp ptr sl eQ emp cell own obj osl dP clo pf mp mpv
def wr (w:World) (b:Nat):Prop:=∃c ty,w.heap[b]?=some (.cells c ty (0,0))
theorem Xg {w w':World} {b:Nat} (h:w'.heap[b]?=w.heap[b]?) (hw:wr w b):wr w' b:=by
 obtain⟨c,ty,hc⟩:=hw
 exact⟨c,ty,h.trans hc⟩
def Jt (N:Nat) (w:World) (F:Fz):Fz:=fun b=>F b∧N≤b∧wr w b
def fre (N:Nat) (φ:AV):AV:=⟨fun w F v=>φ.p w (Jt N w F) v,fun hF hw h=>φ.st (fun b hb=>⟨hF b hb.1,hb.2.1,Xg (hw b hb.1) hb.2.2⟩) (fun b hb=>hw b hb.1) h⟩
theorem iY {N:Nat} {φ:AV} {w:World} {F:Fz} {v:Value} (h:(fre N φ).p w F v):φ.p w F v:=φ.st (fun b hb=>hb.1) (fun _ _=>rfl) h
theorem jN {N N':Nat} (hN:N≤N') {φ:AV} {w:World} {F:Fz} {v:Value} (h:(fre N' φ).p w F v):(fre N φ).p w F v:=φ.st (fun b hb=>⟨hb.1,Nat.le_trans hN hb.2.1,hb.2.2⟩) (fun _ _=>rfl) h
theorem HO {N:Nat} {w:World} {F:Fz}:∀{cs:List AV} {vs:List Value},All2 w F (cs.map (fre N)) vs↔All2 w (Jt N w F) cs vs
 | [],[]=>Iff.rfl
 |c::cs,v::vs=>by
  show(_∧_)↔(_∧_)
  rw[HO];exact Iff.rfl
 | [],_::_=>Iff.rfl
 |_::_,[]=>Iff.rfl
instance (N:Nat) (φ:AV) [h:One φ]:One (fre N φ):=⟨fun {w F v} hv=>h.one (w:=w) (F:=Jt N w F) hv⟩
class FlatE {α:Type} (enc:α→List AV):Prop where
 flat:∀(N:Nat) (x:α),enc x=(enc x).map (fre N)
theorem flat {α:Type} {enc:α→List AV} [h:FlatE enc] {N:Nat}:∀x,enc x=(enc x).map (fre N):=h.flat N
theorem Ju {α:Type} {f:α→Value}:FlatE (fun x=> [eqv (f x)]):=⟨fun _ _=>rfl⟩
theorem Xh {α:Type} {f g:α→Value}:FlatE (fun x=> [eqv (f x),eqv (g x)]):=⟨fun _ _=>rfl⟩
theorem mB {α:Type} {N n:Nat} {enc:α→List AV} {w:World} {F:Fz} {v:Value} (h:(eqv (.slice none 0 0)).p w F v):(fre N (sl n enc [])).p w F v:=slnil (w:=w) (F:=Jt N w F) h
def frb (c:Bool) (N:Nat) (φ:AV):AV:=cond c (fre N φ) φ
theorem Xi {c:Bool} (h:c=true) {N:Nat} {φ:AV} {w:World} {F:Fz} {v:Value} (hv:(fre N φ).p w F v):(frb c N φ).p w F v:=by subst h;exact hv
theorem Xj {c:Bool} (h:c=false) {N:Nat} {φ:AV} {w:World} {F:Fz} {v:Value} (hv:φ.p w F v):(frb c N φ).p w F v:=by subst h;exact hv
theorem EY {c:Bool} {N:Nat} {φ:AV} {w:World} {F:Fz} {v:Value} (hv:(frb c N φ).p w F v):φ.p w F v:=by
 cases c with
 |true=>exact iY hv
 |false=>exact hv
instance (c:Bool) (N:Nat) (φ:AV) [h:One φ]:One (frb c N φ):=⟨fun hv=>h.one (EY hv)⟩
theorem Cq {α:Type} {w:World} {F:Fz} {N:Nat} {v:Value} {et n:Nat} {enc enc':α→List AV} {xs:List α} (h:(own v et n enc' xs).p w F) (he:∀x,enc' x=(enc x).map (fre N)) (hb:∀b,ownB v b→N≤b):(fre N (sl n enc xs)).p w (fun b=>F b∨ownB v b) v:=by
 obtain⟨hm,vs,h,hel⟩:=h
 rcases h.2 with⟨hv,hx⟩|⟨b,cap,cur,hv,h0,hc,hcap,hmx,hsz,htake⟩
 ·exact⟨none,0,by simp[hv,hx],O,hm,fun hne=>absurd (List.eq_nil_of_length_eq_zero hx) hne⟩
 ·refine⟨some ⟨b,0,none⟩,cap,hv,hcap,hm,fun _=>⟨b,0,vs,rfl,⟨.inr (by subst hv;rfl),hb b (by subst hv;rfl),cur,et,hc⟩,⟨cur,et,(0,0),hc,fun j u hj=> ?_⟩,⟨hel.len,fun i x hi=> ?_⟩⟩⟩
  ·rw[←htake,List.getElem?_take] at hj
   split at hj
   ·simpa using hj
   ·simp at hj
  ·have h2:=hel.el i x hi
   rw[he x] at h2
   exact(HO.1 h2).st (fun b hb=>⟨.inl hb.1,hb.2⟩) (fun _ _=>rfl)
section
variable {P:Program} {r:Option Nat} {ops:Array Oper} {Q:Exit→Act→World→Prop} {rest:List Oper} {B:Base} {E:Env} {H:Hp} {a:Act} {w:World}
variable {d ty:Nat} {pos:String} {af:Array Edge} {ι:Type}
theorem Sim.freezeN {α:Type} {v:Value} {et n:Nat} {enc enc':α→List AV} {xs:List α} (h:Sim B E H a w) (key t:Nat) (hM:∀b,¬B.M b) (he:∀x,enc' x=(enc x).map (fre B.N)) (hk:lkH key H=own v et n enc' xs) (ht:lk t E=osl key v):
 Sim B ((t,fre B.N (sl n enc xs))::E) ((key,emp)::H) a w:=by
 obtain⟨F,Ds,h⟩:=h
 refine⟨_,Ds,{ h.freeze key with env:=fun s=> ?_ }⟩
 by_cases e:t=s
 ·subst e
  rw[dC]
  have h1:=h.env t
  rw[ht] at h1
  have h1:a.tmps.getD t undef=v:=h1
  rw[h1]
  have h2:=h.hp key
  rw[hk] at h2 ⊢
  exact Cq h2 he (fun b hb=>((h.hN key b (by rw[hk];exact hb)).2).elim id (fun hm=>absurd hm (hM b)))
 ·rw[cC _ _ e]
  exact(h.freeze key).env s
theorem Sim.freezeCN {α:Type} {v:Value} {et n b o:Nat} {cs:List AV} {enc enc':α→List AV} {xs:List α} (h:Sim B E H a w) (kc key:Nat) (hM:∀b,¬B.M b) (he:∀x,enc' x=(enc x).map (fre B.N)) (hc:lkH kc H=cell b cs) (hk:lkH key H=own v et n enc' xs) (ho:cs[o]?=some (osl key v)) (hne:kc≠key):
 Sim B E ((kc,cell b (cs.set o (fre B.N (sl n enc xs))))::(key,emp)::H) a w:=by
 obtain⟨F,Ds,h⟩:=h
 have h0:=h.freeze key
 have hl:lkH kc ((key,emp)::H)=cell b cs:=by rw[bI _ _ (Ne.symm hne)];exact hc
 refine⟨_,Ds,h0.upd kc _ (Nat.le_refl _) rfl rfl rfl (fun _ _ _=>rfl) (fun x hx=>⟨.inl (by rw[hl];exact hx),(h0.hN kc x (by rw[hl];exact hx)).1⟩) ?_⟩
 have h1:=h0.hp kc
 rw[hl] at h1
 obtain⟨vs,t,hvs,ha⟩:=h1
 obtain⟨u,hu,hp⟩:=ha.get ho
 have hu':u=v:=hp
 subst hu'
 refine⟨vs,t,hvs,?_⟩
 have h2:=h.hp key
 rw[hk] at h2
 have h3:=Cq h2 he (fun b hb=>((h.hN key b (by rw[hk];exact hb)).2).elim id (fun hm=>absurd hm (hM b)))
 have h4:=ha.set o (v:=u) (φ:=fre B.N (sl n enc xs)) (by rw[hk];exact h3)
 have e:vs.set o u=vs:=by
  apply List.ext_getElem?
  intro j
  by_cases e:o=j
  ·subst e;rw[List.getElem?_set_self (List.getElem?_eq_some_iff.1 hu).1,hu]
  ·rw[List.getElem?_set_ne e]
 rw[e] at h4;exact h4
theorem noM (b:Nat):¬fQ [] b:=fun⟨_,h⟩=>h
theorem fzN {α:Type} {v:Value} {et n:Nat} {enc':α→List AV} {xs:List α} (enc:α→List AV) (key t:Nat) (hM:∀b,¬B.M b) (he:∀x,enc' x=(enc x).map (fre B.N)) (hk:lkH key H=own v et n enc' xs) (ht:lk t E=osl key v)
 (k:St r P ops Q B ((t,fre B.N (sl n enc xs))::E) ((key,emp)::H) rest):St r P ops Q B E H rest:=fun a w hs=>k a w (hs.freezeN key t hM he hk ht)
theorem Yo {α:Type} {x:Exit} {v:Value} {et n:Nat} {enc':α→List AV} {xs:List α} (enc:α→List AV) (key t:Nat) (hM:∀b,¬B.M b) (he:∀x,enc' x=(enc x).map (fre B.N)) (hk:lkH key H=own v et n enc' xs) (ht:lk t E=osl key v)
 (k:At Q x B ((t,fre B.N (sl n enc xs))::E) ((key,emp)::H)):At Q x B E H:=fun a w hs=>k a w (hs.freezeN key t hM he hk ht)
theorem NH {α:Type} {v:Value} {et n b:Nat} {cs:List AV} {enc':α→List AV} {xs:List α} (enc:α→List AV) (kc key o:Nat) (hM:∀b,¬B.M b) (he:∀x,enc' x=(enc x).map (fre B.N)) (hc:lkH kc H=cell b cs) (hk:lkH key H=own v et n enc' xs) (ho:cs[o]?=some (osl key v)) (hne:kc≠key)
 (k:St r P ops Q B E ((kc,cell b (cs.set o (fre B.N (sl n enc xs))))::(key,emp)::H) rest):St r P ops Q B E H rest:=fun a w hs=>k a w (hs.freezeCN kc key hM he hc hk ho hne)
theorem UI {f:FuncId} {xs:List Operand} {φs:List AV} {Hi:Hp} {res:Nat→ι→AV} {Ho:ι→Hp} {ts:Array TypeId} (hx:OpdsIs E xs φs) (hf:Fn P f φs Hi res Ho) (he:Ent P f) (hHi:SubH Hi H)
 (k:∀N i,B.N≤N→St r P ops Q B ((d,res N i)::E) (mO (Ho i) Hi H) rest) (hn:Nat.blt d B.nt=true:=by rfl):
 St r P ops Q B E H ({ dst:=some d,op:= .call { callee:= .value (.func f),args:=xs.toArray,argTypes:=ts },type:=ty,pos:=pos,after:=af,guard:=none }::rest):=fun a w h=>by
 obtain⟨F,Ds,hs⟩:=h
 have hNs:=hs.Ns
 have hf:Fn P f (opds xs E) Hi res Ho:=by rw[hx.eq];exact hf
 have hH:HpOk Hi w F:=⟨fun k=>(hHi.lk k).2 (hs.hp k),fun k b hb=>hs.hF k b ((hHi.lk k).1 b hb),fun k k' b e hb hb'=>hs.hd k k' b e ((hHi.lk k).1 b hb) ((hHi.lk k').1 b hb'),fun k b hb=>(hs.hN k b ((hHi.lk k).1 b hb)).1⟩
 refine zT (f:=f) (args:=(xs.map a.eval).toArray) rfl (fun _=>nofun) ?_ (hf w F _ (hs.opds xs) (fun b hb=>(hs.Fb b hb).1) hH) (fun e w' hR=> ?_)
 ·simp[execOp,resolve,Act.eval,Deferred.ofValue,invoke,he.run]
 ·obtain⟨i,v,F',rfl,hl⟩:=hR
  exact⟨v,rfl,k w.heap.size i hNs _ _ ⟨F',Ds,(hs.called hHi hl).put (by simpa using hn) hl.res⟩⟩
theorem kK {f:FuncId} {xs:List Operand} {φs:List AV} {res:Nat→Unit→AV} {φ:AV} {ts:Array TypeId} (hx:OpdsIs E xs φs) (hf:Fn P f φs [] res (fun _=> [])) (he:Ent P f)
 (hr:∀N,B.N≤N→∀{w F v},(res N ()).p w F v→φ.p w F v) (k:St r P ops Q B ((d,φ)::E) H rest) (hn:Nat.blt d B.nt=true:=by rfl):
 St r P ops Q B E H ({ dst:=some d,op:= .call { callee:= .value (.func f),args:=xs.toArray,argTypes:=ts },type:=ty,pos:=pos,after:=af,guard:=none }::rest):=
 UI hx hf he trivial (fun N _ hN=>kd (fun h=>hr N hN h) k) hn
theorem uQ {α:Type} {T e n by_:Nat} {z:List Value} {enc:α→List AV} {ys:List α} {s x:Operand} (hs:lkO s E=eqv (.slice none 0 0))
 (hx:lkO x E=sl n enc ys) (hT:eM P T e n by_ z) [h1:∀y,OneAll (enc y)] (hby:ys.length*by_≤aT) (hfl:∀y,enc y=(enc y).map (fre B.N))
 (k:St r P ops Q B ((d,fre B.N (sl n enc ys))::E) H rest) (hn:Nat.blt d B.nt=true:=by rfl):
 St r P ops Q B E H ({ dst:=some d,op:= .call { callee:= .builtin .append,args:= #[s,x],argTypes:= #[T,T] },type:=ty,pos:=pos,after:=af,guard:=none }::rest):=fun a w h=>
 hU (ι:=Unit) (E':=fun _=>(d,fre B.N (sl n enc ys))::E) (H':=fun _=>H) h rfl (fun _=>nofun) (fun F Ds hS=>by
  have hv1:=hS.opd s
  rw[hs] at hv1
  have hv1:a.eval s= .slice none 0 0:=hv1
  have hv2:=hS.opd x
  rw[hx] at hv2
  obtain⟨A,cap,hv2,hcap,hm,hA⟩:=hv2
  have hown:w.ownsRow 0 e n (.slice none 0 0) 0 []:=⟨by simp,.inl ⟨rfl,rfl⟩⟩
  by_cases hy:ys= []
  ·subst hy
   refine⟨.slice none 0 0,w,?_,(),F,Ds,hS.put (by simpa using hn) ⟨none,0,rfl,Nat.le_refl _,hm,fun h=>absurd rfl h⟩⟩
   have:=tZ (P:=P) (ty:=ty) hT hown A cap
   simp only [execOp,resolve,Sem.run_bind,Sem.run_pure,Result.andThen_ok,invoke,builtin,List.map_toArray,List.map_cons,List.map_nil,hv1,hv2,List.length_nil,this]
  ·obtain⟨b,off,us,rfl,hb,hr,hu⟩:=hA hy
   have hone:∀u∈us,u.oneCell'=true:=fun u hu'=>by
    obtain⟨t,ht⟩:=List.getElem?_of_mem hu'
    have hlu:=hu.len
    have htl:t<us.length:=(List.getElem?_eq_some_iff.1 ht).1
    have hn0:=hT.pos
    have hq:t/n<ys.length:=by rw[Nat.div_lt_iff_lt_mul hn0,←hlu];exact htl
    have he:=hu.el (t/n) ys[t/n] (by simp[hq])
    refine(h1 _).all he u ?_
    refine List.mem_of_getElem? (i:=t % n) ?_
    rw[List.getElem?_take,if_pos (Nat.mod_lt _ hn0),List.getElem?_drop,Nat.mul_comm,Nat.div_add_mod]
    exact ht
   obtain⟨v',w',hrun,hown',hg,hfr⟩:=vM (P:=P) (ty:=ty) (c:=cap) hT hown (ad:=⟨b,off,none⟩) (m:=ys.length) hu.len (fun j u hj=>by rw[iT];exact hr.cell hj) hone O (by simpa using hby)
   have hold:∀b,b<w.heap.size→w'.heap[b]?=w.heap[b]?:=fun b hb=>hg.block b hb (by simp[Value.ownBlock])
   have hnew:∀b,ownB v' b→w.heap.size≤b∧b<w'.heap.size:=fun b hb=>⟨(hfr b hb).elim (fun h=>h.elim) id,lK hown' hb⟩
   have hS':=hS.grow (w':=w') (F':=fun b=>F b∨ownB v' b) hg.size hg.os hg.tape hg.output hold (fun _ h=> .inl h) (fun b hb=>hb.imp id (hnew b))
   have hp:(own v' e n enc ys).p w' F:=⟨hm,us,by simpa using hown',hu.st (fun _ h=>h) (fun b hb=>hold b (hS.Fb b hb).1)⟩
   refine⟨v',w',?_,(),_,Ds,hS'.put (by simpa using hn) (Cq hp hfl (fun b hb=>Nat.le_trans hS.Ns (hnew b hb).1))⟩
   simp only [execOp,resolve,Sem.run_bind,Sem.run_pure,Result.andThen_ok,invoke,builtin,List.map_toArray,List.map_cons,List.map_nil,hv1,hv2,hrun]) (fun _=>k)
theorem rQ {cs ds:List AV} (hl:Er cs ds) {w:World} {F:Fz} {v:Value} (h:(tup cs).p w F v):(tup ds).p w F v:=by
 obtain⟨vs,hv,ha⟩:=h
 exact⟨vs,hv,Cp hl ha⟩
end
end AL
