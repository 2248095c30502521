/- The abstract logic, part 9: function values. Under no conditions: general lemmas. -/
import Derived.Test.YtolpjmllmlahfaaDoorALOps5
set_option linter.unusedVariables false
namespace AL
open Go
attribute [local semireducible] any eqv agg tup fp ptr sl exi andp above emp cell own obj osl eptr

/-- A closure over values. -/
def clo (f : FuncId) (cs : List AV) : AV := ⟨fun w F v => ∃ vs : List Value, v = .func (.func f) #[] vs.toArray ∧ All2 w F cs vs, fun hF hw ⟨vs, hv, h⟩ => ⟨vs, hv, h.st hF hw⟩⟩
instance (f : FuncId) (cs : List AV) : One (clo f cs) := ⟨fun ⟨_, h, _⟩ => by cases h; rfl⟩

/-- What a call of a function value comes to. -/
def VCalls (P : Program) (v : Value) (args : Array Value) (w : World) (R : Ending → World → Prop) : Prop :=
  (∃ f as, (do let d ← Deferred.ofValue v args; invoke d.target d.args : Sem Next).run P w = .ok (.enter f as) w ∧ Calls P f as w R) ∨
  (∃ l f tmps assign body, (do let d ← Deferred.ofValue v args; invoke d.target d.args : Sem Next).run P w = .ok (.round l f tmps assign body) w ∧ RoundIn (FW none) 0 P l f tmps assign body w R)

/-- The contract of a function value. -/
def FnV (P : Program) (v : Value) (args : List AV) (Hi : Hp) {ι : Type} (res : Nat → ι → AV) (Ho : ι → Hp) : Prop :=
  ∀ (w : World) (F : Fz) (vs : List Value), All2 w F args vs → (∀ b, F b → b < w.heap.size) → HpOk Hi w F →
    VCalls P v vs.toArray w fun e w' => ∃ i u F', e = .returned u ∧ Left w F Hi res Ho i u F' w'

/-- A function value that only computes, for the x of a domain. -/
def pf {α : Type} (P : Program) (dom : α → Prop) (D : α → List AV) (p : α → AV) : AV :=
  ⟨fun w F v => ∀ (w' : World) (F' : Fz), (∀ b, F b → F' b) → (∀ b, F b → w'.heap[b]? = w.heap[b]?) → ∀ x, dom x → ∀ vs : List Value, All2 w' F' (D x) vs → (∀ b, F' b → b < w'.heap.size) →
      VCalls P v vs.toArray w' fun e w'' => ∃ (i : Unit) (u : Value) (F'' : Fz), e = .returned u ∧ Left w' F' [] (fun _ _ => p x) (fun _ => []) i u F'' w'',
   fun {w F w' F' v} hF hw h w2 F2 hF2 hw2 x hx vs ha hb => h w2 F2 (fun b hb => hF2 b (hF b hb)) (fun b hb => (hw2 b (hF b hb)).trans (hw b hb)) x hx vs ha hb⟩

section
variable {P : Program} {r : Option Nat} {ops : Array Oper} {Q : Exit → Act → World → Prop} {rest : List Oper} {B : Base} {E : Env} {H : Hp} {a : Act} {w : World}
variable {d ty : Nat} {pos : String} {af : Array Edge} {ι : Type}

theorem All2.app2 {w : World} {F : Fz} {cs cs' : List AV} {vs us : List Value} (h : All2 w F cs vs) (h' : All2 w F cs' us) : All2 w F (cs ++ cs') (vs ++ us) := h.append h'

theorem hpOk_nil (w : World) (F : Fz) : HpOk [] w F := ⟨fun _ => trivial, fun _ _ h => h.elim, fun _ _ _ _ h => h.elim, fun _ _ h => h.elim⟩

theorem clo_pf {α : Type} {f : FuncId} {cs : List AV} {dom : α → Prop} {D : α → List AV} {p : α → AV} (he : Ent P f) (hf : ∀ x, dom x → Fn0 P f (D x ++ cs) (p x)) {w : World} {F : Fz} {v : Value} (h : (clo f cs).p w F v) : (pf P dom D p).p w F v := by
  obtain ⟨us, rfl, ha⟩ := h
  intro w' F' hF hw x hx vs hvs hb
  refine .inl ⟨f, (vs ++ us).toArray, ?_, hf x hx w' F' (vs ++ us) (hvs.append (ha.st hF hw)) hb (hpOk_nil w' F')⟩
  simp [Deferred.ofValue, invoke, he.run]

theorem func_pf {α : Type} {f : FuncId} {dom : α → Prop} {D : α → List AV} {p : α → AV} (he : Ent P f) (hf : ∀ x, dom x → Fn0 P f (D x) (p x)) {w : World} {F : Fz} {v : Value} (h : (eqv (.func (.func f) #[] #[])).p w F v) : (pf P dom D p).p w F v :=
  clo_pf (cs := []) he (fun x hx => by simpa using hf x hx) ⟨[], h, trivial⟩

theorem o_mkf {f : FuncId} {xs : List Operand} (h : Sim B E H a w)
    (k : ∀ a w, Sim B ((d, clo f (opds xs E)) :: E) H a w → wl r P ops Q rest a w) (hn : Nat.blt d B.nt = true := by rfl) :
    wl r P ops Q ({ dst := some d, op := .makeFunc (.func f) #[] xs.toArray, type := ty, pos := pos, after := af, guard := none } :: rest) a w :=
  op_val (φ := clo f (opds xs E)) h rfl rfl hn (fun _ => nofun) (fun F Ds hs => ⟨.func (.func f) #[] (xs.map a.eval).toArray, by simp [execOp, Instr.makeFunc], _, rfl, hs.opds xs⟩) k

theorem wl_vcall {x : Operand} {xs : List Operand} {ts : Array TypeId} {v : Value} {dd : Option Tmp} {R : Ending → World → Prop} (hx : a.eval x = v) (hc : VCalls P v (xs.map a.eval).toArray w R)
    (hk : ∀ e w', R e w' → ∃ u, e = .returned u ∧ wl r P ops Q rest (a.put dd u) w') :
    wl r P ops Q ({ dst := dd, op := .call { callee := .value x, args := xs.toArray, argTypes := ts }, type := ty, pos := pos, after := af, guard := none } :: rest) a w := by
  have hex : ∀ (z : Next), (do let d ← Deferred.ofValue v (xs.map a.eval).toArray; invoke d.target d.args : Sem Next).run P w = .ok z w →
      (execOp a.eval { dst := dd, op := .call { callee := .value x, args := xs.toArray, argTypes := ts }, type := ty, pos := pos, after := af, guard := none }).run P w = .ok z w := fun z hz => by
    simp only [execOp, resolve, hx, List.map_toArray]
    exact hz
  refine wl_step rfl (fun _ => nofun) ?_
  rcases hc with ⟨f, as, hrun, hc⟩ | ⟨l, f, tmps, assign, body, hrun, hc⟩
  · rw [hex _ hrun]
    refine ⟨fun h => by simp at h, ?_⟩
    have : CallsIn Fence.wide 0 P f as w R := (callsIn_wide (n := 0)).2 hc
    refine CallsIn.mono (F := FW r) (n := 0) (R := R) ⟨trivial, fun cs hr => this.2 cs (fun d hd => by cases hd)⟩ (fun e w' hR => ?_)
    obtain ⟨u, rfl, h⟩ := hk e w' hR
    exact h
  · rw [hex _ hrun]
    refine ⟨fun h => by simp at h, ?_⟩
    refine RoundIn.mono (F := FW r) (n := 0) (R := R) ⟨trivial, fun c cs hr => hc.2 c cs (fun d hd => by cases hd)⟩ (fun e w' hR => ?_)
    obtain ⟨u, rfl, h⟩ := hk e w' hR
    exact h

theorem o_callV {x : Operand} {v : Value} {xs : List Operand} {Hi : Hp} {res : Nat → ι → AV} {Ho : ι → Hp} {ts : Array TypeId} (h : Sim B E H a w) (hx : lkO x E = eqv v) (hf : FnV P v (opds xs E) Hi res Ho) (hHi : SubH Hi H)
    (k : ∀ N i a w, Sim B ((d, res N i) :: E) (outH (Ho i) Hi H) a w → wl r P ops Q rest a w) (hn : Nat.blt d B.nt = true := by rfl) :
    wl r P ops Q ({ dst := some d, op := .call { callee := .value x, args := xs.toArray, argTypes := ts }, type := ty, pos := pos, after := af, guard := none } :: rest) a w := by
  obtain ⟨F, Ds, hs⟩ := h
  have hv := hs.opd x
  rw [hx] at hv
  have hH : HpOk Hi w F := ⟨fun k => (hHi.lk k).2 (hs.hp k), fun k b hb => hs.hF k b ((hHi.lk k).1 b hb), fun k k' b e hb hb' => hs.hd k k' b e ((hHi.lk k).1 b hb) ((hHi.lk k').1 b hb'), fun k b hb => (hs.hN k b ((hHi.lk k).1 b hb)).1⟩
  refine wl_vcall (v := v) hv (hf w F _ (hs.opds xs) (fun b hb => (hs.Fb b hb).1) hH) (fun e w' hR => ?_)
  obtain ⟨i, u, F', rfl, hl⟩ := hR
  exact ⟨u, rfl, k w.heap.size i _ _ ⟨F', Ds, (hs.called hHi hl).put (by simpa using hn) hl.res⟩⟩

/-- A call of a function value that only computes. -/
theorem o_callP {α : Type} {x : Operand} {dom : α → Prop} {D : α → List AV} {p : α → AV} {xs : List Operand} {ts : Array TypeId} (h : Sim B E H a w) (hx : lkO x E = pf P dom D p) (y : α) (hy : dom y) (hD : opds xs E = D y)
    (k : ∀ a w, Sim B ((d, p y) :: E) H a w → wl r P ops Q rest a w) (hn : Nat.blt d B.nt = true := by rfl) :
    wl r P ops Q ({ dst := some d, op := .call { callee := .value x, args := xs.toArray, argTypes := ts }, type := ty, pos := pos, after := af, guard := none } :: rest) a w := by
  obtain ⟨F, Ds, hs⟩ := h
  have hv := hs.opd x
  rw [hx] at hv
  have hb : ∀ b, F b → b < w.heap.size := fun b hb => (hs.Fb b hb).1
  refine wl_vcall (v := a.eval x) rfl (hv w F (fun _ h => h) (fun _ _ => rfl) y hy _ (by have := hs.opds xs; rw [hD] at this; exact this) hb) (fun e w' hR => ?_)
  obtain ⟨i, u, F', rfl, hl⟩ := hR
  exact ⟨u, rfl, k _ _ ⟨F', Ds, (hs.called (Hi := []) (Ho := fun _ => []) trivial hl).put (by simpa using hn) hl.res⟩⟩

/-- A call of a closure. -/
theorem o_callC {f : FuncId} {cs : List AV} {x : Operand} {xs : List Operand} {Hi : Hp} {res : Nat → ι → AV} {Ho : ι → Hp} {ts : Array TypeId} (h : Sim B E H a w) (hx : lkO x E = clo f cs) (hf : Fn P f (opds xs E ++ cs) Hi res Ho) (he : Ent P f) (hHi : SubH Hi H)
    (k : ∀ N i a w, Sim B ((d, res N i) :: E) (outH (Ho i) Hi H) a w → wl r P ops Q rest a w) (hn : Nat.blt d B.nt = true := by rfl) :
    wl r P ops Q ({ dst := some d, op := .call { callee := .value x, args := xs.toArray, argTypes := ts }, type := ty, pos := pos, after := af, guard := none } :: rest) a w := by
  obtain ⟨F, Ds, hs⟩ := h
  have hv := hs.opd x
  rw [hx] at hv
  obtain ⟨us, hv, ha⟩ := hv
  have hH : HpOk Hi w F := ⟨fun k => (hHi.lk k).2 (hs.hp k), fun k b hb => hs.hF k b ((hHi.lk k).1 b hb), fun k k' b e hb hb' => hs.hd k k' b e ((hHi.lk k).1 b hb) ((hHi.lk k').1 b hb'), fun k b hb => (hs.hN k b ((hHi.lk k).1 b hb)).1⟩
  refine wl_vcall (v := a.eval x) rfl (.inl ⟨f, (xs.map a.eval ++ us).toArray, ?_, hf w F _ ((hs.opds xs).append ha) (fun b hb => (hs.Fb b hb).1) hH⟩) (fun e w' hR => ?_)
  · rw [hv]; simp [Deferred.ofValue, invoke, he.run]
  · obtain ⟨i, u, F', rfl, hl⟩ := hR
    exact ⟨u, rfl, k w.heap.size i _ _ ⟨F', Ds, (hs.called hHi hl).put (by simpa using hn) hl.res⟩⟩

/-- An own variable no more written: frozen. -/
theorem Sim.freezeV {cs : List AV} {b o : Nat} (h : Sim B E H a w) (key t : Nat) (hk : lkH key H = cell b cs) (ht : lk t E = ptr key b o) : Sim B ((t, fp (cs.drop o)) :: E) ((key, emp) :: H) a w := by
  obtain ⟨F, Ds, h⟩ := h
  refine ⟨_, Ds, { h.freeze key with env := fun s => ?_ }⟩
  by_cases e : t = s
  · subst e
    rw [lk_same]
    have h1 := h.env t
    rw [ht] at h1
    have h1 : a.tmps.getD t undef = .pointer (some ⟨b, o, none⟩) := h1
    have h2 := h.hp key
    rw [hk] at h2 ⊢
    obtain ⟨vs, hr, ha⟩ := cell_rd h2 o
    exact ⟨b, o, vs, h1, .inr rfl, hr, ha.st (fun _ h => .inl h) (fun _ _ => rfl)⟩
  · rw [lk_other _ _ e]; exact (h.freeze key).env s
end
attribute [irreducible] clo pf
end AL
