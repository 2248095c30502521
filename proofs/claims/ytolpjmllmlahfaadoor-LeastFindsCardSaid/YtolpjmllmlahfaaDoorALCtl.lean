/- The abstract logic, part 6: functions, calls, control. Under no conditions: general lemmas. -/
import Derived.Test.YtolpjmllmlahfaaDoorALOps4
import Derived.Deep.LoopGhost
namespace AL
open Go
attribute [local semireducible] any eqv agg tup fp ptr sl exi andp above emp cell own obj osl eptr

def footH (H : Hp) : Fz := fun b => ∃ k, (lkH k H).foot b

structure HpOk (H : Hp) (w : World) (F : Fz) : Prop where
  hp : ∀ k, (lkH k H).p w F
  hF : ∀ k b, (lkH k H).foot b → ¬ F b
  hd : ∀ k k' b, k ≠ k' → (lkH k H).foot b → ¬ (lkH k' H).foot b
  hN : ∀ k b, (lkH k H).foot b → b < w.heap.size

/-- What a call leaves. -/
structure Left {ι : Type} (w : World) (F : Fz) (Hi : Hp) (res : Nat → ι → AV) (Ho : ι → Hp) (i : ι) (v : Value) (F' : Fz) (w' : World) : Prop where
  res : (res w.heap.size i).p w' F' v
  ok : HpOk (Ho i) w' F'
  sub : ∀ b, F b → F' b
  new : ∀ b, F' b → F b ∨ (w.heap.size ≤ b ∧ b < w'.heap.size) ∨ footH Hi b
  foot : ∀ b, footH (Ho i) b → w.heap.size ≤ b ∨ footH Hi b
  old : ∀ b, b < w.heap.size → ¬ footH Hi b → w'.heap[b]? = w.heap[b]?
  size : w.heap.size ≤ w'.heap.size
  os : w'.os = w.os
  tape : w'.tape = w.tape
  out : w'.output = w.output

def Fn (P : Program) (f : FuncId) (args : List AV) (Hi : Hp) {ι : Type} (res : Nat → ι → AV) (Ho : ι → Hp) : Prop :=
  ∀ (w : World) (F : Fz) (vs : List Value), All2 w F args vs → (∀ b, F b → b < w.heap.size) → HpOk Hi w F →
    Calls P f vs.toArray w fun e w' => ∃ i v F', e = .returned v ∧ Left w F Hi res Ho i v F' w'

/-- A function that only computes. -/
abbrev Fn0 (P : Program) (f : FuncId) (args : List AV) (φ : AV) : Prop := Fn P f args [] (ι := Unit) (fun _ _ => φ) (fun _ => [])

def argEnv : Nat → List AV → Env
  | _, [] => []
  | k, φ :: r => (k, φ) :: argEnv (k + 1) r

theorem argEnv_lk {w : World} {F : Fz} : ∀ {args : List AV} {vs : List Value} (k : Nat), All2 w F args vs → ∀ (t : Nat), (lk (k + t) (argEnv k args)).p w F ((vs ++ List.replicate 0 undef).getD t undef)
  | [], [], k, _, t => trivial
  | φ :: cs, v :: vs, k, h, 0 => by simp [argEnv, lk]; exact h.1
  | φ :: cs, v :: vs, k, h, t + 1 => by
    have := argEnv_lk (k + 1) h.2 t
    rw [show k + (t + 1) = (k + 1) + t by omega]
    have e : lk (k + 1 + t) (argEnv k (φ :: cs)) = lk (k + 1 + t) (argEnv (k + 1) cs) := lk_other _ _ (by omega)
    rw [e]
    simpa using this
  | [], _ :: _, _, h, _ => h.elim
  | _ :: _, [], _, h, _ => h.elim

theorem argEnv_out {w : World} {F : Fz} : ∀ (args : List AV) (k t : Nat), args.length ≤ t → lk (k + t) (argEnv k args) = any
  | [], _, _, _ => rfl
  | φ :: cs, k, t, h => by
    obtain ⟨s, rfl⟩ : ∃ s, t = s + 1 := ⟨t - 1, by simp at h; omega⟩
    show lk (k + (s + 1)) ((k, φ) :: argEnv (k + 1) cs) = any
    rw [lk_other _ _ (by omega), show k + (s + 1) = (k + 1) + s by omega]
    exact argEnv_out (w := w) (F := F) cs (k + 1) s (by simpa using h)

section
variable {P : Program} {ι : Type}

/-- What a function's body must achieve. -/
def RetOK (P : Program) (fn : Func) (B : Base) (res : Nat → ι → AV) (Ho : ι → Hp) : Exit → Act → World → Prop
  | .normal, a, w | .ret, a, w => ∃ i F Ds E, SimF B E (Ho i) a w F Ds ∧ ∃ v, (∀ w', (∀ b, b ∉ Ds → w'.heap[b]? = w.heap[b]?) → (results fn a.tmps).run P w' = .ok v w') ∧ (res B.N i).p w F v
  | _, _, _ => False

theorem leaves_marks {fn : Func} {tmps : Array Value} {R : Ending → World → Prop} {v : Value} : ∀ (Ds : List Nat) (w : World), (∀ D ∈ Ds, w.heap[D]? = some (.deferred (some []))) → Ds.Nodup →
    (∀ w', w'.heap.size = w.heap.size → w'.os = w.os → w'.tape = w.tape → w'.output = w.output → (∀ b, b ∉ Ds → w'.heap[b]? = w.heap[b]?) → (results fn tmps).run P w' = .ok v w' ∧ R (.returned v) w') →
    LeavesInM (FW none) 0 P fn tmps R (Ds.map fun D => { target := .collected D, args := #[] }) .returning w
  | [], w, _, _, h => by
    obtain ⟨h1, h2⟩ := h w rfl rfl rfl rfl (fun _ _ => rfl)
    exact ⟨v, h1, h2⟩
  | D :: Ds, w, hD, hn, h => by
    have h0 := hD D (by simp)
    have hlt : D < w.heap.size := (Array.getElem?_eq_some_iff.1 h0).1
    have hne : ∀ b, b ≠ D → (w.heap.setIfInBounds D (Obj.deferred none))[b]? = w.heap[b]? := fun b hb => by
      rw [Array.getElem?_setIfInBounds_ne (Ne.symm hb)]
    refine ⟨by simp, .inl ⟨D, { w with heap := w.heap.setIfInBounds D (.deferred none) }, rfl, ?_, leaves_marks (v := v) Ds _ (fun D' hD' => ?_) (List.nodup_cons.1 hn).2 (fun w' hs hos ht ho hb => ?_)⟩⟩
    · simp [Instr.takeDeferred, getObj, setObj, Sem.run, h0]
    · rw [hne D' (fun e => (List.nodup_cons.1 hn).1 (e ▸ hD'))]
      exact hD D' (by simp [hD'])
    · refine h w' (by simpa using hs) hos ht ho (fun b hb' => ?_)
      simp at hb'
      rw [hb b hb'.2, hne b hb'.1]

theorem fn_of {f : FuncId} {fn : Func} {c : Code} {args : List AV} {Hi : Hp} {res : Nat → ι → AV} {Ho : ι → Hp} (hf : P.funcs[f]? = some fn) (hb : fn.body = some c) (hl : Nat.ble args.length fn.ntmps = true)
    (h : ∀ (w0 : World) (F0 : Fz) (a : Act) (w : World), Sim { w0 := w0, M := footH Hi, F0 := F0, nt := fn.ntmps } (argEnv 0 args) Hi a w →
      c.wpIn (FW none) 0 P (RetOK P fn { w0 := w0, M := footH Hi, F0 := F0, nt := fn.ntmps } res Ho) a w) : Fn P f args Hi res Ho := by
  intro w F vs hvs hF hH
  refine (callsIn_wide (n := 0)).1 (callsIn_of_wp_marks (F := Fence.wide) (n := 0) hf hb trivial ?_ rfl)
  have hlen := hvs.length
  have hl' : args.length ≤ fn.ntmps := by simpa using hl
  refine wpIn_mono (h w F _ w ⟨F, [], ?_⟩) ?_
  · exact {
      sz := by simp [hlen]; omega
      env := fun t => by
        by_cases ht : t < vs.length
        · have := argEnv_lk 0 hvs t
          simp only [Nat.zero_add, List.replicate_zero, List.append_nil] at this
          have e : (vs.toArray ++ Array.replicate (fn.ntmps - vs.toArray.size) undef).getD t undef = vs.getD t undef := by
            simp [Array.getD, ht]
            intro hc; omega
          rw [e]; exact this
        · have := argEnv_out (w := w) (F := F) args 0 t (by omega)
          rw [Nat.zero_add] at this
          rw [this]; trivial
      hp := hH.hp
      hF := hH.hF
      hd := hH.hd
      hN := fun k b hb => ⟨hH.hN k b hb, .inr ⟨k, hb⟩⟩
      Fb := fun b hb => ⟨hF b hb, .inl hb⟩
      F0 := fun _ hb => hb
      Ns := Nat.le_refl _
      fr := fun _ _ _ => rfl
      os := rfl
      tp := rfl
      out := rfl
      df := rfl
      dn := List.nodup_nil
      dD := fun D hD => by simp at hD }
  · have fin : ∀ (a : Act) (w' : World), (∃ i F' Ds E, SimF { w0 := w, M := footH Hi, F0 := F, nt := fn.ntmps } E (Ho i) a w' F' Ds ∧ ∃ v, (∀ w'', (∀ b, b ∉ Ds → w''.heap[b]? = w'.heap[b]?) → (results fn a.tmps).run P w'' = .ok v w'') ∧ (res w.heap.size i).p w' F' v) →
        LeavesInM (FW none) 0 P fn a.tmps (fun e w' => ∃ i v F', e = .returned v ∧ AL.Left w F Hi res Ho i v F' w') a.defers .returning w' := by
      intro a w' ⟨i, F', Ds, E, hs, v, hr, hp⟩
      rw [hs.df]
      refine leaves_marks (v := v) Ds w' (fun D hD => (hs.dD D hD).1) hs.dn (fun w'' hsz hos htp hout hb => ⟨hr w'' hb, i, v, F', rfl, ?_⟩)
      have hFb : ∀ b, F' b → w''.heap[b]? = w'.heap[b]? := fun b hb' => hb b (fun hD => (hs.dD b hD).2.1 hb')
      have hHb : ∀ k b, (lkH k (Ho i)).foot b → w''.heap[b]? = w'.heap[b]? := fun k b hb' => hb b (fun hD => (hs.dD b hD).2.2.2 k hb')
      exact {
        res := (res w.heap.size i).st (fun _ h => h) hFb hp
        ok := ⟨fun k => (lkH k (Ho i)).st (fun _ h => h) (fun b hb' => hb'.elim (hFb b) (hHb k b)) (hs.hp k), hs.hF, hs.hd, fun k b hb' => by rw [hsz]; exact (hs.hN k b hb').1⟩
        sub := hs.F0
        new := fun b hb' => by
          obtain ⟨h1, h2⟩ := hs.Fb b hb'
          rcases h2 with h2 | h2 | h2
          · exact .inl h2
          · exact .inr (.inl ⟨h2, by rw [hsz]; exact h1⟩)
          · exact .inr (.inr h2)
        foot := fun b ⟨k, hb'⟩ => (hs.hN k b hb').2
        old := fun b hlt hnf => by
          rw [hb b (fun hD => by have := (hs.dD b hD).2.2.1; simp only [Base.N] at this; omega)]
          exact hs.fr b hlt hnf
        size := by rw [hsz]; exact hs.Ns
        os := hos.trans hs.os
        tape := htp.trans hs.tp
        out := hout.trans hs.out }
    intro e a' w' hq
    cases e with
    | normal => exact fin a' w' hq
    | ret => exact fin a' w' hq
    | _ => exact hq.elim

theorem ret1 {fn : Func} {B : Base} {E : Env} {H : Hp} {a : Act} {w : World} {t : Nat} {res : Nat → ι → AV} {Ho : ι → Hp} {e : Exit} (h : Sim B E H a w) (i : ι) (hr : fn.results = #[.tmp t]) (hφ : ∀ {w F v}, (lk t E).p w F v → (res B.N i).p w F v)
    (hH : SubH (Ho i) H) (he : e = .normal ∨ e = .ret) : RetOK P fn B res Ho e a w := by
  obtain ⟨F, Ds, hs⟩ := h.less (E' := E) (H' := Ho i) (fun _ _ _ _ h => h) hH.less
  have : ∃ i F Ds E, SimF B E (Ho i) a w F Ds ∧ ∃ v, (∀ w', (∀ b, b ∉ Ds → w'.heap[b]? = w.heap[b]?) → (results fn a.tmps).run P w' = .ok v w') ∧ (res B.N i).p w F v :=
    ⟨i, F, Ds, E, hs, a.tmps.getD t undef, fun w' _ => by simp [results, hr], hφ (hs.env t)⟩
  rcases he with rfl | rfl <;> exact this
end

section
variable {P : Program} {r : Option Nat} {ops : Array Oper} {Q : Exit → Act → World → Prop} {rest : List Oper} {B : Base} {E : Env} {H : Hp} {a : Act} {w : World}
variable {d ty : Nat} {pos : String} {af : Array Edge} {ι : Type}

def dropH : Hp → Hp
  | [] => []
  | (k, _) :: r => (k, emp) :: dropH r
theorem lkH_append (k : Nat) : ∀ (H H' : Hp), (lkH k (H ++ H') = lkH k H ∧ ∃ x ∈ H, x.1 = k) ∨ (lkH k (H ++ H') = lkH k H' ∧ lkH k H = emp ∧ ∀ x ∈ H, x.1 ≠ k)
  | [], H' => .inr ⟨rfl, rfl, fun x hx => by simp at hx⟩
  | (s, φ) :: r, H' => by
    by_cases e : s = k
    · subst e
      exact .inl ⟨by rw [List.cons_append, lkH_same, lkH_same], (s, φ), by simp, rfl⟩
    · rw [List.cons_append, lkH_other _ _ e, lkH_other _ _ e]
      rcases lkH_append k r H' with ⟨h1, x, hx, hk⟩ | ⟨h1, h2, h3⟩
      · exact .inl ⟨h1, x, List.mem_cons_of_mem _ hx, hk⟩
      · exact .inr ⟨h1, h2, fun x hx => by
          rcases List.mem_cons.1 hx with rfl | hx
          · exact e
          · exact h3 x hx⟩
theorem lkH_drop (k : Nat) : ∀ (H : Hp), lkH k (dropH H) = emp
  | [] => rfl
  | (s, φ) :: r => by
    by_cases e : s = k
    · subst e; exact lkH_same _ _ _
    · show lkH k ((s, emp) :: dropH r) = emp
      rw [lkH_other _ _ e]; exact lkH_drop k r
theorem dropH_keys (k : Nat) : ∀ (H : Hp), (∃ x ∈ dropH H, x.1 = k) ↔ ∃ x ∈ H, x.1 = k
  | [] => by simp [dropH]
  | (s, φ) :: r => by simp [dropH, dropH_keys k r]

/-- The caller's knowledge of the heap behind a call: what the call leaves, in the place of what it took. -/
def outH (Ho Hi H : Hp) : Hp := Ho ++ (dropH Hi ++ H)

theorem SimF.called {F : Fz} {Ds : List Nat} (h : SimF B E H a w F Ds) {Hi : Hp} (hHi : SubH Hi H) {res : Nat → ι → AV} {Ho : ι → Hp} {i : ι} {v : Value} {F' : Fz} {w' : World} (hl : Left w F Hi res Ho i v F' w')
    : SimF B E (outH (Ho i) Hi H) a w' F' Ds := by
  have hsub : ∀ k b, (lkH k Hi).foot b → (lkH k H).foot b := fun k b hb => (hHi.lk k).1 b hb
  have hfi : ∀ b, footH Hi b → ∃ k, (lkH k Hi).foot b ∧ (lkH k H).foot b := fun b ⟨k, hk⟩ => ⟨k, hk, hsub k b hk⟩
  have hFw : ∀ b, F b → w'.heap[b]? = w.heap[b]? := fun b hb => hl.old b (h.Fb b hb).1 (fun hf => by
    obtain ⟨k, _, h2⟩ := hfi b hf
    exact h.hF k b h2 hb)
  -- what a key reads behind the call
  have cases : ∀ k, lkH k (outH (Ho i) Hi H) = lkH k (Ho i) ∨ (lkH k (outH (Ho i) Hi H) = lkH k H ∧ ∀ b, (lkH k H).foot b → ¬ footH Hi b) ∨ lkH k (outH (Ho i) Hi H) = emp := fun k => by
    rcases lkH_append k (Ho i) (dropH Hi ++ H) with ⟨h1, _⟩ | ⟨h1, h2, h3⟩
    · exact .inl h1
    · rcases lkH_append k (dropH Hi) H with ⟨g1, _⟩ | ⟨g1, g2, g3⟩
      · exact .inr (.inr (h1.trans (g1.trans (lkH_drop k Hi))))
      · refine .inr (.inl ⟨h1.trans g1, fun b hb hf => ?_⟩)
        obtain ⟨k', h4, h5⟩ := hfi b hf
        by_cases e : k = k'
        · subst e
          have : ∃ x ∈ Hi, x.1 = k := by
            rcases lkH_append k Hi [] with ⟨_, hx⟩ | ⟨_, hx, _⟩
            · exact hx
            · rw [hx] at h4; exact h4.elim
          obtain ⟨x, hx, hxk⟩ := (dropH_keys k Hi).2 this
          exact g3 x hx hxk
        · exact h.hd k k' b e hb h5
  have hnew : ∀ b, (∃ k, (lkH k (Ho i)).foot b) → w.heap.size ≤ b ∨ ∃ k, (lkH k Hi).foot b ∧ (lkH k H).foot b := fun b hb => (hl.foot b hb).imp id (hfi b)
  exact {
    sz := h.sz
    env := fun t => (lk t E).st hl.sub hFw (h.env t)
    hp := fun k => by
      rcases cases k with e | ⟨e, hn⟩ | e
      · rw [e]; exact hl.ok.hp k
      · rw [e]; exact (lkH k H).st hl.sub (fun b hb => hb.elim (hFw b) (fun hf => hl.old b (h.hN k b hf).1 (hn b hf))) (h.hp k)
      · rw [e]; trivial
    hF := fun k b hb hFb => by
      rcases cases k with e | ⟨e, hn⟩ | e
      · rw [e] at hb; exact hl.ok.hF k b hb hFb
      · rw [e] at hb
        rcases hl.new b hFb with h1 | h1 | h1
        · exact h.hF k b hb h1
        · exact absurd (h.hN k b hb).1 (by omega)
        · exact hn b hb h1
      · rw [e] at hb; exact hb
    hd := fun k k' b hne hb hb' => by
      rcases cases k with e | ⟨e, hn⟩ | e <;> rw [e] at hb
      · rcases cases k' with e' | ⟨e', hn'⟩ | e' <;> rw [e'] at hb'
        · exact hl.ok.hd k k' b hne hb hb'
        · rcases hl.foot b ⟨k, hb⟩ with h1 | h1
          · exact absurd (h.hN k' b hb').1 (by omega)
          · exact hn' b hb' h1
        · exact hb'
      · rcases cases k' with e' | ⟨e', hn'⟩ | e' <;> rw [e'] at hb'
        · rcases hl.foot b ⟨k', hb'⟩ with h1 | h1
          · exact absurd (h.hN k b hb).1 (by omega)
          · exact hn b hb h1
        · exact h.hd k k' b hne hb hb'
        · exact hb'
      · exact hb
    hN := fun k b hb => by
      rcases cases k with e | ⟨e, hn⟩ | e <;> rw [e] at hb
      · refine ⟨hl.ok.hN k b hb, ?_⟩
        rcases hnew b ⟨k, hb⟩ with h1 | ⟨k', _, h2⟩
        · exact .inl (Nat.le_trans h.Ns h1)
        · exact (h.hN k' b h2).2
      · exact ⟨Nat.lt_of_lt_of_le (h.hN k b hb).1 hl.size, (h.hN k b hb).2⟩
      · exact hb.elim
    Fb := fun b hb => by
      rcases hl.new b hb with h1 | h1 | h1
      · exact ⟨Nat.lt_of_lt_of_le (h.Fb b h1).1 hl.size, (h.Fb b h1).2⟩
      · exact ⟨h1.2, .inr (.inl (Nat.le_trans h.Ns h1.1))⟩
      · obtain ⟨k, _, h2⟩ := hfi b h1
        exact ⟨Nat.lt_of_lt_of_le (h.hN k b h2).1 hl.size, .inr (h.hN k b h2).2⟩
    F0 := fun b hb => hl.sub b (h.F0 b hb)
    Ns := Nat.le_trans h.Ns hl.size
    fr := fun b hb hM => by
      rw [hl.old b (Nat.lt_of_lt_of_le hb h.Ns) (fun hf => by
        obtain ⟨k, _, h2⟩ := hfi b hf
        exact (h.hN k b h2).2.elim (fun h3 => by omega) hM)]
      exact h.fr b hb hM
    os := hl.os.trans h.os
    tp := hl.tape.trans h.tp
    out := hl.out.trans h.out
    df := h.df
    dn := h.dn
    dD := fun D hD => by
      obtain ⟨h1, h2, h3, h4⟩ := h.dD D hD
      have hlt : D < w.heap.size := (Array.getElem?_eq_some_iff.1 h1).1
      have hni : ¬ footH Hi D := fun hf => by
        obtain ⟨k, _, h5⟩ := hfi D hf
        exact h4 k h5
      refine ⟨(hl.old D hlt hni).trans h1, fun hF => ?_, h3, fun k hk => ?_⟩
      · rcases hl.new D hF with h5 | h5 | h5
        · exact h2 h5
        · omega
        · exact hni h5
      · rcases cases k with e | ⟨e, hn⟩ | e <;> rw [e] at hk
        · rcases hl.foot D ⟨k, hk⟩ with h5 | h5
          · omega
          · exact hni h5
        · exact h4 k hk
        · exact hk }

def opds : List Operand → Env → List AV
  | [], _ => []
  | x :: r, E => lkO x E :: opds r E
theorem SimF.opds {F : Fz} {Ds : List Nat} (h : SimF B E H a w F Ds) : ∀ (xs : List Operand), All2 w F (AL.opds xs E) (xs.map a.eval)
  | [] => trivial
  | x :: r => ⟨h.opd x, SimF.opds h r⟩

theorem run_callFunc {f : FuncId} {fn : Func} {c : Code} (hf : P.funcs[f]? = some fn) (hb : fn.body = some c) (hn : fn.name ≠ "runtime.NumGoroutine") (args : Array Value) (w : World) : (callFunc f args).run P w = .ok (.enter f args) w := by
  simp [callFunc, program, Sem.run, hf, hn, hb]

/-- A function that can be entered. -/
structure Ent (P : Program) (f : FuncId) : Prop where
  run : ∀ (args : Array Value) (w : World), (callFunc f args).run P w = .ok (.enter f args) w
theorem ent_of {f : FuncId} (h : (match P.funcs[f]? with | some fn => fn.body.isSome && !(fn.name == "runtime.NumGoroutine") | none => false) = true) : Ent P f := by
  cases hf : P.funcs[f]? with
  | none => simp [hf] at h
  | some fn =>
    rw [hf] at h
    simp at h
    obtain ⟨c, hc⟩ := Option.isSome_iff_exists.1 h.1
    exact ⟨run_callFunc hf hc h.2⟩

theorem wl_enter {o : Oper} {f : FuncId} {args : Array Value} {R : Ending → World → Prop} (hg : o.guard = none) (hdf : ∀ c, o.op ≠ .defer c) (hrun : (execOp a.eval o).run P w = .ok (.enter f args) w)
    (hc : Calls P f args w R) (hk : ∀ e w', R e w' → ∃ v, e = .returned v ∧ wl r P ops Q rest (a.put o.dst v) w') : wl r P ops Q (o :: rest) a w := by
  refine wl_step hg hdf ?_
  rw [hrun]
  refine ⟨fun h => by simp at h, ?_⟩
  have : CallsIn Fence.wide 0 P f args w R := (callsIn_wide (n := 0)).2 hc
  refine CallsIn.mono (F := FW r) (n := 0) (R := R) ⟨trivial, fun cs hr => this.2 cs (fun d hd => by cases hd)⟩ (fun e w' hR => ?_)
  obtain ⟨v, rfl, h⟩ := hk e w' hR
  exact h

/-- A call of a function by name; one result. -/
theorem o_call {f : FuncId} {xs : List Operand} {Hi : Hp} {res : Nat → ι → AV} {Ho : ι → Hp} {ts : Array TypeId} (h : Sim B E H a w) (hf : Fn P f (opds xs E) Hi res Ho) (he : Ent P f) (hHi : SubH Hi H)
    (k : ∀ N i a w, Sim B ((d, res N i) :: E) (outH (Ho i) Hi H) a w → wl r P ops Q rest a w) (hn : Nat.blt d B.nt = true := by rfl) :
    wl r P ops Q ({ dst := some d, op := .call { callee := .value (.func f), args := xs.toArray, argTypes := ts }, type := ty, pos := pos, after := af, guard := none } :: rest) a w := by
  obtain ⟨F, Ds, hs⟩ := h
  have hH : HpOk Hi w F := ⟨fun k => (hHi.lk k).2 (hs.hp k), fun k b hb => hs.hF k b ((hHi.lk k).1 b hb), fun k k' b e hb hb' => hs.hd k k' b e ((hHi.lk k).1 b hb) ((hHi.lk k').1 b hb'), fun k b hb => (hs.hN k b ((hHi.lk k).1 b hb)).1⟩
  refine wl_enter (f := f) (args := (xs.map a.eval).toArray) rfl (fun _ => nofun) ?_ (hf w F _ (hs.opds xs) (fun b hb => (hs.Fb b hb).1) hH) (fun e w' hR => ?_)
  · simp [execOp, resolve, Act.eval, Deferred.ofValue, invoke, he.run]
  · obtain ⟨i, v, F', rfl, hl⟩ := hR
    exact ⟨v, rfl, k w.heap.size i _ _ ⟨F', Ds, (hs.called hHi hl).put (by simpa using hn) hl.res⟩⟩

/-- A function that only computes. -/
theorem o_call0 {f : FuncId} {xs : List Operand} {φ : AV} {ts : Array TypeId} (h : Sim B E H a w) (hf : Fn0 P f (opds xs E) φ) (he : Ent P f)
    (k : ∀ a w, Sim B ((d, φ) :: E) H a w → wl r P ops Q rest a w) (hn : Nat.blt d B.nt = true := by rfl) :
    wl r P ops Q ({ dst := some d, op := .call { callee := .value (.func f), args := xs.toArray, argTypes := ts }, type := ty, pos := pos, after := af, guard := none } :: rest) a w :=
  o_call h hf he trivial (fun _ _ a w h => k a w h) hn

/-! ### Code -/
theorem c_region {id : Nat} {l : List Oper} (h : wl r P l.toArray Q l a w) : (Code.region id l.toArray false).wpIn (FW r) 0 P Q a w := wpIn_region_lit h

theorem c_cond {c : Operand} {x y : Code} {b : Bool} (h : Sim B E H a w) (hc : lkO c E = bl b) (ht : b = true → x.wpIn (FW r) 0 P Q a w) (hf : b = false → y.wpIn (FW r) 0 P Q a w) : (Code.cond c x y).wpIn (FW r) 0 P Q a w := by
  obtain ⟨F, Ds, hs⟩ := h
  have h1 := hs.opd c
  rw [hc] at h1
  exact wpIn_cond_split h1 ht hf

/-- A loop: κ: what turns from round to round. -/
theorem c_loop {κ : Type} (Ei : κ → Env) (Hi : κ → Hp) (G : κ → Prop) (μ : κ → Nat) (k0 : κ) (g0 : G k0) {c : Code} (h0 : Sim B (Ei k0) (Hi k0) a w)
    (round : ∀ k a w, G k → Sim B (Ei k) (Hi k) a w → c.wpIn (FW r) 0 P (Exit.then (fun a' w' => ∃ k', G k' ∧ μ k' < μ k ∧ Sim B (Ei k') (Hi k') a' w') Q) a w) : (Code.loop c).wpIn (FW r) 0 P Q a w := by
  let p : Act → World → Nat → Prop := fun a w n => ∃ k, μ k = n ∧ G k ∧ Sim B (Ei k) (Hi k) a w
  refine wpIn_loop (fun a w => ∃ n, p a w n) (fun a w => leastOf (p a w)) ⟨μ k0, k0, rfl, g0, h0⟩ (fun a w hI => ?_)
  obtain ⟨⟨k, hk, hg, hs⟩, hmin⟩ := leastOf_spec hI
  refine wpIn_mono (round k a w hg hs) (fun e a' w' hq => ?_)
  cases e with
  | normal =>
    obtain ⟨k', g', hlt, hs'⟩ := hq
    have h1 : p a' w' (μ k') := ⟨k', rfl, g', hs'⟩
    have h2 := (leastOf_spec ⟨_, h1⟩).2 _ h1
    exact ⟨⟨_, h1⟩, by omega⟩
  | _ => exact hq
end
end AL
