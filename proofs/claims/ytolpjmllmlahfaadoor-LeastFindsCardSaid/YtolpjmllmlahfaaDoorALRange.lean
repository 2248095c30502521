/- The abstract logic, part 10: ranges over functions. Under no conditions: general lemmas. -/
import Derived.Test.YtolpjmllmlahfaaDoorALDraw
import Derived.RangeFuncRecord
set_option linter.unusedVariables false
namespace AL
open Go
attribute [local semireducible] any eqv agg tup fp ptr sl exi andp above emp cell own obj osl eptr clo pf

/-- The loop's record, and all that the loop's activation owns, as one thing. -/
def HS (l : Nat) (R : Loop) (E : Env) (H : Hp) : HA :=
  ⟨fun b => footH H b ∨ b = l,
   fun w F => (∀ k, (lkH k H).p w F) ∧ (∀ k k' b, k ≠ k' → (lkH k H).foot b → ¬ (lkH k' H).foot b) ∧ (∀ k, ¬ (lkH k H).foot l) ∧ w.heap[l]? = some (.loop R) ∧ (∀ t, (lk t E).p w F (R.tmps.getD t undef)),
   fun {w F w' F'} hF hw ⟨h1, h2, h3, h4, h5⟩ => ⟨fun k => (lkH k H).st hF (fun b hb => hw b (hb.imp id (fun h => .inl ⟨k, h⟩))) (h1 k), h2, h3, (hw l (.inr (.inr rfl))).trans h4, fun t => (lk t E).st hF (fun b hb => hw b (.inl hb)) (h5 t)⟩⟩

section
variable {P : Program} {r : Option Nat} {Q : Exit → Act → World → Prop} {B : Base} {E : Env} {H : Hp} {a : Act} {w : World} {F : Fz} {Ds : List Nat}

/-- What an iterator's function promises: it yields the xs, one by one, till it is told to stop. -/
def It {α : Type} (P : Program) (f : FuncId) (cs : List AV) (encs : α → List AV) (xs : List α) : Prop :=
  ∀ (y : Value) (Y : Nat → HA → Prop) (Z : HA → Prop),
    (∀ i h x, Y i h → xs[i]? = some x → FnV P y (encs x) [(0, h)] (ι := Bool × HA) (fun _ bh => andp ((bh.1 = true → Y (i + 1) bh.2) ∧ (bh.1 = false → Z bh.2)) (bl bh.1)) (fun bh => [(0, bh.2)])) →
    ∀ h0, Y 0 h0 → Fn P f (eqv y :: cs) [(0, h0)] (ι := HA) (fun _ h' => andp (Y xs.length h' ∨ Z h') any) (fun h' => [(0, h')])

theorem SimF.pack (h : SimF B E H a w F Ds) {kl l : Nat} {R : Loop} {H0 : Hp} (hH : H = (kl, obj l (.loop R)) :: H0) (hk : lkH kl H0 = emp) {E0 : Env} (hE : ∀ t, (lk t E0).p w F (R.tmps.getD t undef)) (ky : Nat) : SimF B E [(ky, HS l R E0 H0)] a w F Ds := by
  subst hH
  have hlk : ∀ k, k ≠ kl → lkH k ((kl, obj l (.loop R)) :: H0) = lkH k H0 := fun k hne => lkH_other _ _ (Ne.symm hne)
  have hkl : lkH kl ((kl, obj l (.loop R)) :: H0) = obj l (.loop R) := lkH_same _ _ _
  have hf : ∀ b, (HS l R E0 H0).foot b → ∃ k, (lkH k ((kl, obj l (.loop R)) :: H0)).foot b := fun b hb => by
    rcases hb with ⟨k, hb⟩ | rfl
    · by_cases e : k = kl
      · subst e; rw [hk] at hb; exact hb.elim
      · exact ⟨k, by rw [hlk k e]; exact hb⟩
    · exact ⟨kl, by rw [hkl]; rfl⟩
  have hone : ∀ k b, (lkH k [(ky, HS l R E0 H0)]).foot b → k = ky ∧ (HS l R E0 H0).foot b := fun k b hb => by
    by_cases e : ky = k
    · subst e; rw [lkH_same] at hb; exact ⟨rfl, hb⟩
    · rw [lkH_other _ _ e] at hb; exact hb.elim
  refine { h with
    hp := fun k => ?_
    hF := fun k b hb hFb => by
      obtain ⟨j, hj⟩ := hf b (hone k b hb).2
      exact h.hF j b hj hFb
    hd := fun k k' b hne hb hb' => by
      have h1 := (hone k b hb).1
      have h2 := (hone k' b hb').1
      exact absurd (h1.trans h2.symm) hne
    hN := fun k b hb => by
      obtain ⟨j, hj⟩ := hf b (hone k b hb).2
      exact h.hN j b hj
    dD := fun D hD => by
      obtain ⟨h1, h2, h3, h4⟩ := h.dD D hD
      refine ⟨h1, h2, h3, fun k hb => ?_⟩
      obtain ⟨j, hj⟩ := hf D (hone k D hb).2
      exact h4 j hj }
  by_cases e : ky = k
  · subst e
    rw [lkH_same]
    refine ⟨fun k => ?_, fun k k' b hne hb hb' => ?_, fun k hb => ?_, ?_, hE⟩
    · by_cases e : k = kl
      · subst e; rw [hk]; trivial
      · have := h.hp k; rwa [hlk k e] at this
    · have e1 : k ≠ kl := fun e => by subst e; rw [hk] at hb; exact hb
      have e2 : k' ≠ kl := fun e => by subst e; rw [hk] at hb'; exact hb'
      exact h.hd k k' b hne (by rw [hlk k e1]; exact hb) (by rw [hlk k' e2]; exact hb')
    · have e1 : k ≠ kl := fun e => by subst e; rw [hk] at hb; exact hb
      exact h.hd k kl l e1 (by rw [hlk k e1]; exact hb) (by rw [hkl]; rfl)
    · have := h.hp kl; rw [hkl] at this; exact this
  · rw [lkH_other _ _ e]; trivial

theorem SimF.unpack {Hx : Hp} (h : SimF B E Hx a w F Ds) {ky kl l : Nat} {R : Loop} {E0 : Env} {H0 : Hp} (hx : lkH ky Hx = HS l R E0 H0) (hk : lkH kl H0 = emp) : SimF B E ((kl, obj l (.loop R)) :: H0) a w F Ds := by
  have hlk : ∀ k, k ≠ kl → lkH k ((kl, obj l (.loop R)) :: H0) = lkH k H0 := fun k hne => lkH_other _ _ (Ne.symm hne)
  have hkl : lkH kl ((kl, obj l (.loop R)) :: H0) = obj l (.loop R) := lkH_same _ _ _
  have hp := h.hp ky
  rw [hx] at hp
  obtain ⟨h1, h2, h3, h4, h5⟩ := hp
  have hf : ∀ k b, (lkH k ((kl, obj l (.loop R)) :: H0)).foot b → (lkH ky Hx).foot b := fun k b hb => by
    rw [hx]
    by_cases e : k = kl
    · subst e; rw [hkl] at hb; exact .inr hb
    · rw [hlk k e] at hb; exact .inl ⟨k, hb⟩
  exact { h with
    hp := fun k => by
      by_cases e : k = kl
      · subst e; rw [hkl]; exact h4
      · rw [hlk k e]; exact h1 k
    hF := fun k b hb => h.hF ky b (hf k b hb)
    hd := fun k k' b hne hb hb' => by
      by_cases e : k = kl
      · subst e
        rw [hkl] at hb; rw [hlk k' (Ne.symm hne)] at hb'
        have hb : b = l := hb
        subst hb; exact h3 k' hb'
      · by_cases e' : k' = kl
        · subst e'
          rw [hkl] at hb'; rw [hlk k e] at hb
          have hb' : b = l := hb'
          subst hb'; exact h3 k hb
        · rw [hlk k e] at hb; rw [hlk k' e'] at hb'
          exact h2 k k' b hne hb hb'
    hN := fun k b hb => h.hN ky b (hf k b hb)
    dD := fun D hD => by
      obtain ⟨g1, g2, g3, g4⟩ := h.dD D hD
      exact ⟨g1, g2, g3, fun k hb => g4 ky (hf k D hb)⟩ }

/-- The slots of yield's arguments. -/
def setAll (ps : List Nat) (cs : List AV) (E : Env) : Env :=
  match ps, cs with
  | p :: ps, c :: cs => setAll ps cs ((p, c) :: E)
  | _, _ => E

theorem setAll_env {nt : Nat} : ∀ (ps : List Nat) (cs : List AV) (vs : List Value) (E : Env) (tmps : Array Value), tmps.size = nt → (∀ p ∈ ps, p < nt) → All2 w F cs vs → ps.length = cs.length → (∀ t, (lk t E).p w F (tmps.getD t undef)) →
    ((ps.zip vs).foldl (fun t (x : Nat × Value) => t.setIfInBounds x.1 x.2) tmps).size = nt ∧ ∀ t, (lk t (setAll ps cs E)).p w F (((ps.zip vs).foldl (fun t (x : Nat × Value) => t.setIfInBounds x.1 x.2) tmps).getD t undef)
  | [], [], [], E, tmps, hs, _, _, _, hE => ⟨hs, hE⟩
  | p :: ps, c :: cs, v :: vs, E, tmps, hs, hp, ha, hl, hE => by
    refine setAll_env ps cs vs ((p, c) :: E) (tmps.setIfInBounds p v) (by simpa using hs) (fun q hq => hp q (List.mem_cons_of_mem _ hq)) ha.2 (by simpa using hl) (fun t => ?_)
    by_cases e : p = t
    · subst e
      rw [lk_same]
      have : p < tmps.size := by rw [hs]; exact hp p (by simp)
      simpa [this] using ha.1
    · rw [lk_other _ _ e]
      have := hE t
      simpa [e] using this
  | [], _ :: _, _, _, _, _, _, _, hl, _ => by simp at hl
  | _ :: _, [], _, _, _, _, _, _, hl, _ => by simp at hl
  | [], [], _ :: _, _, _, _, _, ha, _, _ => ha.elim
  | _ :: _, _ :: _, [], _, _, _, _, ha, _, _ => ha.elim

/-- What a round achieves: 'G'': it goes on; 'S': it leaves by a jump. -/
def RQ {κ : Type} (B : Base) (kl l : Nat) (R : Loop) (Hk : κ → Hp) (G : κ → Prop) (S : Code → κ → Prop) : Exit → Act → World → Prop
  | .normal, a, w => ∃ k, G k ∧ ∃ E, Sim B E ((kl, obj l (.loop { R with state := .busy })) :: Hk k) a w
  | .ret, a, w => ∃ k, S .ret k ∧ ∃ E, Sim B E ((kl, obj l (.loop { R with state := .busy })) :: Hk k) a w
  | .exit id, a, w => ∃ k, S (.exit id) k ∧ ∃ E, Sim B E ((kl, obj l (.loop { R with state := .busy })) :: Hk k) a w
  | _, _, _ => False
/-- Behind the assignment to the loop's variables. -/
def AQ {κ : Type} (P : Program) (B : Base) (kl l : Nat) (R : Loop) (Hk : κ → Hp) (G : κ → Prop) (S : Code → κ → Prop) (body : Code) : Exit → Act → World → Prop
  | .normal, a, w => ∃ w₂, (Instr.beginRound l).run P w = .ok () w₂ ∧ body.wpIn (FW (some l)) 0 P (RQ B kl l R Hk G S) a w₂
  | _, _, _ => False

theorem aq {κ : Type} {kl l : Nat} {R : Loop} {Hk : κ → Hp} {G : κ → Prop} {S : Code → κ → Prop} {body : Code} (hr : R.state = .ready) (hk : lkH kl H = obj l (.loop R))
    (h : Ct (some l) P (RQ B kl l R Hk G S) B E ((kl, obj l (.loop { R with state := .busy })) :: H) body) : At (AQ P B kl l R Hk G S body) .normal B E H := fun a w ⟨F, Ds, hs⟩ => by
  have h1 := hs.hp kl
  rw [hk] at h1
  have h1 : w.heap[l]? = some (.loop R) := h1
  have hlt : l < w.heap.size := (Array.getElem?_eq_some_iff.1 h1).1
  refine ⟨w.putObj l (.loop { R with state := .busy }), run_beginRound h1 hr, h a _ ⟨F, Ds, hs.upd (w' := w.putObj l _) kl _ (by simp) rfl rfl rfl (fun b hb hnf => ?_) (fun b hb => ?_) ?_⟩⟩
  · exact World.putObj_heap_other (fun e => hnf (by rw [hk]; exact e))
  · have hb : b = l := hb
    subst hb
    exact ⟨.inl (by rw [hk]; rfl), by simpa using hlt⟩
  · exact World.putObj_heap_same hlt

theorem rqN {κ : Type} {kl l : Nat} {R : Loop} {Hk : κ → Hp} {G : κ → Prop} {S : Code → κ → Prop} (k : κ) (g : G k) (hH : SubH ((kl, obj l (.loop { R with state := .busy })) :: Hk k) H) : At (RQ B kl l R Hk G S) .normal B E H :=
  fun _ _ hs => ⟨k, g, E, hs.less (fun _ _ _ _ h => h) hH.less⟩
theorem rqR {κ : Type} {kl l : Nat} {R : Loop} {Hk : κ → Hp} {G : κ → Prop} {S : Code → κ → Prop} (k : κ) (g : S .ret k) (hH : SubH ((kl, obj l (.loop { R with state := .busy })) :: Hk k) H) : At (RQ B kl l R Hk G S) .ret B E H :=
  fun _ _ hs => ⟨k, g, E, hs.less (fun _ _ _ _ h => h) hH.less⟩
theorem rqX {κ : Type} {kl l id : Nat} {R : Loop} {Hk : κ → Hp} {G : κ → Prop} {S : Code → κ → Prop} (k : κ) (g : S (.exit id) k) (hH : SubH ((kl, obj l (.loop { R with state := .busy })) :: Hk k) H) : At (RQ B kl l R Hk G S) (.exit id) B E H :=
  fun _ _ hs => ⟨k, g, E, hs.less (fun _ _ _ _ h => h) hH.less⟩

theorem loop_eta (R : Loop) {s : LoopState} {p : Option Code} (hs : R.state = s) (hp : R.pending = p) : { R with state := s, pending := p } = R := by cases R; simp_all

/-- What a round leaves to the iterator. -/
theorem left_round {ι : Type} {kl ky l : Nat} {Rb R3 : Loop} {E0 E' : Env} {H1 : Hp} {w w2 : World} {F F2 : Fz} {Ds2 : List Nat} {a : Act} {nt : Nat} {h : HA} (hH : HpOk [(ky, h)] w F) (hFb : ∀ b, F b → b < w.heap.size)
    (hs : SimF { w0 := w, M := footH [(ky, h)], F0 := F, nt := nt } E' ((kl, obj l (.loop Rb)) :: H1) a w2 F2 Ds2) (hk : lkH kl H1 = emp) (henv : ∀ t, (lk t E0).p w F (R3.tmps.getD t undef))
    {res : Nat → ι → AV} {Ho : ι → Hp} (i : ι) {v : Value} (hres : (res w.heap.size i).p (w2.putObj l (.loop R3)) F2 v) (hHo : Ho i = [(ky, HS l R3 E0 H1)]) : Left w F [(ky, h)] res Ho i v F2 (w2.putObj l (.loop R3)) := by
  have hkl : lkH kl ((kl, obj l (.loop Rb)) :: H1) = obj l (.loop Rb) := lkH_same _ _ _
  have hlk : ∀ k, k ≠ kl → lkH k ((kl, obj l (.loop Rb)) :: H1) = lkH k H1 := fun k hne => lkH_other _ _ (Ne.symm hne)
  have hl := hs.hp kl
  rw [hkl] at hl
  have hl : w2.heap[l]? = some (.loop Rb) := hl
  have hlt : l < w2.heap.size := (Array.getElem?_eq_some_iff.1 hl).1
  have hoth : ∀ b, b ≠ l → (w2.putObj l (.loop R3)).heap[b]? = w2.heap[b]? := fun b hb => World.putObj_heap_other hb
  have hlF : ¬ F2 l := hs.hF kl l (by rw [hkl]; rfl)
  have hF2 : ∀ b, F2 b → (w2.putObj l (.loop R3)).heap[b]? = w2.heap[b]? := fun b hb => hoth b (fun e => hlF (e ▸ hb))
  have hHb : ∀ k b, (lkH k H1).foot b → (w2.putObj l (.loop R3)).heap[b]? = w2.heap[b]? := fun k b hb => hoth b (fun e => by
    subst e
    have hne : k ≠ kl := fun e => by subst e; rw [hk] at hb; exact hb
    exact hs.hd k kl b hne (by rw [hlk k hne]; exact hb) (by rw [hkl]; rfl))
  have hM : ∀ b, F b → ¬ footH [(ky, h)] b := fun b hb ⟨k, hf⟩ => hH.hF k b hf hb
  have hww : ∀ b, F b → (w2.putObj l (.loop R3)).heap[b]? = w.heap[b]? := fun b hb => (hF2 b (hs.F0 b hb)).trans (hs.fr b (hFb b hb) (hM b hb))
  have hfoot : ∀ b, (HS l R3 E0 H1).foot b → ∃ k, (lkH k ((kl, obj l (.loop Rb)) :: H1)).foot b := fun b hb => by
    rcases hb with ⟨k, hb⟩ | rfl
    · have hne : k ≠ kl := fun e => by subst e; rw [hk] at hb; exact hb
      exact ⟨k, by rw [hlk k hne]; exact hb⟩
    · exact ⟨kl, by rw [hkl]; rfl⟩
  have hone : ∀ k b, (lkH k (Ho i)).foot b → k = ky ∧ (HS l R3 E0 H1).foot b := fun k b hb => by
    rw [hHo] at hb
    by_cases e : ky = k
    · subst e; rw [lkH_same] at hb; exact ⟨rfl, hb⟩
    · rw [lkH_other _ _ e] at hb; exact hb.elim
  exact {
    res := hres
    ok := {
      hp := fun k => by
        rw [hHo]
        by_cases e : ky = k
        · subst e
          rw [lkH_same]
          refine ⟨fun k => ?_, fun k k' b hne hb hb' => ?_, fun k hb => ?_, World.putObj_heap_same hlt, fun t => (lk t E0).st hs.F0 hww (henv t)⟩
          · by_cases e : k = kl
            · subst e; rw [hk]; trivial
            · have := hs.hp k
              rw [hlk k e] at this
              exact (lkH k H1).st (fun _ h => h) (fun b hb => hb.elim (hF2 b) (hHb k b)) this
          · have e1 : k ≠ kl := fun e => by subst e; rw [hk] at hb; exact hb
            have e2 : k' ≠ kl := fun e => by subst e; rw [hk] at hb'; exact hb'
            exact hs.hd k k' b hne (by rw [hlk k e1]; exact hb) (by rw [hlk k' e2]; exact hb')
          · have e1 : k ≠ kl := fun e => by subst e; rw [hk] at hb; exact hb
            exact hs.hd k kl l e1 (by rw [hlk k e1]; exact hb) (by rw [hkl]; rfl)
        · rw [lkH_other _ _ e]; trivial
      hF := fun k b hb hFb' => by
        obtain ⟨j, hj⟩ := hfoot b (hone k b hb).2
        exact hs.hF j b hj hFb'
      hd := fun k k' b hne hb hb' => absurd ((hone k b hb).1.trans (hone k' b hb').1.symm) hne
      hN := fun k b hb => by
        obtain ⟨j, hj⟩ := hfoot b (hone k b hb).2
        simpa using (hs.hN j b hj).1 }
    sub := hs.F0
    new := fun b hb => by
      obtain ⟨h1, h2⟩ := hs.Fb b hb
      rcases h2 with h2 | h2 | h2
      · exact .inl h2
      · exact .inr (.inl ⟨h2, by simpa using h1⟩)
      · exact .inr (.inr h2)
    foot := fun b ⟨k, hb⟩ => by
      obtain ⟨j, hj⟩ := hfoot b (hone k b hb).2
      exact (hs.hN j b hj).2
    old := fun b hlt' hnf => by
      rw [hoth b (fun e => by
        subst e
        rcases (hs.hN kl b (by rw [hkl]; rfl)).2 with h1 | h1
        · simp only [Base.N] at h1; omega
        · exact hnf h1)]
      exact hs.fr b hlt' hnf
    size := by simpa using hs.Ns
    os := hs.os
    tape := hs.tp
    out := hs.out }

def YY {κ : Type} (l : Nat) (R : Loop) (E : Env) (Hk : κ → Hp) (G : Nat → κ → Prop) (i : Nat) (h : HA) : Prop := ∃ k, G i k ∧ h = HS l R E (Hk k)
def ZZ {κ : Type} (l : Nat) (R : Loop) (E : Env) (Hk : κ → Hp) (S : Code → κ → Prop) (h : HA) : Prop := ∃ k c, S c k ∧ h = HS l { R with state := .done, pending := some c } E (Hk k)

theorem yield_law {κ α : Type} {l kl ky nt : Nat} {R : Loop} (hs0 : R.state = .ready) (hp0 : R.pending = none) {Hk : κ → Hp} {G : Nat → κ → Prop} {S : Code → κ → Prop} {encs : α → List AV} {xs : List α}
    (hR : R.tmps.size = nt) (hps : ∀ p ∈ R.params.toList, p < nt) (hlen : ∀ x, (encs x).length = R.params.size) (hkl : ∀ k, lkH kl (Hk k) = emp)
    (hbody : ∀ i k x, G i k → xs[i]? = some x → ∀ (w1 : World) (M1 F1 : Fz), Ct (some l) P (AQ P { w0 := w1, M := M1, F0 := F1, nt := nt } kl l R Hk (G (i + 1)) S R.body) { w0 := w1, M := M1, F0 := F1, nt := nt } (setAll R.params.toList (encs x) E) ((kl, obj l (.loop R)) :: Hk k) R.assign)
    (i : Nat) (h : HA) (x : α) (hY : YY l R E Hk G i h) (hx : xs[i]? = some x) :
    FnV P (.func (.yield l) #[] #[]) (encs x) [(ky, h)] (ι := Bool × HA) (fun _ bh => andp ((bh.1 = true → YY l R E Hk G (i + 1) bh.2) ∧ (bh.1 = false → ZZ l R E Hk S bh.2)) (bl bh.1)) (fun bh => [(ky, bh.2)]) := by
  obtain ⟨k, hG, rfl⟩ := hY
  intro w F vs hvs hFb hH
  have hp := hH.hp ky
  rw [lkH_same] at hp
  obtain ⟨h1, h2, h3, h4, h5⟩ := hp
  have hvl : vs.length = R.params.size := by rw [hvs.length, hlen x]
  have hrun := run_yield (P := P) (args := vs.toArray) h4 (by simpa using hvl)
  refine .inr ⟨l, R.fn, _, R.assign, R.body, by simp only [Deferred.ofValue, Sem.run_bind, Sem.run_pure, Result.andThen_ok, invoke, Array.empty_append]; exact hrun, ?_⟩
  refine roundIn_of_wpIn (F := FW none) (n := 0) trivial ?_
  obtain ⟨g1, g2⟩ := setAll_env (w := w) (F := F) R.params.toList (encs x) vs E R.tmps hR hps hvs (by simp [hlen x]) h5
  have hfold : (R.params.zip vs.toArray).foldl (fun tmps (t, a) => tmps.setIfInBounds t a) R.tmps = (R.params.toList.zip vs).foldl (fun t (x : Nat × Value) => t.setIfInBounds x.1 x.2) R.tmps := by
    rw [← Array.foldl_toList]; simp
  have hkk : ∀ k', k' ≠ kl → lkH k' ((kl, obj l (.loop R)) :: Hk k) = lkH k' (Hk k) := fun k' hne => lkH_other _ _ (Ne.symm hne)
  have hkl' : lkH kl ((kl, obj l (.loop R)) :: Hk k) = obj l (.loop R) := lkH_same _ _ _
  have hf : ∀ k' b, (lkH k' ((kl, obj l (.loop R)) :: Hk k)).foot b → (HS l R E (Hk k)).foot b := fun k' b hb => by
    by_cases e : k' = kl
    · subst e; rw [hkl'] at hb; exact .inr hb
    · rw [hkk k' e] at hb; exact .inl ⟨k', hb⟩
  have hfl : ∀ b, (HS l R E (Hk k)).foot b → (lkH ky [(ky, HS l R E (Hk k))]).foot b := fun b hb => by rw [lkH_same]; exact hb
  have hsim : SimF { w0 := w, M := footH [(ky, HS l R E (Hk k))], F0 := F, nt := nt } (setAll R.params.toList (encs x) E) ((kl, obj l (.loop R)) :: Hk k) { tmps := (R.params.toList.zip vs).foldl (fun t (x : Nat × Value) => t.setIfInBounds x.1 x.2) R.tmps, defers := [] } w F [] := {
    sz := g1
    env := g2
    hp := fun k' => by
      by_cases e : k' = kl
      · subst e; rw [hkl']; exact h4
      · rw [hkk k' e]; exact h1 k'
    hF := fun k' b hb => hH.hF ky b (hfl b (hf k' b hb))
    hd := fun k' k'' b hne hb hb' => by
      by_cases e : k' = kl
      · subst e
        rw [hkl'] at hb; rw [hkk k'' (Ne.symm hne)] at hb'
        have hb : b = l := hb
        subst hb; exact h3 k'' hb'
      · by_cases e' : k'' = kl
        · subst e'
          rw [hkl'] at hb'; rw [hkk k' e] at hb
          have hb' : b = l := hb'
          subst hb'; exact h3 k' hb
        · rw [hkk k' e] at hb; rw [hkk k'' e'] at hb'
          exact h2 k' k'' b hne hb hb'
    hN := fun k' b hb => ⟨hH.hN ky b (hfl b (hf k' b hb)), .inr ⟨ky, hfl b (hf k' b hb)⟩⟩
    Fb := fun b hb => ⟨hFb b hb, .inl hb⟩
    F0 := fun _ h => h
    Ns := Nat.le_refl _
    fr := fun _ _ _ => rfl
    os := rfl
    tp := rfl
    out := rfl
    df := rfl
    dn := List.nodup_nil
    dD := fun D hD => by simp at hD }
  rw [hfold]
  refine wpIn_mono (hbody i k x hG hx w (footH [(ky, HS l R E (Hk k))]) F _ _ ⟨F, [], hsim⟩) (fun e a1 w1 hq => ?_)
  cases e with
  | normal =>
    obtain ⟨w2, hbr, hb⟩ := hq
    refine ⟨w2, hbr, wpIn_mono hb (fun e a2 w3 hq => ?_)⟩
    have stop : ∀ (c : Code) (k' : κ) (E2 : Env), S c k' → Sim { w0 := w, M := footH [(ky, HS l R E (Hk k))], F0 := F, nt := nt } E2 ((kl, obj l (.loop { R with state := .busy })) :: Hk k') a2 w3 →
        ∃ v w', (Instr.endRound l (some c)).run P w3 = .ok v w' ∧ ∃ (i_1 : Bool × HA) (u : Value) (F' : Fz), Ending.returned v = .returned u ∧ Left w F [(ky, HS l R E (Hk k))] (fun _ (bh : Bool × HA) => andp ((bh.1 = true → YY l R E Hk G (i + 1) bh.2) ∧ (bh.1 = false → ZZ l R E Hk S bh.2)) (bl bh.1)) (fun bh => [(ky, bh.2)]) i_1 u F' w' := by
      intro c k' E2 hS ⟨F2, Ds2, hs2⟩
      have hl := hs2.hp kl
      rw [lkH_same] at hl
      have hrun := run_endRound (P := P) (some c) (show w3.heap[l]? = some (.loop { R with state := .busy }) from hl)
      refine ⟨_, _, hrun, (false, HS l { R with state := .done, pending := some c } E (Hk k')), _, F2, rfl, ?_⟩
      exact left_round (R3 := { R with state := .done, pending := some c }) hH hFb hs2 (hkl k') h5 _ ⟨⟨fun h => (by cases h), fun _ => ⟨k', c, hS, rfl⟩⟩, rfl⟩ rfl
    cases e with
    | normal =>
      obtain ⟨k', g', E2, F2, Ds2, hs2⟩ := hq
      have hl := hs2.hp kl
      rw [lkH_same] at hl
      have hrun := run_endRound (P := P) none (show w3.heap[l]? = some (.loop { R with state := .busy }) from hl)
      have heq : ({ R with state := .ready, pending := none } : Loop) = R := loop_eta R hs0 hp0
      refine ⟨_, _, hrun, (true, HS l R E (Hk k')), _, F2, rfl, ?_⟩
      have := left_round (R3 := R) (Ho := fun (bh : Bool × HA) => [(ky, bh.2)]) (res := fun _ (bh : Bool × HA) => andp ((bh.1 = true → YY l R E Hk G (i + 1) bh.2) ∧ (bh.1 = false → ZZ l R E Hk S bh.2)) (bl bh.1)) (v := .bool true) hH hFb hs2 (hkl k') h5 (true, HS l R E (Hk k')) ⟨⟨fun _ => ⟨k', g', rfl⟩, fun h => (by cases h)⟩, rfl⟩ rfl
      simp only [Option.isNone_none, if_true] at *
      rw [heq]; exact this
    | ret => obtain ⟨k', g', E2, hs2⟩ := hq; exact stop .ret k' E2 g' hs2
    | exit id => obtain ⟨k', g', E2, hs2⟩ := hq; exact stop (.exit id) k' E2 g' hs2
    | _ => exact hq.elim
  | _ => exact hq.elim

theorem SimF.newD (h : SimF B E H a w F Ds) : SimF B E H { a with defers := { target := .collected w.heap.size, args := #[] } :: a.defers } (w.alloc (.deferred (some []))) F (w.heap.size :: Ds) :=
  have h0 := h.grow (w' := w.alloc (.deferred (some []))) (F' := F) (by simp) rfl rfl rfl (fun b hb => heap_alloc w _ hb) (fun _ h => h) (fun _ h => .inl h)
  { h0 with
    df := by simp [h.df]
    dn := List.nodup_cons.2 ⟨fun hm => by
      have := (Array.getElem?_eq_some_iff.1 (h.dD _ hm).1).1
      omega, h.dn⟩
    dD := fun D hD => by
      rcases List.mem_cons.1 hD with rfl | hD
      · exact ⟨heap_new _ _, fun hF => by have := (h.Fb _ hF).1; omega, h.Ns, fun k hk => by have := (h.hN k _ hk).1; omega⟩
      · exact h0.dD D hD }

/-- A RANGE OVER A FUNCTION at an activation's own level. -/
theorem rf {κ α : Type} {g : Operand} {ps : Array Tmp} {assign body : Code} {f : FuncId} {cs : List AV} {encs : α → List AV} {xs : List α} (kl : Nat) (Hk : κ → Hp) (G : Nat → κ → Prop) (S : Code → κ → Prop)
    (hg : lkO g E = clo f cs) (hit : It P f cs encs xs) (he : Ent P f) (hps : (ps.toList.all fun p => Nat.blt p B.nt) = true) (hlen : ∀ x, (encs x).length = ps.size) (hkl : ∀ k, lkH kl (Hk k) = emp)
    (k0 : κ) (g0 : G 0 k0) (hH : SubH (Hk k0) H)
    (hbody : ∀ i k x, G i k → xs[i]? = some x → ∀ (l : Nat) (R : Loop) (w1 : World) (M1 F1 : Fz), R.state = .ready → Ct (some l) P (AQ P { w0 := w1, M := M1, F0 := F1, nt := B.nt } kl l R Hk (G (i + 1)) S body) { w0 := w1, M := M1, F0 := F1, nt := B.nt } (setAll ps.toList (encs x) E) ((kl, obj l (.loop R)) :: Hk k) assign)
    (hdone : ∀ k, G xs.length k → At Q .normal B E (Hk k)) (hret : ∀ k, S .ret k → At Q .ret B E (Hk k)) (hexit : ∀ id k, S (.exit id) k → At Q (.exit id) B E (Hk k)) (hother : ∀ c k, S c k → c = .ret ∨ ∃ id, c = .exit id) :
    Ct none P Q B E H (.rangeFunc g ps assign body) := fun a w hs0 => by
  obtain ⟨F, Ds, hs⟩ := hs0.less (E' := E) (fun _ _ _ _ h => h) hH.less
  refine wpIn_rangeFunc (fun fn _ => ?_)
  -- the blocks
  have hD := hs.newD
  let R : Loop := { state := .ready, pending := none, fn := fn, tmps := a.tmps, params := ps, assign := assign, body := body, defers := w.heap.size }
  have hw1 : (w.alloc (.deferred (some []))).heap.size = w.heap.size + 1 := by simp
  have hL := hD.alloc kl (obj (w.heap.size + 1) (.loop R)) (.loop R) (fun b hb => by have hb : b = w.heap.size + 1 := hb; omega) (by
    show ((w.alloc (.deferred (some []))).alloc (.loop R)).heap[w.heap.size + 1]? = some (.loop R)
    rw [← hw1]; exact heap_new _ _)
  have hp := hL.pack (ky := 0) rfl (hkl k0) (E0 := E) (fun t => hL.env t)
  -- the function
  have hgv := hs.opd g
  rw [hg] at hgv
  obtain ⟨us, hgv, hus⟩ := hgv
  have hus2 : All2 ((w.alloc (.deferred (some []))).alloc (.loop R)) F cs us := hD.stays _ (hs.stays _ hus)
  have hinv : (invoke (.fn (.func f) us.toArray) #[.func (.yield (w.heap.size + 1)) #[] #[]]).run P ((w.alloc (.deferred (some []))).alloc (.loop R)) = .ok (.enter f (#[.func (.yield (w.heap.size + 1)) #[] #[]] ++ us.toArray)) ((w.alloc (.deferred (some []))).alloc (.loop R)) := by
    simp only [invoke]; exact he.run _ _
  refine ⟨w.heap.size + 1, _, _, { target := .fn (.func f) us.toArray, args := #[.func (.yield (w.heap.size + 1)) #[] #[]] }, (w.alloc (.deferred (some []))).alloc (.loop R), f, #[.func (.yield (w.heap.size + 1)) #[] #[]] ++ us.toArray, (w.alloc (.deferred (some []))).alloc (.loop R), run_enterLoop_outer fn a.tmps ps assign body, ?_, fun _ _ => trivial, hinv, fun h => (by simp at h), ?_⟩
  · have hev : #[Operand.const (Value.func (.yield (w.heap.size + 1)) #[] #[])].map a.eval = #[Value.func (.yield (w.heap.size + 1)) #[] #[]] := by simp [Act.eval]
    simp only [resolve, hgv, Deferred.ofValue, hev, Sem.run_bind, Sem.run_pure, Result.andThen_ok]
    simp [R]
  have hfn := hit (.func (.yield (w.heap.size + 1)) #[] #[]) (YY (w.heap.size + 1) R E Hk G) (ZZ (w.heap.size + 1) R E Hk S)
    (fun i h x hY hx => yield_law (nt := B.nt) (kl := kl) rfl rfl hs.sz (fun p hp' => by
      have := (List.all_eq_true.1 hps) p hp'
      simpa using this) hlen hkl (fun i k x hG hx w1 M1 F1 => hbody i k x hG hx _ R w1 M1 F1 rfl) i h x hY hx)
    (HS (w.heap.size + 1) R E (Hk k0)) ⟨k0, g0, rfl⟩
  have hc := hfn _ F (.func (.yield (w.heap.size + 1)) #[] #[] :: us) ⟨rfl, hus2⟩ (fun b hb => (hp.Fb b hb).1) ⟨hp.hp, hp.hF, hp.hd, fun k b hb => (hp.hN k b hb).1⟩
  have hargs : #[Value.func (.yield (w.heap.size + 1)) #[] #[]] ++ us.toArray = (Value.func (.yield (w.heap.size + 1)) #[] #[] :: us).toArray := by simp
  rw [hargs]
  refine CallsIn.mono (F := FW none) ((callsIn_wide (n := 0)).2 hc) (fun e w3 hR => ?_)
  obtain ⟨h', u, F', rfl, hl⟩ := hR
  have hcall := hp.called (Hi := [(0, HS (w.heap.size + 1) R E (Hk k0))]) ⟨⟨rfl, id⟩, trivial⟩ hl
  have hlk : lkH 0 (outH [(0, h')] [(0, HS (w.heap.size + 1) R E (Hk k0))] [(0, HS (w.heap.size + 1) R E (Hk k0))]) = h' := lkH_same _ _ _
  obtain ⟨hYZ, _⟩ := hl.res
  have fin : ∀ (k : κ) (R3 : Loop), h' = HS (w.heap.size + 1) R3 E (Hk k) → R3.state ≠ .busy → ∃ w4, (Instr.endLoop (w.heap.size + 1)).run P w3 = .ok R3.pending w4 ∧
      Sim B E (Hk k) { a with defers := [{ target := .collected w.heap.size, args := #[] }] ++ a.defers } w4 := by
    intro k R3 he hb
    have hun := hcall.unpack (kl := kl) (by rw [hlk]; exact he) (hkl k)
    have hl3 := hun.hp kl
    rw [lkH_same] at hl3
    have hl3 : w3.heap[w.heap.size + 1]? = some (.loop R3) := hl3
    have hlt : w.heap.size + 1 < w3.heap.size := (Array.getElem?_eq_some_iff.1 hl3).1
    refine ⟨_, run_endLoop hl3 hb, ?_⟩
    have hup := hun.upd (w' := w3.putObj (w.heap.size + 1) (.loop { R3 with state := .exhausted })) kl (obj (w.heap.size + 1) (.loop { R3 with state := .exhausted })) (by simp) rfl rfl rfl
      (fun b hb' hnf => World.putObj_heap_other (fun e => hnf (by rw [lkH_same]; exact e))) (fun b hb' => ⟨.inl (by rw [lkH_same]; exact hb'), by have hb' : b = w.heap.size + 1 := hb'; subst hb'; simpa using hlt⟩) (World.putObj_heap_same hlt)
    refine Sim.less ⟨_, _, hup⟩ (fun _ _ _ _ h => h) (fun t => ?_)
    by_cases e : t = kl
    · subst e; rw [hkl k]; exact ⟨fun b h => h.elim, fun _ => trivial⟩
    · rw [lkH_other _ _ (Ne.symm e), lkH_other _ _ (Ne.symm e)]; exact ⟨fun _ h => h, fun h => h⟩
  rcases hYZ with ⟨k, hG, he⟩ | ⟨k, c, hS, he⟩
  · obtain ⟨w4, hend, hsim⟩ := fin k R he (by simp [R])
    exact ⟨none, w4, hend, hdone k hG _ _ hsim⟩
  · obtain ⟨w4, hend, hsim⟩ := fin k _ he (by simp)
    refine ⟨some c, w4, hend, ?_⟩
    rcases hother c k hS with rfl | ⟨id, rfl⟩
    · exact wpIn_ret (hret k hS _ _ hsim)
    · exact wpIn_exit (hexit id k hS _ _ hsim)
end
attribute [irreducible] HS
end AL
