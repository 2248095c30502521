/- The abstract logic, part 7: the rules over what is known. Under no conditions: general lemmas. (Printed by gen_st.py from the rules' own headers, behind a part typed by hand.) -/
import Derived.Test.YtolpjmllmlahfaaDoorALNest
set_option linter.unusedVariables false
namespace AL
open Go
attribute [local semireducible] any eqv agg tup fp ptr sl exi andp above emp cell own obj osl eptr

/-- From what is known on, the operations achieve Q. -/
def St (r : Option Nat) (P : Program) (ops : Array Oper) (Q : Exit → Act → World → Prop) (B : Base) (E : Env) (H : Hp) (rest : List Oper) : Prop := ∀ a w, Sim B E H a w → wl r P ops Q rest a w
def Ct (r : Option Nat) (P : Program) (Q : Exit → Act → World → Prop) (B : Base) (E : Env) (H : Hp) (c : Code) : Prop := ∀ a w, Sim B E H a w → c.wpIn (FW r) 0 P Q a w
def At (Q : Exit → Act → World → Prop) (e : Exit) (B : Base) (E : Env) (H : Hp) : Prop := ∀ a w, Sim B E H a w → Q e a w

section
variable {P : Program} {r : Option Nat} {ops : Array Oper} {Q : Exit → Act → World → Prop} {rest : List Oper} {B : Base} {E : Env} {H : Hp}
variable {d ty : Nat} {pos : String} {af : Array Edge} {ι : Type} {a : Act} {w : World}

theorem rg {id : Nat} {l : List Oper} (h : St r P l.toArray Q B E H l) : Ct r P Q B E H (.region id l.toArray false) := fun a w hs => c_region (h a w hs)
theorem nl (h : At Q .normal B E H) : St r P ops Q B E H [] := h
theorem sq {x y : Code} (h : Ct r P (Exit.then (fun a w => y.wpIn (FW r) 0 P Q a w) Q) B E H x) : Ct r P Q B E H (.seq x y) := fun a w hs => wpIn_seq (h a w hs)
theorem th {y : Code} (h : Ct r P Q B E H y) : At (Exit.then (fun a w => y.wpIn (FW r) 0 P Q a w) Q) .normal B E H := h
theorem bk {id : Nat} {c : Code} (h : Ct r P (Exit.inBlock id Q) B E H c) : Ct r P Q B E H (.block id c) := fun a w hs => wpIn_block (h a w hs)
theorem eb {id : Nat} (h : At Q .normal B E H) : At (Exit.inBlock id Q) .normal B E H := h
theorem xb {id : Nat} (h : At Q .normal B E H) : At (Exit.inBlock id Q) (.exit id) B E H := fun a w hs => by show (if id = id then _ else _); rw [if_pos rfl]; exact h a w hs
theorem xo {id id' : Nat} (hne : Nat.beq id' id = false) (h : At Q (.exit id') B E H) : At (Exit.inBlock id Q) (.exit id') B E H := fun a w hs => by
  show (if id' = id then _ else _)
  rw [if_neg (fun e => by subst e; simp at hne)]; exact h a w hs
theorem xt_ {id : Nat} {K : Act → World → Prop} (h : At Q (.exit id) B E H) : At (Exit.then K Q) (.exit id) B E H := h
theorem rt_ {K : Act → World → Prop} (h : At Q .ret B E H) : At (Exit.then K Q) .ret B E H := h
theorem rb {id : Nat} (h : At Q .ret B E H) : At (Exit.inBlock id Q) .ret B E H := h
theorem sk (h : At Q .normal B E H) : Ct r P Q B E H .skip := fun a w hs => wpIn_skip (h a w hs)
theorem ex {id : Nat} (h : At Q (.exit id) B E H) : Ct r P Q B E H (.exit id) := fun a w hs => wpIn_exit (h a w hs)
theorem rt (h : At Q .ret B E H) : Ct r P Q B E H .ret := fun a w hs => wpIn_ret (h a w hs)
theorem cd {c : Operand} {x y : Code} {b : Bool} (hc : lkO c E = bl b) (ht : b = true → Ct r P Q B E H x) (hf : b = false → Ct r P Q B E H y) : Ct r P Q B E H (.cond c x y) :=
  fun a w hs => c_cond hs hc (fun h => ht h a w hs) (fun h => hf h a w hs)
theorem lp {κ : Type} (Ei : κ → Env) (Hi : κ → Hp) (G : κ → Prop) (μ : κ → Nat) (k0 : κ) (g0 : G k0) (hE : Sub (Ei k0) E) (hH : SubH (Hi k0) H) {c : Code}
    (round : ∀ k, G k → Ct r P (Exit.then (fun a' w' => ∃ k', G k' ∧ μ k' < μ k ∧ Sim B (Ei k') (Hi k') a' w') Q) B (Ei k) (Hi k) c) : Ct r P Q B E H (.loop c) :=
  fun a w hs => c_loop Ei Hi G μ k0 g0 (hs.weak hE hH) (fun k a w g h => round k g a w h)
theorem ln {κ : Type} {Ei : κ → Env} {Hi : κ → Hp} {G : κ → Prop} {μ : κ → Nat} {k : κ} (k' : κ) (g : G k') (hμ : μ k' < μ k) (hE : Sub (Ei k') E) (hH : SubH (Hi k') H) :
    At (Exit.then (fun a' w' => ∃ k', G k' ∧ μ k' < μ k ∧ Sim B (Ei k') (Hi k') a' w') Q) .normal B E H := fun _ _ hs => ⟨k', g, hμ, hs.weak hE hH⟩
/-- Where ways meet again. -/
theorem jn {κ : Type} (Ej : κ → Env) (Hj : κ → Hp) (G : κ → Prop) {c : Code} (h1 : Ct r P (Exit.then (fun a w => ∃ k, G k ∧ Sim B (Ej k) (Hj k) a w) Q) B E H c) (h2 : ∀ k, G k → At Q .normal B (Ej k) (Hj k)) :
    Ct r P Q B E H c := fun a w hs => wpIn_mono (h1 a w hs) (fun e a' w' hq => by
  cases e with
  | normal => obtain ⟨k, g, h⟩ := hq; exact h2 k g a' w' h
  | _ => exact hq)
theorem jx {κ : Type} {Ej : κ → Env} {Hj : κ → Hp} {G : κ → Prop} (k : κ) (g : G k) (hE : Sub (Ej k) E) (hH : SubH (Hj k) H) : At (Exit.then (fun a w => ∃ k, G k ∧ Sim B (Ej k) (Hj k) a w) Q) .normal B E H :=
  fun _ _ hs => ⟨k, g, hs.weak hE hH⟩
theorem wk {E' : Env} {H' : Hp} (hE : Sub E' E) (hH : SubH H' H) (k : St r P ops Q B E' H' rest) : St r P ops Q B E H rest := fun a w hs => k a w (hs.weak hE hH)
theorem wkC {E' : Env} {H' : Hp} {c : Code} (hE : Sub E' E) (hH : SubH H' H) (k : Ct r P Q B E' H' c) : Ct r P Q B E H c := fun a w hs => k a w (hs.weak hE hH)
theorem wkA {E' : Env} {H' : Hp} {e : Exit} (hE : Sub E' E) (hH : SubH H' H) (k : At Q e B E' H') : At Q e B E H := fun a w hs => k a w (hs.weak hE hH)
theorem r1 {fn : Func} {t : Nat} {res : Nat → ι → AV} {Ho : ι → Hp} {e : Exit} (i : ι) (hr : fn.results = #[.tmp t]) (hφ : ∀ {w F v}, (lk t E).p w F v → (res B.N i).p w F v) (hH : SubH (Ho i) H) (he : e = .normal ∨ e = .ret) :
    At (RetOK P fn B res Ho) e B E H := fun _ _ hs => ret1 hs i hr hφ hH he

theorem r0 {fn : Func} {res : Nat → ι → AV} {Ho : ι → Hp} {e : Exit} (i : ι) (hr : fn.results = #[]) (hφ : ∀ {w F v}, (tup []).p w F v → (res B.N i).p w F v) (hH : SubH (Ho i) H) (he : e = .normal ∨ e = .ret) :
    At (RetOK P fn B res Ho) e B E H := fun a w h => by
  obtain ⟨F, Ds, hs⟩ := h.less (E' := E) (H' := Ho i) (fun _ _ _ _ h => h) hH.less
  have : ∃ i F Ds E, SimF B E (Ho i) a w F Ds ∧ ∃ v, (∀ w', (∀ b, b ∉ Ds → w'.heap[b]? = w.heap[b]?) → (results fn a.tmps).run P w' = .ok v w') ∧ (res B.N i).p w F v :=
    ⟨i, F, Ds, E, hs, .tuple #[], fun w' _ => by simp [results, hr], hφ ⟨[], rfl, trivial⟩⟩
  rcases he with rfl | rfl <;> exact this
theorem r2 {fn : Func} {t u : Nat} {res : Nat → ι → AV} {Ho : ι → Hp} {e : Exit} (i : ι) (hr : fn.results = #[.tmp t, .tmp u]) (hφ : ∀ {w F v}, (tup [lk t E, lk u E]).p w F v → (res B.N i).p w F v) (hH : SubH (Ho i) H) (he : e = .normal ∨ e = .ret) :
    At (RetOK P fn B res Ho) e B E H := fun a w h => by
  obtain ⟨F, Ds, hs⟩ := h.less (E' := E) (H' := Ho i) (fun _ _ _ _ h => h) hH.less
  have : ∃ i F Ds E, SimF B E (Ho i) a w F Ds ∧ ∃ v, (∀ w', (∀ b, b ∉ Ds → w'.heap[b]? = w.heap[b]?) → (results fn a.tmps).run P w' = .ok v w') ∧ (res B.N i).p w F v :=
    ⟨i, F, Ds, E, hs, .tuple #[a.tmps.getD t undef, a.tmps.getD u undef], fun w' _ => by simp [results, hr], hφ ⟨[a.tmps.getD t undef, a.tmps.getD u undef], rfl, ⟨hs.env t, hs.env u, trivial⟩⟩⟩
  rcases he with rfl | rfl <;> exact this
theorem r3 {fn : Func} {t u x : Nat} {res : Nat → ι → AV} {Ho : ι → Hp} {e : Exit} (i : ι) (hr : fn.results = #[.tmp t, .tmp u, .tmp x]) (hφ : ∀ {w F v}, (tup [lk t E, lk u E, lk x E]).p w F v → (res B.N i).p w F v) (hH : SubH (Ho i) H) (he : e = .normal ∨ e = .ret) :
    At (RetOK P fn B res Ho) e B E H := fun a w h => by
  obtain ⟨F, Ds, hs⟩ := h.less (E' := E) (H' := Ho i) (fun _ _ _ _ h => h) hH.less
  have : ∃ i F Ds E, SimF B E (Ho i) a w F Ds ∧ ∃ v, (∀ w', (∀ b, b ∉ Ds → w'.heap[b]? = w.heap[b]?) → (results fn a.tmps).run P w' = .ok v w') ∧ (res B.N i).p w F v :=
    ⟨i, F, Ds, E, hs, .tuple #[a.tmps.getD t undef, a.tmps.getD u undef, a.tmps.getD x undef], fun w' _ => by simp [results, hr], hφ ⟨[a.tmps.getD t undef, a.tmps.getD u undef, a.tmps.getD x undef], rfl, ⟨hs.env t, hs.env u, hs.env x, trivial⟩⟩⟩
  rcases he with rfl | rfl <;> exact this
theorem r4 {fn : Func} {t u x y : Nat} {res : Nat → ι → AV} {Ho : ι → Hp} {e : Exit} (i : ι) (hr : fn.results = #[.tmp t, .tmp u, .tmp x, .tmp y]) (hφ : ∀ {w F v}, (tup [lk t E, lk u E, lk x E, lk y E]).p w F v → (res B.N i).p w F v) (hH : SubH (Ho i) H) (he : e = .normal ∨ e = .ret) :
    At (RetOK P fn B res Ho) e B E H := fun a w h => by
  obtain ⟨F, Ds, hs⟩ := h.less (E' := E) (H' := Ho i) (fun _ _ _ _ h => h) hH.less
  have : ∃ i F Ds E, SimF B E (Ho i) a w F Ds ∧ ∃ v, (∀ w', (∀ b, b ∉ Ds → w'.heap[b]? = w.heap[b]?) → (results fn a.tmps).run P w' = .ok v w') ∧ (res B.N i).p w F v :=
    ⟨i, F, Ds, E, hs, .tuple #[a.tmps.getD t undef, a.tmps.getD u undef, a.tmps.getD x undef, a.tmps.getD y undef], fun w' _ => by simp [results, hr], hφ ⟨[a.tmps.getD t undef, a.tmps.getD u undef, a.tmps.getD x undef, a.tmps.getD y undef], rfl, ⟨hs.env t, hs.env u, hs.env x, hs.env y, trivial⟩⟩⟩
  rcases he with rfl | rfl <;> exact this

/-- Ends, with what is left spelled. -/
theorem r1e {fn : Func} {t : Nat} {res : Nat → ι → AV} {Ho : ι → Hp} {e : Exit} (i : ι) (hr : fn.results = #[.tmp t]) {ψ : AV} (hx : lk t E = ψ) (he : ψ = res B.N i) (hH : SubH (Ho i) H) (hn : e = .normal ∨ e = .ret) : At (RetOK P fn B res Ho) e B E H :=
  r1 i hr (fun {w F v} h => by rw [hx, he] at h; exact h) hH hn
def LkAll (E : Env) : List Nat → List AV → Prop
  | [], [] => True
  | t :: ts, ψ :: ψs => lk t E = ψ ∧ LkAll E ts ψs
  | _, _ => False
theorem r2e {fn : Func} {t u : Nat} {res : Nat → ι → AV} {Ho : ι → Hp} {e : Exit} (i : ι) (hr : fn.results = #[.tmp t, .tmp u]) {ψs : List AV} (hx : LkAll E [t, u] ψs) (he : tup ψs = res B.N i) (hH : SubH (Ho i) H) (hn : e = .normal ∨ e = .ret) : At (RetOK P fn B res Ho) e B E H :=
  r2 i hr (fun {w F v} h => by
    match ψs, hx with
    | [_, _], ⟨h1, h2, _⟩ => rw [h1, h2, he] at h; exact h) hH hn
theorem r3e {fn : Func} {t u x : Nat} {res : Nat → ι → AV} {Ho : ι → Hp} {e : Exit} (i : ι) (hr : fn.results = #[.tmp t, .tmp u, .tmp x]) {ψs : List AV} (hx : LkAll E [t, u, x] ψs) (he : tup ψs = res B.N i) (hH : SubH (Ho i) H) (hn : e = .normal ∨ e = .ret) : At (RetOK P fn B res Ho) e B E H :=
  r3 i hr (fun {w F v} h => by
    match ψs, hx with
    | [_, _, _], ⟨h1, h2, h3, _⟩ => rw [h1, h2, h3, he] at h; exact h) hH hn
/-- What the results are: slots, or cells of own variables. -/
inductive ResIs (P : Program) (E : Env) (H : Hp) : ResultVar → AV → Prop
  | tmp {t : Nat} {ψ : AV} (h : lk t E = ψ) : ResIs P E H (.tmp t) ψ
  | agg {t T key b n : Nat} {cs : List AV} {ψ : AV} (h : lk t E = ptr key b 0) (hk : lkH key H = cell b cs) (hT : IsAgg P T n) (hn : Nat.ble n cs.length = true) (he : AL.agg (cs.take n) = ψ) : ResIs P E H (.cell t T) ψ
  | one {t T key b : Nat} {cs : List AV} {φ : AV} (h : lk t E = ptr key b 0) (hk : lkH key H = cell b cs) (hT : IsOne P T) (hc : cs[0]? = some φ) : ResIs P E H (.cell t T) φ
def ResAll (P : Program) (E : Env) (H : Hp) : List ResultVar → List AV → Prop
  | [], [] => True
  | x :: xs, φ :: φs => ResIs P E H x φ ∧ ResAll P E H xs φs
  | _, _ => False
def resv (tmps : Array Value) (x : ResultVar) : Sem Value := match x with
  | .tmp t => pure (tmps.getD t undef)
  | .cell a t => do loadVar t (← asAddr (tmps.getD a undef))
theorem resIs_run {a : Act} {w : World} {F : Fz} {Ds : List Nat} (hs : SimF B E H a w F Ds) {x : ResultVar} {ψ : AV} (h : ResIs P E H x ψ) : ∃ v, (∀ w', (∀ b, b ∉ Ds → w'.heap[b]? = w.heap[b]?) → (resv a.tmps x).run P w' = .ok v w') ∧ ψ.p w F v := by
  cases h with
  | tmp h => exact ⟨_, fun w' _ => by simp only [resv, Sem.run_pure], h ▸ hs.env _⟩
  | agg h hk hT hn he =>
    rename_i t T key b n cs
    subst he
    have h1 := hs.env t
    rw [h] at h1
    have h1 : a.tmps.getD t undef = .pointer (some ⟨b, 0, none⟩) := h1
    have h2 := hs.hp key
    rw [hk] at h2
    obtain ⟨vs, hr, ha⟩ := cell_rd h2 0
    have hb : b ∉ Ds := fun hD => (hs.dD b hD).2.2.2 key (by rw [hk]; rfl)
    have hle : n ≤ cs.length := by simpa using hn
    have hlen : (vs.take n).length = n := by
      have := ha.length
      simp at this ⊢; omega
    refine ⟨.agg (vs.take n).toArray, fun w' hw => ?_, vs.take n, rfl, by simpa using ha.take n⟩
    simp only [resv, h1, asAddr, Sem.run_bind, Sem.run_pure, Result.andThen_ok, run_loadVar_agg hT ((hr.take n).st (hw b hb)) hlen]
  | one h hk hT hc =>
    rename_i t T key b cs
    have h1 := hs.env t
    rw [h] at h1
    have h1 : a.tmps.getD t undef = .pointer (some ⟨b, 0, none⟩) := h1
    have h2 := hs.hp key
    rw [hk] at h2
    obtain ⟨vs, hr, ha⟩ := cell_rd h2 0
    have hb : b ∉ Ds := fun hD => (hs.dD b hD).2.2.2 key (by rw [hk]; rfl)
    obtain ⟨v, hv, hp⟩ := ha.get (i := 0) (by simpa using hc)
    refine ⟨v, fun w' hw => ?_, hp⟩
    simp only [resv, h1, asAddr, Sem.run_bind, Sem.run_pure, Result.andThen_ok, run_loadVar_one hT ((hr.st (hw b hb)).cell hv)]
theorem resAll_run {a : Act} {w : World} {F : Fz} {Ds : List Nat} (hs : SimF B E H a w F Ds) : ∀ {rs : List ResultVar} {ψs : List AV}, ResAll P E H rs ψs → ∃ vs : List Value, (∀ w', (∀ b, b ∉ Ds → w'.heap[b]? = w.heap[b]?) → (rs.mapM (resv a.tmps)).run P w' = .ok vs w') ∧ All2 w F ψs vs
  | [], [], _ => ⟨[], fun _ _ => rfl, trivial⟩
  | x :: xs, φ :: φs, h => by
    obtain ⟨v, h1, h2⟩ := resIs_run hs h.1
    obtain ⟨vs, h3, h4⟩ := resAll_run hs h.2
    exact ⟨v :: vs, fun w' hw => by simp only [List.mapM_cons, Sem.run_bind, h1 w' hw, Result.andThen_ok, h3 w' hw, Sem.run_pure], h2, h4⟩
  | [], _ :: _, h => h.elim
  | _ :: _, [], h => h.elim
def resAV : List AV → AV
  | [ψ] => ψ
  | ψs => tup ψs
theorem rE {fn : Func} {res : Nat → ι → AV} {Ho : ι → Hp} {e : Exit} (i : ι) (rs : List ResultVar) (hr : fn.results = rs.toArray) (ψs : List AV) (hx : ResAll P E H rs ψs) (he : resAV ψs = res B.N i) (hH : SubH (Ho i) H) (hn : e = .normal ∨ e = .ret) :
    At (RetOK P fn B res Ho) e B E H := fun a w h => by
  obtain ⟨F, Ds, hs0⟩ := h
  obtain ⟨vs, h1, h2⟩ := resAll_run hs0 hx
  have hlen := h2.length
  obtain ⟨F', Ds', hs⟩ := (Sim.less (E' := E) (H' := Ho i) ⟨F, Ds, hs0⟩ (fun _ _ _ _ h => h) hH.less : Sim B E (Ho i) a w)
  have key : ∃ i F Ds E, SimF B E (Ho i) a w F Ds ∧ ∃ v, (∀ w', (∀ b, b ∉ Ds → w'.heap[b]? = w.heap[b]?) → (results fn a.tmps).run P w' = .ok v w') ∧ (res B.N i).p w F v := by
    have hs2 : SimF B E (Ho i) a w F Ds := { hs0 with
      hp := fun k => ((hH.less) k).2 (hs0.hp k)
      hF := fun k b hb => hs0.hF k b (((hH.less) k).1 b hb)
      hd := fun k k' b e hb hb' => hs0.hd k k' b e (((hH.less) k).1 b hb) (((hH.less) k').1 b hb')
      hN := fun k b hb => hs0.hN k b (((hH.less) k).1 b hb)
      dD := fun D hD => by
        obtain ⟨g1, g2, g3, g4⟩ := hs0.dD D hD
        exact ⟨g1, g2, g3, fun k hk => g4 k (((hH.less) k).1 D hk)⟩ }
    have hrun : ∀ w', (∀ b, b ∉ Ds → w'.heap[b]? = w.heap[b]?) → (results fn a.tmps).run P w' = .ok (if h : vs.toArray.size = 1 then vs.toArray[0] else .tuple vs.toArray) w' := fun w' hw => by
      have h3 := h1 w' hw
      have : (rs.toArray.mapM (resv a.tmps)).run P w' = .ok vs.toArray w' := by
        rw [List.mapM_toArray]; simp only [Sem.run_map, h3, Result.andThen_ok]
      unfold results
      rw [hr]
      show ((rs.toArray.mapM (resv a.tmps) >>= fun vs => pure (if h : vs.size = 1 then vs[0] else .tuple vs) : Sem Value)).run P w' = _
      rw [Sem.run_bind, this]
      rfl
    match vs, ψs, h2, hlen, he, hrun with
    | [], [], _, _, he, hrun => exact ⟨i, F, Ds, E, hs2, _, hrun, he ▸ ⟨[], rfl, trivial⟩⟩
    | [v], [ψ], h2, _, he, hrun => exact ⟨i, F, Ds, E, hs2, _, hrun, he ▸ h2.1⟩
    | v :: u :: vs, ψ :: φ :: ψs, h2, _, he, hrun => exact ⟨i, F, Ds, E, hs2, _, hrun, he ▸ ⟨_, by simp, h2⟩⟩
  rcases hn with rfl | rfl <;> exact key
theorem fnI {f : FuncId} {fn : Func} {c : Code} {args : List AV} {Hi : Hp} {res : Nat → ι → AV} {Ho : ι → Hp} (hf : P.funcs[f]? = some fn) (hb : fn.body = some c) (hl : Nat.ble args.length fn.ntmps = true)
    (h : ∀ (w0 : World) (F0 : Fz), Ct none P (RetOK P fn { w0 := w0, M := footH Hi, F0 := F0, nt := fn.ntmps } res Ho) { w0 := w0, M := footH Hi, F0 := F0, nt := fn.ntmps } (argEnv 0 args) Hi c) : Fn P f args Hi res Ho :=
  fn_of hf hb hl (fun w0 F0 a w hs => h w0 F0 a w hs)

/-! ### Facts -/
theorem fc {q : Prop} (hq : ∀ a w, Sim B E H a w → q) (k : q → St r P ops Q B E H rest) : St r P ops Q B E H rest := fun a w hs => k (hq a w hs) a w hs
theorem fcC {q : Prop} {c : Code} (hq : ∀ a w, Sim B E H a w → q) (k : q → Ct r P Q B E H c) : Ct r P Q B E H c := fun a w hs => k (hq a w hs) a w hs
theorem slen {α : Type} (t : Nat) {n : Nat} {enc : α → List AV} {xs : List α} (hx : lk t E = sl n enc xs) : ∀ a w, Sim B E H a w → xs.length ≤ maxL := fun a w ⟨F, Ds, hs⟩ => by
  have := hs.env t
  rw [hx] at this
  obtain ⟨_, _, _, _, h, _⟩ := this
  exact h
theorem olen {α : Type} (key : Nat) {v : Value} {e n : Nat} {enc : α → List AV} {xs : List α} (hx : lkH key H = own v e n enc xs) : ∀ a w, Sim B E H a w → xs.length ≤ maxL := fun a w ⟨F, Ds, hs⟩ => by
  have := hs.hp key
  rw [hx] at this
  exact this.1
theorem slenI {α : Type} (t : Nat) {n : Nat} {enc : α → List AV} {xs : List α} (hx : lk t E = sl n enc xs) : ∀ a w, Sim B E H a w → xs.length ≤ 140737488355328 := slen t hx
theorem olenI {α : Type} (key : Nat) {v : Value} {e n : Nat} {enc : α → List AV} {xs : List α} (hx : lkH key H = own v e n enc xs) : ∀ a w, Sim B E H a w → xs.length ≤ 140737488355328 := olen key hx
def Inh (φ : AV) : Prop := ∃ w F v, φ.p w F v
theorem inhS (t : Nat) {φ : AV} (hx : lk t E = φ) : ∀ a w, Sim B E H a w → Inh φ := fun a w ⟨F, Ds, hs⟩ => ⟨w, F, _, hx ▸ hs.env t⟩
theorem inhC (key o : Nat) {b : Nat} {cs : List AV} {φ : AV} (hk : lkH key H = cell b cs) (hc : cs[o]? = some φ) : ∀ a w, Sim B E H a w → Inh φ := fun a w ⟨F, Ds, hs⟩ => by
  have h := hs.hp key
  rw [hk] at h
  obtain ⟨vs, ty, _, ha⟩ := h
  obtain ⟨v, _, hp⟩ := ha.get hc
  exact ⟨w, F, v, hp⟩
theorem Inh.len {α : Type} {n : Nat} {enc : α → List AV} {xs : List α} (h : Inh (sl n enc xs)) : xs.length ≤ 140737488355328 := by
  obtain ⟨w, F, v, _, _, _, _, h, _⟩ := h
  exact h
theorem Inh.agg {cs : List AV} (h : Inh (agg cs)) (i : Nat) {φ : AV} (hc : cs[i]? = some φ) : Inh φ := by
  obtain ⟨w, F, v, vs, _, ha⟩ := h
  obtain ⟨u, _, hp⟩ := ha.get hc
  exact ⟨w, F, u, hp⟩
theorem Inh.el {α : Type} {n : Nat} {enc : α → List AV} {xs : List α} (h : Inh (sl n enc xs)) {i : Nat} {y : α} (hi : xs[i]? = some y) (j : Nat) {φ : AV} (hc : (enc y)[j]? = some φ) : Inh φ := by
  obtain ⟨w, F, v, _, _, _, _, _, h⟩ := h
  obtain ⟨b, off, vs, _, _, _, he⟩ := h (fun e => by rw [e] at hi; simp at hi)
  obtain ⟨u, _, hp⟩ := (he.el i y hi).get hc
  exact ⟨w, F, u, hp⟩
theorem oxi {α : Type} (t : Nat) {g : α → AV} (hx : lk t E = exi g) (k : ∀ x, St r P ops Q B ((t, g x) :: E) H rest) : St r P ops Q B E H rest := fun a w ⟨F, Ds, hs⟩ => by
  have := hs.env t
  rw [hx] at this
  obtain ⟨x, hp⟩ := this
  refine k x a w ⟨F, Ds, { hs with env := fun s => ?_ }⟩
  by_cases e : t = s
  · subst e; rw [lk_same]; exact hp
  · rw [lk_other _ _ e]; exact hs.env s
theorem oan (t : Nat) {q : Prop} {φ : AV} (hx : lk t E = andp q φ) (k : q → St r P ops Q B ((t, φ) :: E) H rest) : St r P ops Q B E H rest := fun a w ⟨F, Ds, hs⟩ => by
  have := hs.env t
  rw [hx] at this
  obtain ⟨hq, hp⟩ := this
  refine k hq a w ⟨F, Ds, { hs with env := fun s => ?_ }⟩
  by_cases e : t = s
  · subst e; rw [lk_same]; exact hp
  · rw [lk_other _ _ e]; exact hs.env s
theorem nw {α : Type} (key e n : Nat) (enc : α → List AV) (k : St r P ops Q B E ((key, own (.slice none 0 0) e n enc []) :: H) rest) : St r P ops Q B E H rest := fun a w hs => k a w (hs.newNil key e n enc)
theorem nwC {α : Type} {c : Code} (key e n : Nat) (enc : α → List AV) (k : Ct r P Q B E ((key, own (.slice none 0 0) e n enc []) :: H) c) : Ct r P Q B E H c := fun a w hs => k a w (hs.newNil key e n enc)
theorem fz {α : Type} (key t : Nat) {v : Value} {et n : Nat} {enc : α → List AV} {xs : List α} (hk : lkH key H = own v et n enc xs) (ht : lk t E = osl key v) (k : St r P ops Q B ((t, sl n enc xs) :: E) ((key, emp) :: H) rest) : St r P ops Q B E H rest :=
  fun a w hs => k a w (hs.freeze key t hk ht)
theorem fzA {α : Type} {e : Exit} (key t : Nat) {v : Value} {et n : Nat} {enc : α → List AV} {xs : List α} (hk : lkH key H = own v et n enc xs) (ht : lk t E = osl key v) (k : At Q e B ((t, sl n enc xs) :: E) ((key, emp) :: H)) : At Q e B E H :=
  fun a w hs => k a w (hs.freeze key t hk ht)
theorem fzC {α : Type} {c : Code} (key t : Nat) {v : Value} {et n : Nat} {enc : α → List AV} {xs : List α} (hk : lkH key H = own v et n enc xs) (ht : lk t E = osl key v) (k : Ct r P Q B ((t, sl n enc xs) :: E) ((key, emp) :: H) c) : Ct r P Q B E H c :=
  fun a w hs => k a w (hs.freeze key t hk ht)

theorem mv' {x : Operand} {φ : AV} (hx : lkO x E = φ) (k : St r P ops Q B ((d, φ) :: E) H rest) (hn : Nat.blt d B.nt = true := by rfl) :
    St r P ops Q B E H ({ dst := some d, op := .move x, type := ty, pos := pos, after := af, guard := none } :: rest) := fun a w h => o_move h (hx ▸ k) hn
theorem ag' {x : Operand} {φ : AV} (hx : lkO x E = φ) (k : St r P ops Q B ((d, φ) :: E) H rest) (hn : Nat.blt d B.nt = true := by rfl) :
    St r P ops Q B E H ({ dst := some d, op := .assign x, type := ty, pos := pos, after := af, guard := none } :: rest) := fun a w h => o_assign h (hx ▸ k) hn
theorem fzv {cs : List AV} {b o : Nat} (key t : Nat) (hk : lkH key H = cell b cs) (ht : lk t E = ptr key b o) (k : St r P ops Q B ((t, fp (cs.drop o)) :: E) ((key, emp) :: H) rest) : St r P ops Q B E H rest := fun a w hs => k a w (hs.freezeV key t hk ht)
theorem fzvC {cs : List AV} {b o : Nat} {c : Code} (key t : Nat) (hk : lkH key H = cell b cs) (ht : lk t E = ptr key b o) (k : Ct r P Q B ((t, fp (cs.drop o)) :: E) ((key, emp) :: H) c) : Ct r P Q B E H c := fun a w hs => k a w (hs.freezeV key t hk ht)
/-- What a slot is known to hold, known otherwise. -/
theorem kn (t : Nat) {ψ : AV} (φ : AV) (hx : lk t E = ψ) (h : ∀ {w F v}, ψ.p w F v → φ.p w F v) (k : St r P ops Q B ((t, φ) :: E) H rest) : St r P ops Q B E H rest := fun a w ⟨F, Ds, hs⟩ => by
  refine k a w ⟨F, Ds, { hs with env := fun s => ?_ }⟩
  by_cases e : t = s
  · subst e; rw [lk_same]; have := hs.env t; rw [hx] at this; exact h this
  · rw [lk_other _ _ e]; exact hs.env s
theorem knA (t : Nat) {ψ : AV} {e : Exit} (φ : AV) (hx : lk t E = ψ) (h : ∀ {w F v}, ψ.p w F v → φ.p w F v) (k : At Q e B ((t, φ) :: E) H) : At Q e B E H := fun a w ⟨F, Ds, hs⟩ => by
  refine k a w ⟨F, Ds, { hs with env := fun s => ?_ }⟩
  by_cases e : t = s
  · subst e; rw [lk_same]; have := hs.env t; rw [hx] at this; exact h this
  · rw [lk_other _ _ e]; exact hs.env s
theorem knC (t : Nat) {ψ : AV} {c : Code} (φ : AV) (hx : lk t E = ψ) (h : ∀ {w F v}, ψ.p w F v → φ.p w F v) (k : Ct r P Q B ((t, φ) :: E) H c) : Ct r P Q B E H c := fun a w ⟨F, Ds, hs⟩ => by
  refine k a w ⟨F, Ds, { hs with env := fun s => ?_ }⟩
  by_cases e : t = s
  · subst e; rw [lk_same]; have := hs.env t; rw [hx] at this; exact h this
  · rw [lk_other _ _ e]; exact hs.env s
/-- An own slice in a cell of an own variable, no more written. -/
theorem fzc {α : Type} {v : Value} {et n b : Nat} {cs : List AV} {enc : α → List AV} {xs : List α} (kc key o : Nat) (hk : lkH key H = own v et n enc xs) (hc : lkH kc H = cell b cs) (hne : Nat.beq kc key = false)
    (ho : cs[o]? = some (osl key v)) (k : St r P ops Q B E ((kc, cell b (cs.set o (sl n enc xs))) :: (key, emp) :: H) rest) : St r P ops Q B E H rest := fun a w hs => k a w (hs.freezeC key hk hc (fun e => by subst e; simp at hne) ho)
theorem fzcC {α : Type} {v : Value} {et n b : Nat} {cs : List AV} {enc : α → List AV} {xs : List α} {c : Code} (kc key o : Nat) (hk : lkH key H = own v et n enc xs) (hc : lkH kc H = cell b cs) (hne : Nat.beq kc key = false)
    (ho : cs[o]? = some (osl key v)) (k : Ct r P Q B E ((kc, cell b (cs.set o (sl n enc xs))) :: (key, emp) :: H) c) : Ct r P Q B E H c := fun a w hs => k a w (hs.freezeC key hk hc (fun e => by subst e; simp at hne) ho)
theorem fzcA {α : Type} {v : Value} {et n b : Nat} {cs : List AV} {enc : α → List AV} {xs : List α} {e : Exit} (kc key o : Nat) (hk : lkH key H = own v et n enc xs) (hc : lkH kc H = cell b cs) (hne : Nat.beq kc key = false)
    (ho : cs[o]? = some (osl key v)) (k : At Q e B E ((kc, cell b (cs.set o (sl n enc xs))) :: (key, emp) :: H)) : At Q e B E H := fun a w hs => k a w (hs.freezeC key hk hc (fun e => by subst e; simp at hne) ho)
/-- What a cell of an own variable is known to hold, known otherwise. -/
theorem kncS {b : Nat} {cs : List AV} {ψ : AV} (hs : Sim B E H a w) (kc o : Nat) (φ : AV) (hc : lkH kc H = cell b cs) (ho : cs[o]? = some ψ) (h : ∀ {w F v}, ψ.p w F v → φ.p w F v) : Sim B E ((kc, cell b (cs.set o φ)) :: H) a w := by
  obtain ⟨F, Ds, hs⟩ := hs
  have h1 := hs.hp kc
  rw [hc] at h1
  obtain ⟨vs, ty, hcell, ha⟩ := h1
  obtain ⟨u, hu, hp⟩ := ha.get ho
  refine ⟨F, Ds, hs.upd kc _ (Nat.le_refl _) rfl rfl rfl (fun _ _ _ => rfl) (fun x hx => ⟨.inl (by rw [hc]; exact hx), (hs.hN kc x (by rw [hc]; exact hx)).1⟩) ⟨vs, ty, hcell, ?_⟩⟩
  have h3 := ha.set o (h hp)
  have e : vs.set o u = vs := by
    apply List.ext_getElem?
    intro t
    by_cases ht : o = t
    · subst ht
      rw [List.getElem?_set_self (List.getElem?_eq_some_iff.1 hu).1]; exact hu.symm
    · rw [List.getElem?_set_ne ht]
  rwa [e] at h3
theorem knc {b : Nat} {cs : List AV} {ψ : AV} (kc o : Nat) (φ : AV) (hc : lkH kc H = cell b cs) (ho : cs[o]? = some ψ) (h : ∀ {w F v}, ψ.p w F v → φ.p w F v) (k : St r P ops Q B E ((kc, cell b (cs.set o φ)) :: H) rest) : St r P ops Q B E H rest :=
  fun a w hs => k a w (kncS hs kc o φ hc ho h)
theorem kncC {b : Nat} {cs : List AV} {ψ : AV} {c : Code} (kc o : Nat) (φ : AV) (hc : lkH kc H = cell b cs) (ho : cs[o]? = some ψ) (h : ∀ {w F v}, ψ.p w F v → φ.p w F v) (k : Ct r P Q B E ((kc, cell b (cs.set o φ)) :: H) c) : Ct r P Q B E H c :=
  fun a w hs => k a w (kncS hs kc o φ hc ho h)
theorem kncA {b : Nat} {cs : List AV} {ψ : AV} {e : Exit} (kc o : Nat) (φ : AV) (hc : lkH kc H = cell b cs) (ho : cs[o]? = some ψ) (h : ∀ {w F v}, ψ.p w F v → φ.p w F v) (k : At Q e B E ((kc, cell b (cs.set o φ)) :: H)) : At Q e B E H :=
  fun a w hs => k a w (kncS hs kc o φ hc ho h)
theorem rtg {key : Nat} (t : Nat) {x : Value} (hx : lk t E = eqv x) (k : St r P ops Q B ((t, osl key x) :: E) H rest) : St r P ops Q B E H rest := fun a w ⟨F, Ds, hs⟩ => by
  refine k a w ⟨F, Ds, { hs with env := fun s => ?_ }⟩
  by_cases e : t = s
  · subst e; rw [lk_same]; have := hs.env t; rw [hx] at this; exact this
  · rw [lk_other _ _ e]; exact hs.env s

/-! ### Guarded operations -/
theorem gy {dd : Option Tmp} {oo : Op} {i t : Nat} {b c : Bool} (hi : (ops[i]?).bind (·.dst) = some t) (hn : Nat.blt t B.nt = true) (hb : lk t E = bl c) (hc : c = b) (k : St r P ops Q B E H ({ dst := dd, op := oo, type := ty, pos := pos, after := af, guard := none } :: rest)) :
    St r P ops Q B E H ({ dst := dd, op := oo, type := ty, pos := pos, after := af, guard := some (i, b) } :: rest) := fun a w hs => by
  subst hc
  have h1 := k a w hs
  obtain ⟨F, Ds, hs⟩ := hs
  have h2 := hs.env t
  rw [hb] at h2
  have h2 : a.tmps.getD t undef = .bool c := h2
  have hlt : t < a.tmps.size := by rw [hs.sz]; simpa using hn
  have h3 : a.tmps[t]? = some (.bool c) := by simpa [hlt] using h2
  simp only [wl, wpListIn, Region.wanted, if_true] at h1 ⊢
  simp only [yielded, hi, h3, Option.bind_some, beq_self_eq_true, if_true]
  exact h1
theorem gn {dd : Option Tmp} {oo : Op} {i t : Nat} {b c : Bool} (hi : (ops[i]?).bind (·.dst) = some t) (hn : Nat.blt t B.nt = true) (hb : lk t E = bl c) (hc : c = !b) {d : Nat} (hd : dd = some d) (hdn : Nat.blt d B.nt = true)
    (k : St r P ops Q B ((d, eqv undef) :: E) H rest) : St r P ops Q B E H ({ dst := dd, op := oo, type := ty, pos := pos, after := af, guard := some (i, b) } :: rest) := fun a w hs => by
  obtain ⟨F, Ds, hs⟩ := hs
  have h2 := hs.env t
  rw [hb] at h2
  have h2 : a.tmps.getD t undef = .bool c := h2
  have hlt : t < a.tmps.size := by rw [hs.sz]; simpa using hn
  have h3 : a.tmps[t]? = some (.bool c) := by simpa [hlt] using h2
  subst hc
  simp only [wl, wpListIn, Region.wanted]
  simp only [yielded, hi, h3, Option.bind_some]
  have : (some (!b) == some b) = false := by cases b <;> rfl
  simp only [this, Bool.false_eq_true, if_false]
  refine ⟨fun _ _ => trivial, ?_⟩
  rw [hd]
  exact k _ _ ⟨F, Ds, hs.put (φ := eqv undef) (by simpa using hdn) rfl⟩
theorem gu {dd : Option Tmp} {oo : Op} {i t : Nat} {b : Bool} (hi : (ops[i]?).bind (·.dst) = some t) (hn : Nat.blt t B.nt = true) (hb : lk t E = eqv undef) {d : Nat} (hd : dd = some d) (hdn : Nat.blt d B.nt = true)
    (k : St r P ops Q B ((d, eqv undef) :: E) H rest) : St r P ops Q B E H ({ dst := dd, op := oo, type := ty, pos := pos, after := af, guard := some (i, b) } :: rest) := fun a w hs => by
  obtain ⟨F, Ds, hs⟩ := hs
  have h2 := hs.env t
  rw [hb] at h2
  have h2 : a.tmps.getD t undef = undef := h2
  have hlt : t < a.tmps.size := by rw [hs.sz]; simpa using hn
  have h3 : a.tmps[t]? = some undef := by simpa [hlt] using h2
  simp only [wl, wpListIn, Region.wanted]
  simp only [yielded, hi, h3, Option.bind_some, undef]
  refine ⟨fun _ _ => trivial, ?_⟩
  rw [hd]
  exact k _ _ ⟨F, Ds, hs.put (φ := eqv undef) (by simpa using hdn) rfl⟩
theorem pkT {c x y : Operand} {b : Bool} {φ : AV} (hc : lkO c E = bl b) (hb : b = true) (hz : lkO x E = φ) (k : St r P ops Q B ((d, φ) :: E) H rest) (hn : Nat.blt d B.nt = true := by rfl) :
    St r P ops Q B E H ({ dst := some d, op := .pick c x y, type := ty, pos := pos, after := af, guard := none } :: rest) := by
  subst hb; exact fun a w h => o_pick h hc hz k hn
theorem pkF {c x y : Operand} {b : Bool} {φ : AV} (hc : lkO c E = bl b) (hb : b = false) (hz : lkO y E = φ) (k : St r P ops Q B ((d, φ) :: E) H rest) (hn : Nat.blt d B.nt = true := by rfl) :
    St r P ops Q B E H ({ dst := some d, op := .pick c x y, type := ty, pos := pos, after := af, guard := none } :: rest) := by
  subst hb; exact fun a w h => o_pick h hc hz k hn
/-- 'c && e': the operations of e run where c holds. -/
theorem gAnd {t pd : Nat} {c e : Bool} {l : List Oper} (hc : lk t E = bl c) (k : St r P ops Q B ((pd, bl (c && e)) :: E) H l)
    (hy : c = true → St r P ops Q B ((pd, bl e) :: E) H l → St r P ops Q B E H rest) (hn : c = false → St r P ops Q B ((pd, bl false) :: E) H l → St r P ops Q B E H rest) : St r P ops Q B E H rest := by
  cases c
  · exact hn rfl k
  · exact hy rfl (by simpa using k)
theorem gOr {t pd : Nat} {c e : Bool} {l : List Oper} (hc : lk t E = bl c) (k : St r P ops Q B ((pd, bl (c || e)) :: E) H l)
    (hy : c = false → St r P ops Q B ((pd, bl e) :: E) H l → St r P ops Q B E H rest) (hn : c = true → St r P ops Q B ((pd, bl true) :: E) H l → St r P ops Q B E H rest) : St r P ops Q B E H rest := by
  cases c
  · exact hy rfl (by simpa using k)
  · exact hn rfl k
def AnyAll (E : Env) : Env → Prop
  | [] => True
  | x :: r => lk x.1 E = any ∧ AnyAll E r
theorem lk_drp {E : Env} : ∀ {X : Env}, AnyAll E X → ∀ (t : Nat) {w : World} {F : Fz} {v : Value}, (lk t (X ++ E)).p w F v → (lk t E).p w F v
  | [], _, _, _, _, _, h => h
  | (s, φ) :: X, hX, t, w, F, v, h => by
    by_cases e : s = t
    · subst e; rw [hX.1]; trivial
    · rw [List.cons_append, lk_other _ _ e] at h
      exact lk_drp hX.2 t h
/-- What was known within a group is left behind. -/
theorem drp {pd : Nat} {φ : AV} {X : Env} {l : List Oper} (hX : AnyAll E X) (k : St r P ops Q B ((pd, φ) :: E) H l) : St r P ops Q B ((pd, φ) :: (X ++ E)) H l := fun a w hs => by
  refine k a w (hs.less (fun t {w F v} h => ?_) (subH_refl H))
  by_cases e : pd = t
  · subst e; rw [lk_same] at h ⊢; exact h
  · rw [lk_other _ _ e] at h ⊢; exact lk_drp hX t h

/-! ### Elements -/
def ix {α : Type} [Inhabited α] (xs : List α) (i : Nat) : α := xs.getD i default
theorem ix_get {α : Type} [Inhabited α] {xs : List α} {i : Nat} (h : i < xs.length) : ix xs i = xs[i] := by simp [ix, h]
theorem gN {α : Type} [Inhabited α] {xs : List α} {k : Nat} (h : k < xs.length) : xs[((k : Int)).toNat]? = some (ix xs k) := by simp [ix_get h, h]
theorem gI {α : Type} [Inhabited α] {xs : List α} {m : Int} (h0 : 0 ≤ m) (h : m < (xs.length : Int)) : xs[m.toNat]? = some (ix xs m.toNat) := by
  have : m.toNat < xs.length := by omega
  rw [ix_get this, List.getElem?_eq_getElem this]
theorem gK {α : Type} [Inhabited α] {xs : List α} {k : Nat} (h : k < xs.length) : xs[k]? = some (ix xs k) := by rw [ix_get h, List.getElem?_eq_getElem h]

/-- A frozen slice compared with nil. -/
theorem nilF {α : Type} {T T' e n : Nat} {enc : α → List AV} {xs : List α} {x : Operand} (hx : lkO x E = sl n enc xs) (hT : P.underlying T = some (.slice e)) (k : ∀ b : Bool, (b = true → xs = []) → St r P ops Q B ((d, bl b) :: E) H rest) (hn : Nat.blt d B.nt = true := by rfl) :
    St r P ops Q B E H ({ dst := some d, op := .binOp .eql T x (.const (.slice none 0 0)) T', type := ty, pos := pos, after := af, guard := none } :: rest) := fun a w hs => nilF_wl hs hx hT (fun b hb => k b hb) hn
/-- Own slices held by an own slice: one taken out, given back. -/
theorem tkB {α : Type} {us : List Value} {e n : Nat} {enc : α → List AV} {xss : List (List α)} {u : Value} {xs : List α} (key key' i : Nat) (hk : lkH key H = bigown us e n enc xss none) (hk' : lkH key' H = emp) (hne : key' ≠ key) (hu : us[i]? = some u) (hx : xss[i]? = some xs)
    (k : St r P ops Q B E ((key', own u e n enc xs) :: (key, bigown us e n enc xss (some i)) :: H) rest) : St r P ops Q B E H rest := fun a w hs => k a w (hs.takeB key key' i hk hk' hne hu hx)
theorem gvB {α : Type} {us : List Value} {e n : Nat} {enc : α → List AV} {xss : List (List α)} {u : Value} {xs : List α} (key key' i : Nat) (hk : lkH key H = bigown us e n enc xss (some i)) (hk' : lkH key' H = own u e n enc xs) (hne : key' ≠ key) (hi : i < us.length)
    (k : St r P ops Q B E ((key', emp) :: (key, bigown (us.set i u) e n enc (xss.set i xs) none) :: H) rest) : St r P ops Q B E H rest := fun a w hs => k a w (hs.giveB key key' i hk hk' hne hi)
theorem osl_is {key : Nat} {x : Value} : osl key x = eqv x := rfl
theorem tkBC {α : Type} {c : Code} {us : List Value} {e n : Nat} {enc : α → List AV} {xss : List (List α)} {u : Value} {xs : List α} (key key' i : Nat) (hk : lkH key H = bigown us e n enc xss none) (hk' : lkH key' H = emp) (hne : key' ≠ key) (hu : us[i]? = some u) (hx : xss[i]? = some xs)
    (k : Ct r P Q B E ((key', own u e n enc xs) :: (key, bigown us e n enc xss (some i)) :: H) c) : Ct r P Q B E H c := fun a w hs => k a w (hs.takeB key key' i hk hk' hne hu hx)
theorem gvBC {α : Type} {c : Code} {us : List Value} {e n : Nat} {enc : α → List AV} {xss : List (List α)} {u : Value} {xs : List α} (key key' i : Nat) (hk : lkH key H = bigown us e n enc xss (some i)) (hk' : lkH key' H = own u e n enc xs) (hne : key' ≠ key) (hi : i < us.length)
    (k : Ct r P Q B E ((key', emp) :: (key, bigown (us.set i u) e n enc (xss.set i xs) none) :: H) c) : Ct r P Q B E H c := fun a w hs => k a w (hs.giveB key key' i hk hk' hne hi)
theorem set_same {α : Type} {l : List α} {i : Nat} {u : α} (h : l[i]? = some u) : l.set i u = l := by
  apply List.ext_getElem?
  intro j
  by_cases e : i = j
  · subst e; rw [List.getElem?_set_self (List.getElem?_eq_some_iff.1 h).1, h]
  · rw [List.getElem?_set_ne e]
theorem gvU {α : Type} {us : List Value} {e n : Nat} {enc : α → List AV} {xss : List (List α)} {u : Value} {xs : List α} (key key' i : Nat) (hk : lkH key H = bigown us e n enc xss (some i)) (hk' : lkH key' H = own u e n enc xs) (hne : key' ≠ key) (hu : us[i]? = some u)
    (k : St r P ops Q B E ((key', emp) :: (key, bigown us e n enc (xss.set i xs) none) :: H) rest) : St r P ops Q B E H rest := fun a w hs => k a w (by
  have := hs.giveB key key' i hk hk' hne (List.getElem?_eq_some_iff.1 hu).1
  rw [set_same hu] at this; exact this)
/-- Given back as it was: all as before. -/
theorem gvR {α : Type} {us : List Value} {e n : Nat} {enc : α → List AV} {xss : List (List α)} {u : Value} {xs : List α} (key key' i : Nat) (hk : lkH key H = bigown us e n enc xss none) (hk' : lkH key' H = emp) (hne : key' ≠ key) (hu : us[i]? = some u) (hx : xss[i]? = some xs)
    (k : St r P ops Q B E H rest) : St r P ops Q B E ((key', own u e n enc xs) :: (key, bigown us e n enc xss (some i)) :: H) rest := fun a w hs => k a w (by
  have l1 : lkH key ((key', own u e n enc xs) :: (key, bigown us e n enc xss (some i)) :: H) = bigown us e n enc xss (some i) := by rw [lkH_other _ _ hne, lkH_same]
  obtain ⟨F, Ds, h⟩ := hs.giveB key key' i l1 (lkH_same _ _ _) hne (List.getElem?_eq_some_iff.1 hu).1
  rw [set_same hu, set_same hx] at h
  refine Sim.less ⟨F, Ds, h⟩ (fun _ _ _ _ h => h) (fun t => ?_)
  by_cases e1 : t = key'
  · subst e1; rw [lkH_same, hk']; exact ⟨fun _ h => h, fun h => h⟩
  · rw [lkH_other _ _ (Ne.symm e1)]
    by_cases e2 : t = key
    · subst e2; rw [lkH_same, hk]; exact ⟨fun _ h => h, fun h => h⟩
    · rw [lkH_other _ _ (Ne.symm e2), lkH_other _ _ (Ne.symm e1), lkH_other _ _ (Ne.symm e2)]; exact ⟨fun _ h => h, fun h => h⟩)
theorem gvS {α : Type} {us : List Value} {e n : Nat} {enc : α → List AV} {xss : List (List α)} {u : Value} {xs : List α} (key key' i : Nat) (hk : lkH key H = bigown us e n enc xss (some i)) (hk' : lkH key' H = own u e n enc xs) (hne : key' ≠ key) (hu : us[i]? = some u) (hx : xss[i]? = some xs)
    (k : St r P ops Q B E ((key', emp) :: (key, bigown us e n enc xss none) :: H) rest) : St r P ops Q B E H rest := fun a w hs => k a w (by
  have := hs.giveB key key' i hk hk' hne (List.getElem?_eq_some_iff.1 hu).1
  rw [set_same hu, set_same hx] at this; exact this)
theorem gvSC {α : Type} {c : Code} {us : List Value} {e n : Nat} {enc : α → List AV} {xss : List (List α)} {u : Value} {xs : List α} (key key' i : Nat) (hk : lkH key H = bigown us e n enc xss (some i)) (hk' : lkH key' H = own u e n enc xs) (hne : key' ≠ key) (hu : us[i]? = some u) (hx : xss[i]? = some xs)
    (k : Ct r P Q B E ((key', emp) :: (key, bigown us e n enc xss none) :: H) c) : Ct r P Q B E H c := fun a w hs => k a w (by
  have := hs.giveB key key' i hk hk' hne (List.getElem?_eq_some_iff.1 hu).1
  rw [set_same hu, set_same hx] at this; exact this)
theorem nbB {α : Type} (key m e n : Nat) (enc : α → List AV) (k : St r P ops Q B E ((key, bigown (List.replicate m (.slice none 0 0)) e n enc (List.replicate m []) none) :: H) rest) : St r P ops Q B E H rest := fun a w hs => k a w (hs.nilsB key m e n enc)
theorem nbBC {α : Type} {c : Code} (key m e n : Nat) (enc : α → List AV) (k : Ct r P Q B E ((key, bigown (List.replicate m (.slice none 0 0)) e n enc (List.replicate m []) none) :: H) c) : Ct r P Q B E H c := fun a w hs => k a w (hs.nilsB key m e n enc)
theorem fzB {α : Type} {us : List Value} {e n e' : Nat} {enc : α → List AV} {xss : List (List α)} {v : Value} (key keyO : Nat) (hk : lkH key H = bigown us e n enc xss none) (hO : lkH keyO H = own v e' 1 eqvE us) (hne : keyO ≠ key)
    (k : St r P ops Q B E ((keyO, own v e' 1 (fun xs => [sl n enc xs]) xss) :: (key, emp) :: H) rest) : St r P ops Q B E H rest := fun a w hs => k a w (hs.freezeB key keyO hk hO hne)
theorem fzBC {α : Type} {c : Code} {us : List Value} {e n e' : Nat} {enc : α → List AV} {xss : List (List α)} {v : Value} (key keyO : Nat) (hk : lkH key H = bigown us e n enc xss none) (hO : lkH keyO H = own v e' 1 eqvE us) (hne : keyO ≠ key)
    (k : Ct r P Q B E ((keyO, own v e' 1 (fun xs => [sl n enc xs]) xss) :: (key, emp) :: H) c) : Ct r P Q B E H c := fun a w hs => k a w (hs.freezeB key keyO hk hO hne)
theorem fzBA {α : Type} {x : Exit} {us : List Value} {e n e' : Nat} {enc : α → List AV} {xss : List (List α)} {v : Value} (key keyO : Nat) (hk : lkH key H = bigown us e n enc xss none) (hO : lkH keyO H = own v e' 1 eqvE us) (hne : keyO ≠ key)
    (k : At Q x B E ((keyO, own v e' 1 (fun xs => [sl n enc xs]) xss) :: (key, emp) :: H)) : At Q x B E H := fun a w hs => k a w (hs.freezeB key keyO hk hO hne)
theorem ex_nil : Exact [] [] := fun _ _ => trivial
theorem ex_cons {x : Value} {cs : List AV} {vs : List Value} (h : Exact cs vs) : Exact (eqv x :: cs) (x :: vs) := fun w F => ⟨rfl, h w F⟩
theorem ex_slnil {α : Type} {n : Nat} {enc : α → List AV} {cs : List AV} {vs : List Value} (h : Exact cs vs) : Exact (sl n enc [] :: cs) (.slice none 0 0 :: vs) := fun w F => ⟨⟨none, 0, rfl, Nat.le_refl _, Nat.zero_le _, fun h => absurd rfl h⟩, h w F⟩
/-- The nil slice reads as an empty frozen one. -/
theorem slnil {α : Type} {n : Nat} {enc : α → List AV} {w : World} {F : Fz} {v : Value} (h : (eqv (.slice none 0 0)).p w F v) : (sl n enc []).p w F v := by
  have h : v = .slice none 0 0 := h
  subst h
  exact ⟨none, 0, rfl, Nat.le_refl _, Nat.zero_le _, fun h => absurd rfl h⟩
def LeAll : List AV → List AV → Prop
  | [], [] => True
  | φ :: cs, ψ :: ds => (∀ {w : World} {F : Fz} {v : Value}, φ.p w F v → ψ.p w F v) ∧ LeAll cs ds
  | _, _ => False
theorem all2_le {w : World} {F : Fz} : ∀ {cs ds : List AV} {vs : List Value}, LeAll cs ds → All2 w F cs vs → All2 w F ds vs
  | [], [], _, _, h => h
  | φ :: cs, ψ :: ds, [], _, h => h.elim
  | φ :: cs, ψ :: ds, v :: vs, hl, h => ⟨hl.1 h.1, all2_le hl.2 h.2⟩
  | [], _ :: _, _, hl, _ => hl.elim
  | _ :: _, [], _, hl, _ => hl.elim
theorem agg_le {cs ds : List AV} (hl : LeAll cs ds) {w : World} {F : Fz} {v : Value} (h : (agg cs).p w F v) : (agg ds).p w F v := by
  obtain ⟨vs, hv, ha⟩ := h
  exact ⟨vs, hv, all2_le hl ha⟩
theorem eq_osl {key : Nat} {x v : Value} {w : World} {F : Fz} (h : (eqv x).p w F v) : (osl key x).p w F v := h
theorem osl_eq {key : Nat} {x v : Value} {w : World} {F : Fz} (h : (osl key x).p w F v) : v = x := h
theorem eqv_eq {x v : Value} {w : World} {F : Fz} (h : (eqv x).p w F v) : v = x := h
theorem own_foot {α : Type} {v : Value} {e n : Nat} {enc enc' : α → List AV} {xs ys : List α} : (own v e n enc xs).foot = (own v e n enc' ys).foot := rfl
variable {κ ν : Type} [DecidableEq κ]

theorem mv {x : Operand} (k : St r P ops Q B ((d, lkO x E) :: E) H rest) (hn : Nat.blt d B.nt = true := by rfl) :
    St r P ops Q B E H ({ dst := some d, op := .move x, type := ty, pos := pos, after := af, guard := none } :: rest) :=
  fun a w h => o_move h (k := k) (hn := hn)

theorem ag {x : Operand} (k : St r P ops Q B ((d, lkO x E) :: E) H rest) (hn : Nat.blt d B.nt = true := by rfl) :
    St r P ops Q B E H ({ dst := some d, op := .assign x, type := ty, pos := pos, after := af, guard := none } :: rest) :=
  fun a w h => o_assign h (k := k) (hn := hn)

theorem pk {c x y : Operand} {b : Bool} {φ : AV} (hc : lkO c E = bl b) (hz : lkO (if b then x else y) E = φ) (k : St r P ops Q B ((d, φ) :: E) H rest) (hn : Nat.blt d B.nt = true := by rfl) :
    St r P ops Q B E H ({ dst := some d, op := .pick c x y, type := ty, pos := pos, after := af, guard := none } :: rest) :=
  fun a w h => o_pick h (hc := hc) (hz := hz) (k := k) (hn := hn)

theorem bx {t key : Nat} {x : Operand} {cs : List AV} (hx : lkO x E = agg cs)
    (k : ∀ b, St r P ops Q B ((d, ptr key b 0) :: E) ((key, cell b cs) :: H) rest) (hn : Nat.blt d B.nt = true := by rfl) :
    St r P ops Q B E H ({ dst := some d, op := .box t x, type := ty, pos := pos, after := af, guard := none } :: rest) :=
  fun a w h => o_box h (hx := hx) (k := k) (hn := hn)

theorem bx1 {t key : Nat} {x : Operand} {φ : AV} (hx : lkO x E = φ) [ho : One φ]
    (k : ∀ b, St r P ops Q B ((d, ptr key b 0) :: E) ((key, cell b [φ]) :: H) rest) (hn : Nat.blt d B.nt = true := by rfl) :
    St r P ops Q B E H ({ dst := some d, op := .box t x, type := ty, pos := pos, after := af, guard := none } :: rest) :=
  fun a w h => o_box1 h (hx := hx) (k := k) (hn := hn)

theorem fP {t f off key b o : Nat} {x : Operand} (hx : lkO x E = ptr key b o) (hf : FieldAt P t f off)
    (k : St r P ops Q B ((d, ptr key b (o + off)) :: E) H rest) (hn : Nat.blt d B.nt = true := by rfl) :
    St r P ops Q B E H ({ dst := some d, op := .fieldAddr t x f, type := ty, pos := pos, after := af, guard := none } :: rest) :=
  fun a w h => o_fieldP h (hx := hx) (hf := hf) (k := k) (hn := hn)

theorem fF {t f off : Nat} {cs : List AV} {x : Operand} (hx : lkO x E = fp cs) (hf : FieldAt P t f off)
    (k : St r P ops Q B ((d, fp (cs.drop off)) :: E) H rest) (hn : Nat.blt d B.nt = true := by rfl) :
    St r P ops Q B E H ({ dst := some d, op := .fieldAddr t x f, type := ty, pos := pos, after := af, guard := none } :: rest) :=
  fun a w h => o_fieldF h (hx := hx) (hf := hf) (k := k) (hn := hn)

theorem lP {t key b o : Nat} {cs : List AV} {φ : AV} {x : Operand} (hx : lkO x E = ptr key b o) (hk : lkH key H = cell b cs) (hc : cs[o]? = some φ) (ht : IsOne P t)
    (k : St r P ops Q B ((d, φ) :: E) H rest) (hn : Nat.blt d B.nt = true := by rfl) :
    St r P ops Q B E H ({ dst := some d, op := .load t x, type := ty, pos := pos, after := af, guard := none } :: rest) :=
  fun a w h => o_loadP h (hx := hx) (hk := hk) (hc := hc) (ht := ht) (k := k) (hn := hn)

theorem lPA {t n key b o : Nat} {cs : List AV} {x : Operand} (hx : lkO x E = ptr key b o) (hk : lkH key H = cell b cs) (ht : IsAgg P t n) (hl : Nat.ble (o + n) cs.length = true)
    (k : St r P ops Q B ((d, agg ((cs.drop o).take n)) :: E) H rest) (hn : Nat.blt d B.nt = true := by rfl) :
    St r P ops Q B E H ({ dst := some d, op := .load t x, type := ty, pos := pos, after := af, guard := none } :: rest) :=
  fun a w h => o_loadPA h (hx := hx) (hk := hk) (ht := ht) (hl := hl) (k := k) (hn := hn)

theorem lF {t : Nat} {cs : List AV} {φ : AV} {x : Operand} (hx : lkO x E = fp cs) (hc : cs[0]? = some φ) (ht : IsOne P t)
    (k : St r P ops Q B ((d, φ) :: E) H rest) (hn : Nat.blt d B.nt = true := by rfl) :
    St r P ops Q B E H ({ dst := some d, op := .load t x, type := ty, pos := pos, after := af, guard := none } :: rest) :=
  fun a w h => o_loadF h (hx := hx) (hc := hc) (ht := ht) (k := k) (hn := hn)

theorem lFA {t n : Nat} {cs : List AV} {x : Operand} (hx : lkO x E = fp cs) (ht : IsAgg P t n) (hl : n ≤ cs.length)
    (k : St r P ops Q B ((d, agg (cs.take n)) :: E) H rest) (hn : Nat.blt d B.nt = true := by rfl) :
    St r P ops Q B E H ({ dst := some d, op := .load t x, type := ty, pos := pos, after := af, guard := none } :: rest) :=
  fun a w h => o_loadFA h (hx := hx) (ht := ht) (hl := hl) (k := k) (hn := hn)

theorem bi {op : BinOp} {T T' : TypeId} {x y : Operand} {u v z : Value} (hx : lkO x E = eqv u) (hy : lkO y E = eqv v) (hz : binRun P op T x y u v z)
    (k : St r P ops Q B ((d, eqv z) :: E) H rest) (hn : Nat.blt d B.nt = true := by rfl) :
    St r P ops Q B E H ({ dst := some d, op := .binOp op T x y T', type := ty, pos := pos, after := af, guard := none } :: rest) :=
  fun a w h => o_bin h (hx := hx) (hy := hy) (hz := hz) (k := k) (hn := hn)

theorem no {T : TypeId} {x : Operand} {b : Bool} (hx : lkO x E = bl b)
    (k : St r P ops Q B ((d, bl (!b)) :: E) H rest) (hn : Nat.blt d B.nt = true := by rfl) :
    St r P ops Q B E H ({ dst := some d, op := .unOp .not T x, type := ty, pos := pos, after := af, guard := none } :: rest) :=
  fun a w h => o_not h (hx := hx) (k := k) (hn := hn)

theorem xt {x : Operand} {cs : List AV} {i : Nat} {φ : AV} (hx : lkO x E = tup cs) (hi : cs[i]? = some φ)
    (k : St r P ops Q B ((d, φ) :: E) H rest) (hn : Nat.blt d B.nt = true := by rfl) :
    St r P ops Q B E H ({ dst := some d, op := .extract x i, type := ty, pos := pos, after := af, guard := none } :: rest) :=
  fun a w h => o_extract h (hx := hx) (hi := hi) (k := k) (hn := hn)

theorem lnF {α : Type} {T e n m : Nat} {enc : α → List AV} {xs : List α} {x : Operand} (hx : lkO x E = sl m enc xs) (hT : IsSlice P T e n)
    (k : St r P ops Q B ((d, int (xs.length : Int)) :: E) H rest) (hn : Nat.blt d B.nt = true := by rfl) :
    St r P ops Q B E H ({ dst := some d, op := .call { callee := .builtin .len, args := #[x], argTypes := #[T] }, type := ty, pos := pos, after := af, guard := none } :: rest) :=
  fun a w h => o_lenF h (hx := hx) (hT := hT) (k := k) (hn := hn)

theorem lnO {α : Type} {T e n m key et : Nat} {v : Value} {enc : α → List AV} {xs : List α} {x : Operand} (hx : lkO x E = osl key v) (hk : lkH key H = own v et m enc xs) (hT : IsSlice P T e n)
    (k : St r P ops Q B ((d, int (xs.length : Int)) :: E) H rest) (hn : Nat.blt d B.nt = true := by rfl) :
    St r P ops Q B E H ({ dst := some d, op := .call { callee := .builtin .len, args := #[x], argTypes := #[T] }, type := ty, pos := pos, after := af, guard := none } :: rest) :=
  fun a w h => o_lenO h (hx := hx) (hk := hk) (hT := hT) (k := k) (hn := hn)

theorem lnS {T : Nat} {s : ByteArray} {x : Operand} (hx : lkO x E = str s) (hT : P.underlying T = some .string)
    (k : St r P ops Q B ((d, int (s.size : Int)) :: E) H rest) (hn : Nat.blt d B.nt = true := by rfl) :
    St r P ops Q B E H ({ dst := some d, op := .call { callee := .builtin .len, args := #[x], argTypes := #[T] }, type := ty, pos := pos, after := af, guard := none } :: rest) :=
  fun a w h => o_lenS h (hx := hx) (hT := hT) (k := k) (hn := hn)

theorem iF {α : Type} {T e n : Nat} {enc : α → List AV} {xs : List α} {x i : Operand} {m : Int} {y : α} (hx : lkO x E = sl n enc xs) (hi : lkO i E = int m) (hT : IsSlice P T e n)
    (h0 : 0 ≤ m) (hy : xs[m.toNat]? = some y)
    (k : St r P ops Q B ((d, fp (enc y)) :: E) H rest) (hn : Nat.blt d B.nt = true := by rfl) :
    St r P ops Q B E H ({ dst := some d, op := .indexAddr T x i, type := ty, pos := pos, after := af, guard := none } :: rest) :=
  fun a w h => o_indexF h (hx := hx) (hi := hi) (hT := hT) (h0 := h0) (hy := hy) (k := k) (hn := hn)

theorem iO {α : Type} {T e n key et : Nat} {v : Value} {enc : α → List AV} {xs : List α} {x i : Operand} {m : Int} (hx : lkO x E = osl key v) (hk : lkH key H = own v et n enc xs)
    (hi : lkO i E = int m) (hT : IsSlice P T e n) (h0 : 0 ≤ m) (hy : m < (xs.length : Int))
    (k : St r P ops Q B ((d, eptr key v n m.toNat 0) :: E) H rest) (hn : Nat.blt d B.nt = true := by rfl) :
    St r P ops Q B E H ({ dst := some d, op := .indexAddr T x i, type := ty, pos := pos, after := af, guard := none } :: rest) :=
  fun a w h => o_indexO h (hx := hx) (hk := hk) (hi := hi) (hT := hT) (h0 := h0) (hy := hy) (k := k) (hn := hn)

theorem lO {α : Type} {T n key i j et : Nat} {v : Value} {enc : α → List AV} {xs : List α} {x : Operand} {y : α} {φ : AV} (hx : lkO x E = eptr key v n i j) (hk : lkH key H = own v et n enc xs)
    (hy : xs[i]? = some y) (hj : (enc y)[j]? = some φ) (ht : IsOne P T)
    (k : St r P ops Q B ((d, φ) :: E) H rest) (hn : Nat.blt d B.nt = true := by rfl) :
    St r P ops Q B E H ({ dst := some d, op := .load T x, type := ty, pos := pos, after := af, guard := none } :: rest) :=
  fun a w h => o_loadO h (hx := hx) (hk := hk) (hy := hy) (hj := hj) (ht := ht) (k := k) (hn := hn)

theorem lOA {α : Type} {T n m key i j et : Nat} {v : Value} {enc : α → List AV} {xs : List α} {x : Operand} {y : α} (hx : lkO x E = eptr key v n i j) (hk : lkH key H = own v et n enc xs)
    (hy : xs[i]? = some y) (ht : IsAgg P T m) (hl : j + m ≤ n)
    (k : St r P ops Q B ((d, agg (((enc y).drop j).take m)) :: E) H rest) (hn : Nat.blt d B.nt = true := by rfl) :
    St r P ops Q B E H ({ dst := some d, op := .load T x, type := ty, pos := pos, after := af, guard := none } :: rest) :=
  fun a w h => o_loadOA h (hx := hx) (hk := hk) (hy := hy) (ht := ht) (hl := hl) (k := k) (hn := hn)

theorem fO {T f off key n i j : Nat} {v : Value} {x : Operand} (hx : lkO x E = eptr key v n i j) (hf : FieldAt P T f off)
    (k : St r P ops Q B ((d, eptr key v n i (j + off)) :: E) H rest) (hn : Nat.blt d B.nt = true := by rfl) :
    St r P ops Q B E H ({ dst := some d, op := .fieldAddr T x f, type := ty, pos := pos, after := af, guard := none } :: rest) :=
  fun a w h => o_fieldO h (hx := hx) (hf := hf) (k := k) (hn := hn)

theorem sP {T key b o : Nat} {cs : List AV} {φ : AV} {x y : Operand} (hx : lkO x E = ptr key b o) (hk : lkH key H = cell b cs) (hy : lkO y E = φ) [h1 : One φ] (ht : IsOne P T) (ho : Nat.blt o cs.length = true)
    (k : St r P ops Q B E ((key, cell b (cs.set o φ)) :: H) rest) :
    St r P ops Q B E H ({ dst := none, op := .store T x y, type := ty, pos := pos, after := af, guard := none } :: rest) :=
  fun a w h => o_storeP h (hx := hx) (hk := hk) (hy := hy) (ht := ht) (ho := ho) (k := k)

theorem sPA {T n key b o : Nat} {cs cs' : List AV} {x y : Operand} (hx : lkO x E = ptr key b o) (hk : lkH key H = cell b cs) (hy : lkO y E = agg cs') [h1 : OneAll cs'] (ht : IsAgg P T n) (hn : cs'.length = n) (ho : Nat.ble (o + n) cs.length = true)
    (k : St r P ops Q B E ((key, cell b (cs.take o ++ cs' ++ cs.drop (o + cs'.length))) :: H) rest) :
    St r P ops Q B E H ({ dst := none, op := .store T x y, type := ty, pos := pos, after := af, guard := none } :: rest) :=
  fun a w h => o_storePA h (hx := hx) (hk := hk) (hy := hy) (ht := ht) (hn := hn) (ho := ho) (k := k)

theorem sO {α : Type} {T n key i j et : Nat} {v : Value} {enc : α → List AV} {xs : List α} {x z : Operand} {y y' : α} {φ : AV} (hx : lkO x E = eptr key v n i j) (hk : lkH key H = own v et n enc xs)
    (hz : lkO z E = φ) [h1 : One φ] (ht : IsOne P T) (hy : xs[i]? = some y) (hj : Nat.blt j n = true) (he : enc y' = (enc y).take j ++ [φ] ++ (enc y).drop (j + 1))
    (k : St r P ops Q B E ((key, own v et n enc (xs.set i y')) :: H) rest) :
    St r P ops Q B E H ({ dst := none, op := .store T x z, type := ty, pos := pos, after := af, guard := none } :: rest) :=
  fun a w h => o_storeO h (hx := hx) (hk := hk) (hz := hz) (ht := ht) (hy := hy) (hj := hj) (he := he) (k := k)

theorem sOA {α : Type} {T m n key i j et : Nat} {v : Value} {enc : α → List AV} {xs : List α} {x z : Operand} {y y' : α} {cs' : List AV} (hx : lkO x E = eptr key v n i j) (hk : lkH key H = own v et n enc xs)
    (hz : lkO z E = agg cs') [h1 : OneAll cs'] (ht : IsAgg P T m) (hm : cs'.length = m) (hy : xs[i]? = some y) (hj : Nat.ble (j + m) n = true) (he : enc y' = (enc y).take j ++ cs' ++ (enc y).drop (j + cs'.length))
    (k : St r P ops Q B E ((key, own v et n enc (xs.set i y')) :: H) rest) :
    St r P ops Q B E H ({ dst := none, op := .store T x z, type := ty, pos := pos, after := af, guard := none } :: rest) :=
  fun a w h => o_storeOA h (hx := hx) (hk := hk) (hz := hz) (ht := ht) (hm := hm) (hy := hy) (hj := hj) (he := he) (k := k)

theorem al {t key : Nat} {zs : List Value} (hz : ZeroIs P t zs) {cs : List AV} (hc : Exact cs zs)
    (k : ∀ b, St r P ops Q B ((d, ptr key b 0) :: E) ((key, cell b cs) :: H) rest) (hn : Nat.blt d B.nt = true := by rfl) :
    St r P ops Q B E H ({ dst := some d, op := .alloc t, type := ty, pos := pos, after := af, guard := none } :: rest) :=
  fun a w h => o_alloc h (hz := hz) (hc := hc) (k := k) (hn := hn)

theorem mk {α : Type} {T e n by_ key m : Nat} {z : List Value} {enc : α → List AV} {y : α} {l c : Operand} (hl : lkO l E = int (m : Int)) (hc : lkO c E = int (m : Int)) (hT : MakeT P T e n by_ z)
    (hy : Exact (enc y) z) (hb : m * by_ ≤ maxL) (hm : m ≤ maxL)
    (k : ∀ v, St r P ops Q B ((d, osl key v) :: E) ((key, own v e n enc (List.replicate m y)) :: H) rest) (hn : Nat.blt d B.nt = true := by rfl) :
    St r P ops Q B E H ({ dst := some d, op := .makeSlice T l c, type := ty, pos := pos, after := af, guard := none } :: rest) :=
  fun a w h => o_make h (hl := hl) (hc := hc) (hT := hT) (hy := hy) (hb := hb) (hm := hm) (k := k) (hn := hn)

theorem ap {α β : Type} {T e n by_ key : Nat} {z : List Value} {enc : α → List AV} {enc' : β → List AV} {xs zs : List α} {ys : List β} {v : Value} {s x : Operand} (hs : ∀ {w F u}, (lkO s E).p w F u → u = v)
    (hk : lkH key H = own v e n enc xs) (hx : lkO x E = sl n enc' ys) (hz : ys.map enc' = zs.map enc) (hT : MakeT P T e n by_ z) [h1 : ∀ y, OneAll (enc y)] (hm : xs.length + ys.length ≤ maxL) (hby : (xs.length + ys.length) * by_ ≤ maxL)
    (k : ∀ v, St r P ops Q B ((d, osl key v) :: E) ((key, own v e n enc (xs ++ zs)) :: H) rest) (hn : Nat.blt d B.nt = true := by rfl) :
    St r P ops Q B E H ({ dst := some d, op := .call { callee := .builtin .append, args := #[s, x], argTypes := #[T, T] }, type := ty, pos := pos, after := af, guard := none } :: rest) :=
  fun a w h => o_append h (hs := hs) (hk := hk) (hx := hx) (hz := hz) (hT := hT) (hm := hm) (hby := hby) (k := k) (hn := hn)

theorem cl {f : FuncId} {xs : List Operand} {Hi : Hp} {res : Nat → ι → AV} {Ho : ι → Hp} {ts : Array TypeId} (hf : Fn P f (opds xs E) Hi res Ho) (he : Ent P f) (hHi : SubH Hi H)
    (k : ∀ N i, St r P ops Q B ((d, res N i) :: E) (outH (Ho i) Hi H) rest) (hn : Nat.blt d B.nt = true := by rfl) :
    St r P ops Q B E H ({ dst := some d, op := .call { callee := .value (.func f), args := xs.toArray, argTypes := ts }, type := ty, pos := pos, after := af, guard := none } :: rest) :=
  fun a w h => o_call h (hf := hf) (he := he) (hHi := hHi) (k := k) (hn := hn)

theorem cl0 {f : FuncId} {xs : List Operand} {φ : AV} {ts : Array TypeId} (hf : Fn0 P f (opds xs E) φ) (he : Ent P f)
    (k : St r P ops Q B ((d, φ) :: E) H rest) (hn : Nat.blt d B.nt = true := by rfl) :
    St r P ops Q B E H ({ dst := some d, op := .call { callee := .value (.func f), args := xs.toArray, argTypes := ts }, type := ty, pos := pos, after := af, guard := none } :: rest) :=
  fun a w h => o_call0 h (hf := hf) (he := he) (k := k) (hn := hn)

theorem bs {T e n by_ len : Nat} {z : List Value} {ps : List (Nat × Operand)} {css : List (List AV)} (hT : MakeT P T e n by_ z) (hp : Parts E n 0 ps css) (hl : Nat.beq css.length len = true) (h0 : Nat.blt 0 len = true) (hm : Nat.ble (len * n) 1000 = true)
    (k : St r P ops Q B ((d, sl n id css) :: E) H rest) (hn : Nat.blt d B.nt = true := by rfl) :
    St r P ops Q B E H ({ dst := some d, op := .buildSlice T len ps.toArray, type := ty, pos := pos, after := af, guard := none } :: rest) :=
  fun a w h => o_bs h (hT := hT) (hp := hp) (hl := hl) (h0 := h0) (hm := hm) (k := k) (hn := hn)

theorem bd {T : Nat} {pl : List (Nat × Nat)} {z : List Value} {zs : List AV} {ps : List (Nat × Operand)} {css : List (Nat × List AV)} (hT : StructT P T pl z) (hz : Exact zs z) (hp : PartsS E pl z.length ps css)
    (k : St r P ops Q B ((d, agg (fillA zs css)) :: E) H rest) (hn : Nat.blt d B.nt = true := by rfl) :
    St r P ops Q B E H ({ dst := some d, op := .build T ps.toArray, type := ty, pos := pos, after := af, guard := none } :: rest) :=
  fun a w h => o_bd h (hT := hT) (hz := hz) (hp := hp) (k := k) (hn := hn)

theorem idxS {T : Nat} {x i : Operand} {s : ByteArray} {m : Int} (hx : lkO x E = str s) (hi : lkO i E = int m) (hT : P.underlying T = some .string) (h0 : 0 ≤ m) (h1 : m < (s.size : Int))
    (k : St r P ops Q B ((d, u8 (byteAt s m.toNat)) :: E) H rest) (hn : Nat.blt d B.nt = true := by rfl) :
    St r P ops Q B E H ({ dst := some d, op := .index T x i, type := ty, pos := pos, after := af, guard := none } :: rest) :=
  fun a w h => o_idxS h (hx := hx) (hi := hi) (hT := hT) (h0 := h0) (h1 := h1) (k := k) (hn := hn)

theorem idxA {T e m : Nat} {x i : Operand} {cs : List AV} {j : Nat} {φ : AV} (hx : lkO x E = agg cs) (hi : lkO i E = int (j : Int)) (hT : P.underlying T = some (.array m e)) (he : IsOne P e) (hj : Nat.blt j m = true) (hc : cs[j]? = some φ)
    (k : St r P ops Q B ((d, φ) :: E) H rest) (hn : Nat.blt d B.nt = true := by rfl) :
    St r P ops Q B E H ({ dst := some d, op := .index T x i, type := ty, pos := pos, after := af, guard := none } :: rest) :=
  fun a w h => o_idxA h (hx := hx) (hi := hi) (hT := hT) (he := he) (hj := hj) (hc := hc) (k := k) (hn := hn)

theorem mkf {f : FuncId} {xs : List Operand} 
    (k : St r P ops Q B ((d, clo f (opds xs E)) :: E) H rest) (hn : Nat.blt d B.nt = true := by rfl) :
    St r P ops Q B E H ({ dst := some d, op := .makeFunc (.func f) #[] xs.toArray, type := ty, pos := pos, after := af, guard := none } :: rest) :=
  fun a w h => o_mkf h (k := k) (hn := hn)

theorem callV {x : Operand} {v : Value} {xs : List Operand} {Hi : Hp} {res : Nat → ι → AV} {Ho : ι → Hp} {ts : Array TypeId} (hx : lkO x E = eqv v) (hf : FnV P v (opds xs E) Hi res Ho) (hHi : SubH Hi H)
    (k : ∀ N i, St r P ops Q B ((d, res N i) :: E) (outH (Ho i) Hi H) rest) (hn : Nat.blt d B.nt = true := by rfl) :
    St r P ops Q B E H ({ dst := some d, op := .call { callee := .value x, args := xs.toArray, argTypes := ts }, type := ty, pos := pos, after := af, guard := none } :: rest) :=
  fun a w h => o_callV h (hx := hx) (hf := hf) (hHi := hHi) (k := k) (hn := hn)

theorem callP {α : Type} {x : Operand} {dom : α → Prop} {D : α → List AV} {p : α → AV} {xs : List Operand} {ts : Array TypeId} (hx : lkO x E = pf P dom D p) (y : α) (hy : dom y) (hD : opds xs E = D y)
    (k : St r P ops Q B ((d, p y) :: E) H rest) (hn : Nat.blt d B.nt = true := by rfl) :
    St r P ops Q B E H ({ dst := some d, op := .call { callee := .value x, args := xs.toArray, argTypes := ts }, type := ty, pos := pos, after := af, guard := none } :: rest) :=
  fun a w h => o_callP h (hx := hx) (y := y) (hy := hy) (hD := hD) (k := k) (hn := hn)

theorem callC {f : FuncId} {cs : List AV} {x : Operand} {xs : List Operand} {Hi : Hp} {res : Nat → ι → AV} {Ho : ι → Hp} {ts : Array TypeId} (hx : lkO x E = clo f cs) (hf : Fn P f (opds xs E ++ cs) Hi res Ho) (he : Ent P f) (hHi : SubH Hi H)
    (k : ∀ N i, St r P ops Q B ((d, res N i) :: E) (outH (Ho i) Hi H) rest) (hn : Nat.blt d B.nt = true := by rfl) :
    St r P ops Q B E H ({ dst := some d, op := .call { callee := .value x, args := xs.toArray, argTypes := ts }, type := ty, pos := pos, after := af, guard := none } :: rest) :=
  fun a w h => o_callC h (hx := hx) (hf := hf) (he := he) (hHi := hHi) (k := k) (hn := hn)

theorem mkm {T key : Nat} {dom : κ → Prop} {kE : κ → Value} {vE : ν → AV} 
    (k : ∀ b, St r P ops Q B ((d, mpv key b) :: E) ((key, mp b kE dom vE []) :: H) rest) (hn : Nat.blt d B.nt = true := by rfl) :
    St r P ops Q B E H ({ dst := some d, op := .makeMap T none, type := ty, pos := pos, after := af, guard := none } :: rest) :=
  fun a w h => o_mkm h (k := k) (hn := hn)

theorem lookup {T K V b key : Nat} {kE : κ → Value} {dom : κ → Prop} {vE : ν → AV} {l : List (κ × ν)} {x y : Operand} {z : ν} {q : κ} (hx : lkO x E = mpv key b) (hk : lkH key H = mp b kE dom vE l) (hy : ∀ {w F v}, (lkO y E).p w F v → v = kE q) (hT : MapT P T K V kE dom)
    (hq : dom q) (hz : ∀ w F, ∃ v, (zeroValue V).run P w = .ok v w ∧ (vE z).p w F v)
    (k : St r P ops Q B ((d, vE ((mget l q).getD z)) :: E) H rest) (hn : Nat.blt d B.nt = true := by rfl) :
    St r P ops Q B E H ({ dst := some d, op := .lookup T x y false, type := ty, pos := pos, after := af, guard := none } :: rest) :=
  fun a w h => o_lookup h (hx := hx) (hk := hk) (hy := hy) (hT := hT) (hq := hq) (hz := hz) (k := k) (hn := hn)

theorem lookup2 {T K V b key : Nat} {kE : κ → Value} {dom : κ → Prop} {vE : ν → AV} {l : List (κ × ν)} {x y : Operand} {z : ν} {q : κ} (hx : lkO x E = mpv key b) (hk : lkH key H = mp b kE dom vE l) (hy : ∀ {w F v}, (lkO y E).p w F v → v = kE q) (hT : MapT P T K V kE dom)
    (hq : dom q) (hz : ∀ w F, ∃ v, (zeroValue V).run P w = .ok v w ∧ (vE z).p w F v)
    (k : St r P ops Q B ((d, tup [vE ((mget l q).getD z), bl (mget l q).isSome]) :: E) H rest) (hn : Nat.blt d B.nt = true := by rfl) :
    St r P ops Q B E H ({ dst := some d, op := .lookup T x y true, type := ty, pos := pos, after := af, guard := none } :: rest) :=
  fun a w h => o_lookup2 h (hx := hx) (hk := hk) (hy := hy) (hT := hT) (hq := hq) (hz := hz) (k := k) (hn := hn)

theorem mapUpdate {T K V b key : Nat} {kE : κ → Value} {dom : κ → Prop} {vE : ν → AV} {l : List (κ × ν)} {x y z : Operand} {q : κ} {u : ν} (hx : lkO x E = mpv key b) (hk : lkH key H = mp b kE dom vE l) (hy : ∀ {w F v}, (lkO y E).p w F v → v = kE q) (hz : lkO z E = vE u) (hT : MapT P T K V kE dom)
    (hq : dom q) (k : St r P ops Q B E ((key, mp b kE dom vE (mset l q u)) :: H) rest) :
    St r P ops Q B E H ({ dst := none, op := .mapUpdate T x y z, type := ty, pos := pos, after := af, guard := none } :: rest) :=
  fun a w h => o_mapUpdate h (hx := hx) (hk := hk) (hy := hy) (hz := hz) (hT := hT) (hq := hq) (k := k)

theorem insert {T K V b key : Nat} {kE : κ → Value} {dom : κ → Prop} {vE : ν → AV} {l : List (κ × ν)} {x y z : Operand} {q : κ} {u : ν} (hx : lkO x E = mpv key b) (hk : lkH key H = mp b kE dom vE l) (hy : ∀ {w F v}, (lkO y E).p w F v → v = kE q) (hz : lkO z E = vE u) (hT : MapT P T K V kE dom)
    (hq : dom q) (k : St r P ops Q B E ((key, mp b kE dom vE (mset l q u)) :: H) rest) :
    St r P ops Q B E H ({ dst := none, op := .insert T x y z, type := ty, pos := pos, after := af, guard := none } :: rest) :=
  fun a w h => o_insert h (hx := hx) (hk := hk) (hy := hy) (hz := hz) (hT := hT) (hq := hq) (k := k)

theorem lenM {T K V b key : Nat} {kE : κ → Value} {dom : κ → Prop} {vE : ν → AV} {l : List (κ × ν)} {x : Operand} (hx : lkO x E = mpv key b) (hk : lkH key H = mp b kE dom vE l) (hT : MapT P T K V kE dom)
    (k : St r P ops Q B ((d, int (l.length : Int)) :: E) H rest) (hn : Nat.blt d B.nt = true := by rfl) :
    St r P ops Q B E H ({ dst := some d, op := .call { callee := .builtin .len, args := #[x], argTypes := #[T] }, type := ty, pos := pos, after := af, guard := none } :: rest) :=
  fun a w h => o_lenM h (hx := hx) (hk := hk) (hT := hT) (k := k) (hn := hn)

theorem appendF {α : Type} {T e n by_ : Nat} {z : List Value} {enc : α → List AV} {ys : List α} {s x : Operand} (hs : lkO s E = eqv (.slice none 0 0))
    (hx : lkO x E = sl n enc ys) (hT : MakeT P T e n by_ z) [h1 : ∀ y, OneAll (enc y)] (hby : ys.length * by_ ≤ maxL)
    (k : St r P ops Q B ((d, sl n enc ys) :: E) H rest) (hn : Nat.blt d B.nt = true := by rfl) :
    St r P ops Q B E H ({ dst := some d, op := .call { callee := .builtin .append, args := #[s, x], argTypes := #[T, T] }, type := ty, pos := pos, after := af, guard := none } :: rest) :=
  fun a w h => o_appendF h (hs := hs) (hx := hx) (hT := hT) (hby := hby) (k := k) (hn := hn)

theorem cal0 {f : FuncId} {xs : List Operand} {φs : List AV} {φ : AV} {ts : Array TypeId} (hx : OpdsIs E xs φs) (hf : Fn0 P f φs φ) (he : Ent P f)
    (k : St r P ops Q B ((d, φ) :: E) H rest) (hn : Nat.blt d B.nt = true := by rfl) :
    St r P ops Q B E H ({ dst := some d, op := .call { callee := .value (.func f), args := xs.toArray, argTypes := ts }, type := ty, pos := pos, after := af, guard := none } :: rest) :=
  fun a w h => o_cal0 h (hx := hx) (hf := hf) (he := he) (k := k) (hn := hn)

theorem cal {ι : Type} {f : FuncId} {xs : List Operand} {φs : List AV} {Hi : Hp} {res : Nat → ι → AV} {Ho : ι → Hp} {ts : Array TypeId} (hx : OpdsIs E xs φs) (hf : Fn P f φs Hi res Ho) (he : Ent P f) (hHi : SubH Hi H)
    (k : ∀ N i, St r P ops Q B ((d, res N i) :: E) (outH (Ho i) Hi H) rest) (hn : Nat.blt d B.nt = true := by rfl) :
    St r P ops Q B E H ({ dst := some d, op := .call { callee := .value (.func f), args := xs.toArray, argTypes := ts }, type := ty, pos := pos, after := af, guard := none } :: rest) :=
  fun a w h => o_cal h (hx := hx) (hf := hf) (he := he) (hHi := hHi) (k := k) (hn := hn)

theorem calB {f : FuncId} {xs : List Operand} {φs : List AV} {y : Value} {ts : Array TypeId} (hx : BorIs E H xs φs) (hf : Fn0 P f φs (eqv y)) (he : Ent P f)
    (k : St r P ops Q B ((d, eqv y) :: E) H rest) (hn : Nat.blt d B.nt = true := by rfl) :
    St r P ops Q B E H ({ dst := some d, op := .call { callee := .value (.func f), args := xs.toArray, argTypes := ts }, type := ty, pos := pos, after := af, guard := none } :: rest) :=
  fun a w h => o_calB h (hx := hx) (hf := hf) (he := he) (k := k) (hn := hn)

theorem storePO {α : Type} {T key b o k2 e n : Nat} {cs : List AV} {v : Value} {enc : α → List AV} {xs : List α} {x y : Operand} (hx : lkO x E = ptr key b o) (hk : lkH key H = cell b cs) (hy : lkO y E = osl k2 v) (hk2 : lkH k2 H = own v e n enc xs) (ht : IsOne P T) (ho : Nat.blt o cs.length = true)
    (k : St r P ops Q B E ((key, cell b (cs.set o (osl k2 v))) :: H) rest) :
    St r P ops Q B E H ({ dst := none, op := .store T x y, type := ty, pos := pos, after := af, guard := none } :: rest) :=
  fun a w h => o_storePO h (hx := hx) (hk := hk) (hy := hy) (hk2 := hk2) (ht := ht) (ho := ho) (k := k)

theorem bsE {α : Type} {T e n by_ len : Nat} {z : List Value} {ps : List (Nat × Operand)} {css : List (List AV)} {enc : α → List AV} {xs : List α} (hT : MakeT P T e n by_ z) (hp : Parts E n 0 ps css) (hl : Nat.beq css.length len = true) (h0 : Nat.blt 0 len = true) (hm : Nat.ble (len * n) 1000 = true) (he : xs.map enc = css)
    (k : St r P ops Q B ((d, sl n enc xs) :: E) H rest) (hn : Nat.blt d B.nt = true := by rfl) :
    St r P ops Q B E H ({ dst := some d, op := .buildSlice T len ps.toArray, type := ty, pos := pos, after := af, guard := none } :: rest) :=
  fun a w h => o_bsE h (hT := hT) (hp := hp) (hl := hl) (h0 := h0) (hm := hm) (he := he) (k := k) (hn := hn)

theorem bsO {α : Type} {T e n by_ len : Nat} {z : List Value} {ps : List (Nat × Operand)} {css : List (List AV)} {enc : α → List AV} {xs : List α} (key : Nat) (hT : MakeT P T e n by_ z) (hp : Parts E n 0 ps css) (hl : Nat.beq css.length len = true) (h0 : Nat.blt 0 len = true) (hm : Nat.ble (len * n) 1000 = true) (he : xs.map enc = css)
    (k : ∀ v, St r P ops Q B ((d, osl key v) :: E) ((key, own v e n enc xs) :: H) rest) (hn : Nat.blt d B.nt = true := by rfl) :
    St r P ops Q B E H ({ dst := some d, op := .buildSlice T len ps.toArray, type := ty, pos := pos, after := af, guard := none } :: rest) :=
  fun a w h => o_bsO h (key := key) (hT := hT) (hp := hp) (hl := hl) (h0 := h0) (hm := hm) (he := he) (k := k) (hn := hn)

theorem sliceF {α : Type} {T e n l m : Nat} {enc : α → List AV} {xs : List α} {x : Operand} {lo hi : Option Operand} (hx : lkO x E = sl n enc xs) (hT : IsSlice P T e n) (hlo : BdIs E lo 0 l) (hhi : BdIs E hi xs.length m) (h1 : l ≤ m) (h2 : m ≤ xs.length)
    (k : St r P ops Q B ((d, sl n enc ((xs.take m).drop l)) :: E) H rest) (hn : Nat.blt d B.nt = true := by rfl) :
    St r P ops Q B E H ({ dst := some d, op := .slice T x lo hi none, type := ty, pos := pos, after := af, guard := none } :: rest) :=
  fun a w h => o_sliceF h (hx := hx) (hT := hT) (hlo := hlo) (hhi := hhi) (h1 := h1) (h2 := h2) (k := k) (hn := hn)

theorem bs0 {α : Type} {T e n by_ : Nat} {z : List Value} (key : Nat) (enc : α → List AV) (hT : MakeT P T e n by_ z)
    (k : ∀ v, St r P ops Q B ((d, osl key v) :: E) ((key, own v e n enc []) :: H) rest) (hn : Nat.blt d B.nt = true := by rfl) :
    St r P ops Q B E H ({ dst := some d, op := .buildSlice T 0 #[], type := ty, pos := pos, after := af, guard := none } :: rest) :=
  fun a w h => o_bs0 h (key := key) (enc := enc) (hT := hT) (k := k) (hn := hn)

theorem mkB {α : Type} {T e n by_ key m : Nat} {z : List Value} {enc : α → List AV} {y : α} {l c : Operand} (hl : lkO l E = int (m : Int)) (hc : lkO c E = int (m : Int)) (hT : MakeT P T e n by_ z)
    (hy : Exact (enc y) z) (hb : m * by_ ≤ maxL) (hm : m ≤ maxL)
    (k : ∀ b, St r P ops Q B ((d, osl key (.slice (some ⟨b, 0, none⟩) m m)) :: E) ((key, own (.slice (some ⟨b, 0, none⟩) m m) e n enc (List.replicate m y)) :: H) rest) (hn : Nat.blt d B.nt = true := by rfl) :
    St r P ops Q B E H ({ dst := some d, op := .makeSlice T l c, type := ty, pos := pos, after := af, guard := none } :: rest) :=
  fun a w h => o_makeB h (hl := hl) (hc := hc) (hT := hT) (hy := hy) (hb := hb) (hm := hm) (k := k) (hn := hn)

theorem iPA {T m e key b o j : Nat} {x i : Operand} (hx : lkO x E = ptr key b o) (hi : lkO i E = int (j : Int)) (hT : P.underlying T = some (.array m e)) (he : IsOne P e) (hj : Nat.blt j m = true)
    (k : St r P ops Q B ((d, ptr key b (o + j)) :: E) H rest) (hn : Nat.blt d B.nt = true := by rfl) :
    St r P ops Q B E H ({ dst := some d, op := .indexAddr T x i, type := ty, pos := pos, after := af, guard := none } :: rest) :=
  fun a w h => o_iPA h (hx := hx) (hi := hi) (hT := hT) (he := he) (hj := hj) (k := k) (hn := hn)

theorem sOO {α β : Type} {T n key i j et k2 e2 n2 : Nat} {v u : Value} {enc : α → List AV} {xs : List α} {enc2 : β → List AV} {xs2 : List β} {x z : Operand} {y y' : α} (hx : lkO x E = eptr key v n i j) (hk : lkH key H = own v et n enc xs)
    (hz : lkO z E = eqv u) (hk2 : lkH k2 H = own u e2 n2 enc2 xs2) (ht : IsOne P T) (hy : xs[i]? = some y) (hj : Nat.blt j n = true) (he : enc y' = (enc y).take j ++ [eqv u] ++ (enc y).drop (j + 1))
    (k : St r P ops Q B E ((key, own v et n enc (xs.set i y')) :: H) rest) :
    St r P ops Q B E H ({ dst := none, op := .store T x z, type := ty, pos := pos, after := af, guard := none } :: rest) :=
  fun a w h => o_sOO h (hx := hx) (hk := hk) (hz := hz) (hk2 := hk2) (ht := ht) (hy := hy) (hj := hj) (he := he) (k := k)

theorem cv {T T' : Nat} {x : Operand} {k1 k2 : IntKind} {m : Int} (hx : lkO x E = eqv (.int k1 m)) (hT : P.underlying T = some (.int k1)) (hT' : P.underlying T' = some (.int k2)) (hw : k2.wrap m = m)
    (k : St r P ops Q B ((d, eqv (.int k2 m)) :: E) H rest) (hn : Nat.blt d B.nt = true := by rfl) :
    St r P ops Q B E H ({ dst := some d, op := .convert T T' x, type := ty, pos := pos, after := af, guard := none } :: rest) :=
  fun a w h => o_cv h (hx := hx) (hT := hT) (hT' := hT') (hw := hw) (k := k) (hn := hn)

theorem sliceV {T e n l m cap key b : Nat} {x : Operand} {lo hi : Option Operand} (hx : lkO x E = osl key (.slice (some ⟨b, 0, none⟩) n cap)) (hT : IsSlice P T e 1) (hlo : BdIs E lo 0 l) (hhi : BdIs E hi n m) (h1 : l ≤ m) (h2 : m ≤ n) (h3 : n ≤ cap) (h4 : l < cap ∨ l = 0)
    (k : St r P ops Q B ((d, eqv (.slice (some ⟨b, l, none⟩) (m - l) (cap - l))) :: E) H rest) (hn : Nat.blt d B.nt = true := by rfl) :
    St r P ops Q B E H ({ dst := some d, op := .slice T x lo hi none, type := ty, pos := pos, after := af, guard := none } :: rest) :=
  fun a w h => o_sliceV h (hx := hx) (hT := hT) (hlo := hlo) (hhi := hhi) (h1 := h1) (h2 := h2) (h3 := h3) (h4 := h4) (k := k) (hn := hn)

theorem cpF {α : Type} {T T' e by_ m cap l c et b i key n : Nat} {z : List Value} {enc : α → List AV} {xs ys : List α} {x y : Operand} (hx : lkO x E = eqv (.slice (some ⟨b, i, none⟩) l c)) (hk : lkH key H = own (.slice (some ⟨b, 0, none⟩) m cap) et 1 enc xs)
    (hy : lkO y E = sl 1 enc ys) (hT : MakeT P T e 1 by_ z) (hone : ∀ y : α, OneAll (enc y)) (hn : n = min ys.length l) (hfit : i + n ≤ xs.length)
    (k : St r P ops Q B ((d, int (n : Int)) :: E) ((key, own (.slice (some ⟨b, 0, none⟩) m cap) et 1 enc (xs.take i ++ ys.take n ++ xs.drop (i + n))) :: H) rest) (hd : Nat.blt d B.nt = true := by rfl) :
    St r P ops Q B E H ({ dst := some d, op := .call { callee := .builtin .copy, args := #[x, y], argTypes := #[T, T'] }, type := ty, pos := pos, after := af, guard := none } :: rest) :=
  fun a w h => o_cpF h (hx := hx) (hk := hk) (hy := hy) (hT := hT) (hone := hone) (hn := hn) (hfit := hfit) (k := k) (hd := hd)

theorem cpO {α : Type} {T T' e by_ m cap l c l2 c2 et b i key n : Nat} {z : List Value} {enc : α → List AV} {xs : List α} {x y : Operand} (hx : lkO x E = eqv (.slice (some ⟨b, i, none⟩) l c)) (hk : lkH key H = own (.slice (some ⟨b, 0, none⟩) m cap) et 1 enc xs)
    (hy : lkO y E = eqv (.slice (some ⟨b, 0, none⟩) l2 c2)) (hT : MakeT P T e 1 by_ z) (hone : ∀ y : α, OneAll (enc y)) (hn : n = min l2 l) (hl2 : l2 ≤ xs.length) (hfit : i + n ≤ xs.length)
    (k : St r P ops Q B ((d, int (n : Int)) :: E) ((key, own (.slice (some ⟨b, 0, none⟩) m cap) et 1 enc (xs.take i ++ xs.take n ++ xs.drop (i + n))) :: H) rest) (hd : Nat.blt d B.nt = true := by rfl) :
    St r P ops Q B E H ({ dst := some d, op := .call { callee := .builtin .copy, args := #[x, y], argTypes := #[T, T'] }, type := ty, pos := pos, after := af, guard := none } :: rest) :=
  fun a w h => o_cpO h (hx := hx) (hk := hk) (hy := hy) (hT := hT) (hone := hone) (hn := hn) (hl2 := hl2) (hfit := hfit) (k := k) (hd := hd)


end
end AL
