/- The abstract logic. Own texts of this claim, packed: ALRegion. -/
import Derived.Test.YtolpjmllmlahfaaDoorX02
set_option linter.all false
/- The abstract logic, part 14: memory that a call has handed over: read as it was handed over; written, cell by cell, as its kinds are. Under no conditions: general lemmas. -/

set_option linter.unusedVariables false
namespace AL
open Go
attribute [local semireducible] any eqv agg tup fp ptr sl exi andp above emp cell own obj osl eptr clo pf mp mpv
/-- Memory handed over, and what it reads as. -/
def reg (D : Fz) (ψs : List AV) (vs : List Value) : HA :=
  ⟨D, fun w _ => All2 w D ψs vs ∧ ∀ b, D b → wr w b, fun _ hw ⟨h1, h2⟩ => ⟨h1.st (fun _ h => h) (fun b hb => hw b (.inr hb)), fun b hb => wr_st (hw b (.inr hb)) (h2 b hb)⟩⟩
/-- Kinds of cells that hold no memory. -/
inductive Sh where
  | i
  | s
def Sh.is : Sh → Value → Prop
  | .i, v => ∃ k m, v = .int k m
  | .s, v => ∃ s, v = .string s
def cellW (W : World) (b o : Nat) (u : Value) : Prop := ∃ c ty fr, W.heap[b]? = some (.cells c ty fr) ∧ c[o]? = some u
/-- What stands now where u stood; z: it may have been cleared. -/
def kin (z : Prop) (u u' : Value) : Prop := u' = u ∨ (∃ k m k' m', u = .int k m ∧ u' = .int k' m') ∨ (∃ s s', u = .string s ∧ u' = .string s') ∨ (z ∧ (∃ A m c, u = .slice A m c) ∧ u' = .slice none 0 0)
def kinB (Z : Nat → Nat → Prop) (W w : World) (b : Nat) : Prop := ∃ c ty c' ty', W.heap[b]? = some (.cells c ty (0, 0)) ∧ w.heap[b]? = some (.cells c' ty' (0, 0)) ∧ c'.size = c.size ∧ ∀ (j : Nat) (u : Value), c[j]? = some u → ∃ u', c'[j]? = some u' ∧ kin (Z b j) u u'
/-- The memory of a region, turned since W in the cells that hold no memory; Z: the cells with slices that may have been cleared. -/
def rgz (D : Fz) (W : World) (Z : Nat → Nat → Prop) : HA :=
  ⟨D, fun w _ => ∀ b, D b → kinB Z W w b, fun _ hw h b hb => by
    obtain ⟨c, ty, c', ty', h1, h2, h3⟩ := h b hb
    exact ⟨c, ty, c', ty', h1, (hw b (.inr hb)).trans h2, h3⟩⟩
def noZ : Nat → Nat → Prop := fun _ _ => False
/-- The first k elements of a slice, of n cells each. -/
def firstZ (v : Value) (n k : Nat) : Nat → Nat → Prop := fun b o => ∃ off m c, v = .slice (some ⟨b, off, none⟩) m c ∧ off ≤ o ∧ o < off + k * n
/-- What read as φ at W. -/
def wv (W : World) (D : Fz) (φ : AV) : AV := ⟨fun _ _ v => φ.p W D v, fun _ _ h => h⟩
/-- A pointer to cells of kinds. -/
def tp (W : World) (D : Fz) (n : Nat) (f : Nat → Sh) : AV := ⟨fun _ _ v => ∃ b off, v = .pointer (some ⟨b, off, none⟩) ∧ D b ∧ ∀ j, j < n → ∃ u, cellW W b (off + j) u ∧ (f j).is u, fun _ _ h => h⟩
/-- A pointer to cell j of element i of a slice. -/
def xp (v : Value) (n i j : Nat) : AV := ⟨fun _ _ u => ∃ b off m c, v = .slice (some ⟨b, off, none⟩) m c ∧ u = .pointer (some ⟨b, off + i * n + j, none⟩), fun _ _ h => h⟩
/-- What may be put into a cell of a kind. -/
class Fit (τ : Sh) (φ : AV) : Prop where
  fit : ∀ {z w F u v}, τ.is u → φ.p w F v → kin z u v ∧ v.oneCell' = true
instance (k : IntKind) (m : Int) : Fit .i (eqv (.int k m)) := ⟨fun {z w F u v} h hv => by
  obtain ⟨k', m', rfl⟩ := h
  have hv : v = .int k m := hv
  subst hv
  exact ⟨.inr (.inl ⟨_, _, _, _, rfl, rfl⟩), rfl⟩⟩
instance (s : ByteArray) : Fit .s (eqv (.string s)) := ⟨fun {z w F u v} h hv => by
  obtain ⟨s', rfl⟩ := h
  have hv : v = .string s := hv
  subst hv
  exact ⟨.inr (.inr (.inl ⟨_, _, rfl, rfl⟩)), rfl⟩⟩
/-- Elements whose cells are of kinds. -/
class Kinds {α : Type} (enc : α → List AV) (n : Nat) (f : Nat → Sh) : Prop where
  kinds : ∀ (x : α) {w F vs}, All2 w F (enc x) vs → ∀ (j : Nat) (v : Value), vs[j]? = some v → (f j).is v
theorem rd_cellW {W : World} {b off j : Nat} {vs : List Value} {u : Value} (h : rdAt W b off vs) (hj : vs[j]? = some u) : cellW W b (off + j) u := by
  obtain ⟨c, ty, fr, hc, hv⟩ := h
  exact ⟨c, ty, fr, hc, hv j u hj⟩
/-- The cells of a slice's element. -/
theorem sl_elem {α : Type} {W : World} {D : Fz} {n : Nat} {enc : α → List AV} {xs : List α} {v : Value} (h : (AL.sl n enc xs).p W D v) {i : Nat} {x : α} (hi : xs[i]? = some x) :
    ∃ b off c us, v = .slice (some ⟨b, off, none⟩) xs.length c ∧ D b ∧ us.length = n ∧ rdAt W b (off + i * n) us ∧ All2 W D (enc x) us := by
  have hlt : i < xs.length := (List.getElem?_eq_some_iff.1 hi).1
  obtain ⟨A, cap, hv, _, _, hA⟩ := h
  obtain ⟨b, off, vs, rfl, hD, hr, he⟩ := hA (by intro e; subst e; simp at hlt)
  exact ⟨b, off, cap, _, hv, hD, he.lenD hlt, (hr.drop (i * n)).take n, he.el i x hi⟩
section
variable {P : Program} {r : Option Nat} {ops : Array Oper} {Q : Exit → Act → World → Prop} {rest : List Oper} {B : Base} {E : Env} {H : Hp} {a : Act} {w : World}
variable {d ty : Nat} {pos : String} {af : Array Edge} {ι : Type}
/-- A CALL THAT HANDS MEMORY OVER. -/
theorem o_calR {f : FuncId} {xs : List Operand} {φs : List AV} {res : Nat → Unit → AV} {ts : Array TypeId} (key : Nat) (S : List Value → AV) (ψs : List AV) (h : Sim B E H a w) (hx : OpdsIs E xs φs) (hf : Fn P f φs [] res (fun _ => [])) (he : Ent P f) (hk : lkH key H = emp)
    (hres : ∀ N {w F v}, (res N ()).p w F v → ∃ vs, (∀ {w' F'}, (S vs).p w' F' v) ∧ All2 w (newF N w F) ψs vs)
    (k : ∀ D vs a w, Sim B ((d, S vs) :: E) ((key, reg D ψs vs) :: H) a w → wl r P ops Q rest a w) (hn : Nat.blt d B.nt = true := by rfl) :
    wl r P ops Q ({ dst := some d, op := .call { callee := .value (.func f), args := xs.toArray, argTypes := ts }, type := ty, pos := pos, after := af, guard := none } :: rest) a w := by
  obtain ⟨F, Ds, hs⟩ := h
  have hf : Fn P f (opds xs E) [] res (fun _ => []) := by rw [hx.eq]; exact hf
  refine wl_enter (f := f) (args := (xs.map a.eval).toArray) rfl (fun _ => nofun) ?_ (hf w F _ (hs.opds xs) (fun b hb => (hs.Fb b hb).1) (hpOk_nil _ _)) (fun e w' hR => ?_)
  · simp [execOp, resolve, Act.eval, Deferred.ofValue, invoke, he.run]
  · obtain ⟨_, v, F', rfl, hl⟩ := hR
    obtain ⟨vs, hS, hvs⟩ := hres _ hl.res
    have hnf : ∀ b, ¬ footH [] b := fun b ⟨k, h⟩ => h
    refine ⟨v, rfl, k (newF w.heap.size w' F') vs _ _ ⟨F, Ds, (hs.upd key (reg (newF w.heap.size w' F') ψs vs) hl.size hl.os hl.tape hl.out (fun b hb _ => hl.old b hb (hnf b)) (fun b hb => ⟨.inr hb.2.1, ?_⟩) ⟨hvs, fun b hb => hb.2.2⟩).put (by simpa using hn) hS⟩⟩
    obtain ⟨c, t, hc⟩ := hb.2.2
    exact (Array.getElem?_eq_some_iff.1 hc).1
theorem calR {f : FuncId} {xs : List Operand} {φs : List AV} {res : Nat → Unit → AV} {ts : Array TypeId} (key : Nat) (S : List Value → AV) (ψs : List AV) (hx : OpdsIs E xs φs) (hf : Fn P f φs [] res (fun _ => [])) (he : Ent P f) (hk : lkH key H = emp)
    (hres : ∀ N {w F v}, (res N ()).p w F v → ∃ vs, (∀ {w' F'}, (S vs).p w' F' v) ∧ All2 w (newF N w F) ψs vs)
    (k : ∀ D vs, St r P ops Q B ((d, S vs) :: E) ((key, reg D ψs vs) :: H) rest) (hn : Nat.blt d B.nt = true := by rfl) :
    St r P ops Q B E H ({ dst := some d, op := .call { callee := .value (.func f), args := xs.toArray, argTypes := ts }, type := ty, pos := pos, after := af, guard := none } :: rest) :=
  fun a w h => o_calR key S ψs h hx hf he hk hres (fun D vs a w hs => k D vs a w hs) hn
/-- What a value reads as, with the activation's own memory read as frozen. -/
def Lent (B : Base) (E : Env) (H : Hp) (x : Operand) (φ : AV) : Prop := ∀ {a : Act} {w : World} {F : Fz} {Ds : List Nat}, SimF B E H a w F Ds → φ.p w (fun b => F b ∨ footH H b) (a.eval x)
def LentAll (B : Base) (E : Env) (H : Hp) : List Operand → List AV → Prop
  | [], [] => True
  | x :: xs, φ :: φs => Lent B E H x φ ∧ LentAll B E H xs φs
  | _, _ => False
theorem LentAll.all {F : Fz} {Ds : List Nat} (hs : SimF B E H a w F Ds) : ∀ {xs : List Operand} {φs : List AV}, LentAll B E H xs φs → All2 w (fun b => F b ∨ footH H b) φs (xs.map a.eval)
  | [], [], _ => trivial
  | _ :: _, _ :: _, h => ⟨h.1 hs, LentAll.all hs h.2⟩
  | [], _ :: _, h => h.elim
  | _ :: _, [], h => h.elim
theorem lhere {x : Operand} {φ : AV} (h : lkO x E = φ) : Lent B E H x φ := fun {a w F Ds} hs => by
  have := hs.opd x
  rw [h] at this
  exact φ.st (fun _ h => .inl h) (fun _ _ => rfl) this
theorem reg_get {D : Fz} {ψs : List AV} {vs : List Value} {key i : Nat} {φ : AV} {F : Fz} {Ds : List Nat} (hs : SimF B E H a w F Ds) (hk : lkH key H = reg D ψs vs) (hi : ψs[i]? = some φ) : φ.p w D (ix vs i) := by
  have h := hs.hp key
  rw [hk] at h
  obtain ⟨u, hu, hp⟩ := h.1.get hi
  have : ix vs i = u := by unfold ix; rw [List.getD_eq_getElem?_getD, hu]; rfl
  rw [this]; exact hp
theorem reg_foot {D : Fz} {ψs : List AV} {vs : List Value} {key : Nat} (hk : lkH key H = reg D ψs vs) {b : Nat} (h : D b) : footH H b := ⟨key, by rw [hk]; exact h⟩
theorem sl_sv {α : Type} {n : Nat} {enc : α → List AV} {xs : List α} {w : World} {F : Fz} {v : Value} (h : (sl n enc xs).p w F v) : sv v = v := by
  obtain ⟨A, c, rfl, _⟩ := h; rfl
/-- A slice of a region. -/
theorem lreg {α : Type} {x : Operand} {D : Fz} {ψs : List AV} {vs : List Value} {i n : Nat} {enc : α → List AV} {xs : List α} (key : Nat) (h : lkO x E = eqv (sv (ix vs i))) (hk : lkH key H = reg D ψs vs) (hi : ψs[i]? = some (sl n enc xs)) : Lent B E H x (sl n enc xs) := fun {a w F Ds} hs => by
  have h1 := hs.opd x
  rw [h] at h1
  have h1 : a.eval x = sv (ix vs i) := h1
  have h2 := reg_get hs hk hi
  rw [h1, sl_sv h2]
  exact (sl n enc xs).st (fun b hb => .inr (reg_foot hk hb)) (fun _ _ => rfl) h2
/-- Two slices of a region, as an aggregate. -/
theorem lreg2 {α β : Type} {x : Operand} {D : Fz} {ψs : List AV} {vs : List Value} {i j n m : Nat} {enc : α → List AV} {xs : List α} {enc' : β → List AV} {ys : List β} (key : Nat) (h : lkO x E = agg [eqv (sv (ix vs i)), eqv (sv (ix vs j))]) (hk : lkH key H = reg D ψs vs) (hi : ψs[i]? = some (sl n enc xs)) (hj : ψs[j]? = some (sl m enc' ys)) : Lent B E H x (agg [sl n enc xs, sl m enc' ys]) := fun {a w F Ds} hs => by
  have h1 := hs.opd x
  rw [h] at h1
  obtain ⟨us, hu, ha⟩ := h1
  match us, ha with
  | [u0, u1], ⟨g0, g1, _⟩ =>
    have g0 : u0 = sv (ix vs i) := g0
    have g1 : u1 = sv (ix vs j) := g1
    have h2 := reg_get hs hk hi
    have h3 := reg_get hs hk hj
    subst g0; subst g1
    rw [sl_sv h2, sl_sv h3] at hu
    rw [hu]
    exact ⟨[ix vs i, ix vs j], rfl, (sl n enc xs).st (fun b hb => .inr (reg_foot hk hb)) (fun _ _ => rfl) h2, (sl m enc' ys).st (fun b hb => .inr (reg_foot hk hb)) (fun _ _ => rfl) h3, trivial⟩
/-- A CALL THAT READS OWN MEMORY, AND GIVES NEW MEMORY. -/
theorem o_calF {f : FuncId} {xs : List Operand} {φs : List AV} {φ : AV} {res : Nat → Unit → AV} {ts : Array TypeId} (h : Sim B E H a w) (hx : LentAll B E H xs φs) (hf : Fn P f φs [] res (fun _ => [])) (he : Ent P f)
    (hr : ∀ N {w F v}, (res N ()).p w F v → (fre N φ).p w F v)
    (k : ∀ a w, Sim B ((d, φ) :: E) H a w → wl r P ops Q rest a w) (hn : Nat.blt d B.nt = true := by rfl) :
    wl r P ops Q ({ dst := some d, op := .call { callee := .value (.func f), args := xs.toArray, argTypes := ts }, type := ty, pos := pos, after := af, guard := none } :: rest) a w := by
  obtain ⟨F, Ds, hs⟩ := h
  refine wl_enter (f := f) (args := (xs.map a.eval).toArray) rfl (fun _ => nofun) ?_ (hf w _ _ (hx.all hs) (fun b hb => hb.elim (fun h => (hs.Fb b h).1) (fun ⟨k, h⟩ => (hs.hN k b h).1)) (hpOk_nil _ _)) (fun e w' hR => ?_)
  · simp [execOp, resolve, Act.eval, Deferred.ofValue, invoke, he.run]
  · obtain ⟨_, v, F', rfl, hl⟩ := hR
    have hnf : ∀ b, ¬ footH [] b := fun b ⟨k, h⟩ => h
    have hp := hr _ hl.res
    have hlt : ∀ b, newF w.heap.size w' F' b → b < w'.heap.size := fun b h => by
      obtain ⟨c, t, hc⟩ := h.2.2
      exact (Array.getElem?_eq_some_iff.1 hc).1
    have hp2 : φ.p w' (fun b => F b ∨ newF w.heap.size w' F' b) v := φ.st (fun b hb => Or.inr hb) (fun _ _ => rfl) hp
    exact ⟨v, rfl, k _ _ ⟨fun b => F b ∨ newF w.heap.size w' F' b, Ds, (hs.grow (w' := w') hl.size hl.os hl.tape hl.out (fun b hb => hl.old b hb (hnf b)) (fun _ h => .inl h) (fun b hb => hb.imp id (fun h => ⟨h.2.1, hlt b h⟩))).put (by simpa using hn) hp2⟩⟩
theorem calF {f : FuncId} {xs : List Operand} {φs : List AV} {φ : AV} {res : Nat → Unit → AV} {ts : Array TypeId} (hx : LentAll B E H xs φs) (hf : Fn P f φs [] res (fun _ => [])) (he : Ent P f)
    (hr : ∀ N {w F v}, (res N ()).p w F v → (fre N φ).p w F v) (k : St r P ops Q B ((d, φ) :: E) H rest) (hn : Nat.blt d B.nt = true := by rfl) :
    St r P ops Q B E H ({ dst := some d, op := .call { callee := .value (.func f), args := xs.toArray, argTypes := ts }, type := ty, pos := pos, after := af, guard := none } :: rest) := fun a w h => o_calF h hx hf he hr (fun a w hs => k a w hs) hn
theorem agg_fre {N : Nat} {cs : List AV} {w : World} {F : Fz} {v : Value} (h : (agg (cs.map (fre N))).p w F v) : (fre N (agg cs)).p w F v := by
  obtain ⟨vs, hv, ha⟩ := h
  exact ⟨vs, hv, all2_nw.1 ha⟩
/-- Handed-over memory, to be written. -/
theorem rgT {D : Fz} {ψs : List AV} {vs : List Value} (key : Nat) (hk : lkH key H = reg D ψs vs) (k : ∀ W, All2 W D ψs vs → St r P ops Q B E ((key, rgz D W noZ) :: H) rest) : St r P ops Q B E H rest := fun a w ⟨F, Ds, hs⟩ => by
  have h := hs.hp key
  rw [hk] at h
  refine k w h.1 a w ⟨F, Ds, hs.upd key (rgz D w noZ) (Nat.le_refl _) rfl rfl rfl (fun _ _ _ => rfl) (fun b hb => ⟨.inl (by rw [hk]; exact hb), (hs.hN key b (by rw [hk]; exact hb)).1⟩) (fun b hb => ?_)⟩
  obtain ⟨c, ty, hc⟩ := h.2 b hb
  exact ⟨c, ty, c, ty, hc, hc, rfl, fun j u hu => ⟨u, hu, .inl rfl⟩⟩
/-- More may have been cleared. -/
theorem rgM {D : Fz} {W : World} {Z Z' : Nat → Nat → Prop} (key : Nat) (hk : lkH key H = rgz D W Z) (hZ : ∀ b o, Z b o → Z' b o) (k : St r P ops Q B E ((key, rgz D W Z') :: H) rest) : St r P ops Q B E H rest := fun a w ⟨F, Ds, hs⟩ => by
  have h := hs.hp key
  rw [hk] at h
  refine k a w ⟨F, Ds, hs.upd key (rgz D W Z') (Nat.le_refl _) rfl rfl rfl (fun _ _ _ => rfl) (fun b hb => ⟨.inl (by rw [hk]; exact hb), (hs.hN key b (by rw [hk]; exact hb)).1⟩) (fun b hb => ?_)⟩
  obtain ⟨c, ty, c', ty', h1, h2, h3, h4⟩ := h b hb
  exact ⟨c, ty, c', ty', h1, h2, h3, fun j u hu => by
    obtain ⟨u', hu', hk⟩ := h4 j u hu
    exact ⟨u', hu', hk.imp id (fun h => h.imp id (fun h => h.imp id (fun h => ⟨hZ b j h.1, h.2⟩)))⟩⟩
theorem lenW {α : Type} {W : World} {D : Fz} {T e n' n : Nat} {enc : α → List AV} {xs : List α} {x : Operand} (hx : lkO x E = wv W D (sl n enc xs)) (hT : IsSlice P T e n')
    (k : St r P ops Q B ((d, int (xs.length : Int)) :: E) H rest) (hn : Nat.blt d B.nt = true := by rfl) :
    St r P ops Q B E H ({ dst := some d, op := .call { callee := .builtin .len, args := #[x], argTypes := #[T] }, type := ty, pos := pos, after := af, guard := none } :: rest) := fun a w h =>
  op_val h rfl rfl hn (fun _ => nofun) (fun F Ds hs => by
    have h1 := hs.opd x
    rw [hx] at h1
    obtain ⟨A, cap, hv, _⟩ := h1
    exact ⟨.int .i64 xs.length, by simp [execOp, resolve, hv, invoke, builtin, Builtin.len_, hT.run, goInt], rfl⟩) (fun a w hs => k a w hs)
/-- The place of an element whose cells hold no memory. -/
theorem idxW {α : Type} {W : World} {D : Fz} {T e n : Nat} {enc : α → List AV} {xs : List α} {x i : Operand} {j : Int} (f : Nat → Sh) [hK : Kinds enc n f] (hx : lkO x E = wv W D (sl n enc xs)) (hi : lkO i E = int j) (hT : IsSlice P T e n) (h0 : 0 ≤ j) (hj : j < (xs.length : Int))
    (k : St r P ops Q B ((d, tp W D n f) :: E) H rest) (hn : Nat.blt d B.nt = true := by rfl) :
    St r P ops Q B E H ({ dst := some d, op := .indexAddr T x i, type := ty, pos := pos, after := af, guard := none } :: rest) := fun a w h =>
  op_val h rfl rfl hn (fun _ => nofun) (fun F Ds hs => by
    have h1 := hs.opd x
    have h2 := hs.opd i
    rw [hx] at h1
    rw [hi] at h2
    have h2 : a.eval i = .int .i64 j := h2
    obtain ⟨b, off, c, us, hv, hD, hl, hr, ha⟩ := sl_elem h1 (i := j.toNat) (x := xs[j.toNat]'(by omega)) (List.getElem?_eq_getElem (by omega))
    refine ⟨.pointer (some ⟨b, off + j.toNat * n, none⟩), by simp [execOp, hv, h2, Instr.indexAt, asIntOf, hT.run, h0, hj, hT.size, add_mk], b, off + j.toNat * n, rfl, hD, fun q hq => ?_⟩
    exact ⟨us[q], rd_cellW hr (List.getElem?_eq_getElem (by omega)), hK.kinds _ ha q _ (List.getElem?_eq_getElem (by omega))⟩) (fun a w hs => k a w hs)
/-- The place of an element of a slice of which the cleared part is told. -/
theorem idxX {α : Type} {W : World} {D : Fz} {T e n : Nat} {enc : α → List AV} {xs : List α} {v : Value} {x i : Operand} {j : Int} (hx : lkO x E = eqv v) (hv : (sl n enc xs).p W D v) (hi : lkO i E = int j) (hT : IsSlice P T e n) (h0 : 0 ≤ j) (hj : j < (xs.length : Int))
    (k : St r P ops Q B ((d, xp v n j.toNat 0) :: E) H rest) (hn : Nat.blt d B.nt = true := by rfl) :
    St r P ops Q B E H ({ dst := some d, op := .indexAddr T x i, type := ty, pos := pos, after := af, guard := none } :: rest) := fun a w h =>
  op_val h rfl rfl hn (fun _ => nofun) (fun F Ds hs => by
    have h1 := hs.opd x
    have h2 := hs.opd i
    rw [hx] at h1
    rw [hi] at h2
    have h1 : a.eval x = v := h1
    have h2 : a.eval i = .int .i64 j := h2
    obtain ⟨b, off, c, us, hv, hD, hl, hr, ha⟩ := sl_elem hv (i := j.toNat) (x := xs[j.toNat]'(by omega)) (List.getElem?_eq_getElem (by omega))
    exact ⟨.pointer (some ⟨b, off + j.toNat * n, none⟩), by simp [execOp, h1, hv, h2, Instr.indexAt, asIntOf, hT.run, h0, hj, hT.size, add_mk], b, off, xs.length, c, hv, rfl⟩) (fun a w hs => k a w hs)
theorem fldX {T fi off n i j : Nat} {v : Value} {x : Operand} (hx : lkO x E = xp v n i j) (hf : FieldAt P T fi off)
    (k : St r P ops Q B ((d, xp v n i (j + off)) :: E) H rest) (hn : Nat.blt d B.nt = true := by rfl) :
    St r P ops Q B E H ({ dst := some d, op := .fieldAddr T x fi, type := ty, pos := pos, after := af, guard := none } :: rest) := fun a w h =>
  op_val h rfl rfl hn (fun _ => nofun) (fun F Ds hs => by
    have h1 := hs.opd x
    rw [hx] at h1
    obtain ⟨b, o, m, c, hv, hu⟩ := h1
    exact ⟨.pointer (some ⟨b, o + i * n + j + off, none⟩), by simp [execOp, hu, hf.run], b, o, m, c, hv, by rw [Nat.add_assoc (o + i * n) j off]⟩) (fun a w hs => k a w hs)
/-- A slice in an element that is not cleared. -/
theorem ldX {α β : Type} {W : World} {D : Fz} {T n n' k0 i j key : Nat} {enc : α → List AV} {xs : List α} {enc' : β → List AV} {ys : List β} {v : Value} {x : Operand} (hx : lkO x E = xp v n i j) (hk : lkH key H = rgz D W (firstZ v n k0)) (hv : (sl n enc xs).p W D v) {y : α} (hi : xs[i]? = some y) (hj : (enc y)[j]? = some (sl n' enc' ys)) (hki : k0 ≤ i) (ht : IsOne P T)
    (k : St r P ops Q B ((d, wv W D (sl n' enc' ys)) :: E) H rest) (hn : Nat.blt d B.nt = true := by rfl) :
    St r P ops Q B E H ({ dst := some d, op := .load T x, type := ty, pos := pos, after := af, guard := none } :: rest) := fun a w h =>
  op_val h rfl rfl hn (fun _ => nofun) (fun F Ds hs => by
    have h1 := hs.opd x
    rw [hx] at h1
    obtain ⟨b, o, m, c, hv2, hu⟩ := h1
    obtain ⟨b', off, c', us, hv3, hD, hl, hr, ha⟩ := sl_elem hv hi
    rw [hv2] at hv3
    simp at hv3
    obtain ⟨⟨rfl, rfl⟩, _⟩ := hv3
    obtain ⟨u, hu2, hp⟩ := ha.get hj
    obtain ⟨c0, ty0, fr0, hc0, hu3⟩ := rd_cellW hr hu2
    have h2 := hs.hp key
    rw [hk] at h2
    obtain ⟨cc, t, c', t', g1, g2, g3, g4⟩ := h2 b hD
    have e : c0 = cc := by rw [hc0] at g1; cases g1; rfl
    subst e
    obtain ⟨u', hu', hkin⟩ := g4 _ u hu3
    obtain ⟨A, cp, rfl, hrest⟩ := hp
    have he : u' = .slice A ys.length cp := by
      rcases hkin with h | ⟨_, _, _, _, h, _⟩ | ⟨_, _, h, _⟩ | ⟨hz, _⟩
      · exact h
      · cases h
      · cases h
      · exfalso
        obtain ⟨off2, m2, c2, hv4, h5, h6⟩ := hz
        rw [hv2] at hv4
        simp at hv4
        obtain ⟨rfl, _⟩ := hv4
        have : k0 * n ≤ i * n := Nat.mul_le_mul_right n hki
        omega
    subst he
    have hcell : w.cell? ⟨b, o + i * n + j, none⟩ = some (.slice A ys.length cp) := by simp [World.cell?, g2]; simpa using hu'
    exact ⟨_, by simp [execOp, hu, Instr.loadAt, Instr.sureAddr, run_loadVar_one ht hcell], A, cp, rfl, hrest⟩) (fun a w hs => k a w hs)
theorem kinB_set {Z : Nat → Nat → Prop} {W w : World} {b o : Nat} {vs : List Value} {c' : Array Value} {t' : TypeId} (hg : w.heap[b]? = some (.cells c' t' (0, 0))) (hkin : kinB Z W w b) (h0 : 0 < vs.length) (hc : ∀ (j : Nat) (v : Value), vs[j]? = some v → ∃ u, cellW W b (o + j) u ∧ kin (Z b (o + j)) u v) :
    o + vs.length ≤ c'.size ∧ kinB Z W (w.setRow b (c'.toList.take o ++ vs ++ c'.toList.drop (o + vs.length)).toArray) b := by
  obtain ⟨c, t, c2, t2, g1, g2, g3, g4⟩ := hkin
  have e : c2 = c' ∧ t2 = t' := by rw [g2] at hg; cases hg; exact ⟨rfl, rfl⟩
  obtain ⟨rfl, rfl⟩ := e
  have hlen : o + vs.length ≤ c2.size := by
    obtain ⟨u, ⟨c0, _, _, hc0, hu⟩, _⟩ := hc (vs.length - 1) _ (List.getElem?_eq_getElem (by omega))
    rw [g1] at hc0; cases hc0
    have := (Array.getElem?_eq_some_iff.1 hu).1
    omega
  refine ⟨hlen, c, t, _, t2, g1, setRow_heap w b _ _ t2 _ g2, ?_, fun j u hu => ?_⟩
  · simp; omega
  · have hj : j < c.size := (Array.getElem?_eq_some_iff.1 hu).1
    have htk : (c2.toList.take o).length = o := by simp; omega
    by_cases h1 : j < o
    · obtain ⟨u', hu', hk⟩ := g4 j u hu
      refine ⟨u', ?_, hk⟩
      rw [List.getElem?_toArray, List.append_assoc, List.getElem?_append_left (by rw [htk]; exact h1), List.getElem?_take, if_pos h1]
      simpa using hu'
    · by_cases h2 : j < o + vs.length
      · obtain ⟨u0, ⟨c0, _, _, hc0, hu0⟩, hk⟩ := hc (j - o) _ (List.getElem?_eq_getElem (by omega))
        rw [g1] at hc0; cases hc0
        rw [show o + (j - o) = j by omega] at hu0 hk
        rw [hu] at hu0
        cases hu0
        refine ⟨_, ?_, hk⟩
        rw [List.getElem?_toArray, List.getElem?_append_left (by rw [List.length_append, htk]; exact h2), List.getElem?_append_right (by rw [htk]; omega), htk]
        exact List.getElem?_eq_getElem (by omega)
      · obtain ⟨u', hu', hk⟩ := g4 j u hu
        refine ⟨u', ?_, hk⟩
        rw [List.getElem?_toArray, List.getElem?_append_right (by rw [List.length_append, htk]; omega), List.length_append, htk, List.getElem?_drop, show o + vs.length + (j - (o + vs.length)) = j by omega]
        simpa using hu'
theorem rgs_store {Z : Nat → Nat → Prop} {W w : World} {D : Fz} {F : Fz} {Ds : List Nat} {key b o : Nat} {vs : List Value} {c' : Array Value} {t' : TypeId} (hs : SimF B E H a w F Ds) (hk : lkH key H = rgz D W Z) (hD : D b) (hg : w.heap[b]? = some (.cells c' t' (0, 0))) (h0 : 0 < vs.length) (hc : ∀ (j : Nat) (v : Value), vs[j]? = some v → ∃ u, cellW W b (o + j) u ∧ kin (Z b (o + j)) u v) :
    Sim B E H a (w.setRow b (c'.toList.take o ++ vs ++ c'.toList.drop (o + vs.length)).toArray) := by
  have h := hs.hp key
  rw [hk] at h
  obtain ⟨hlen, hkb⟩ := kinB_set hg (h b hD) h0 hc
  have h1 := hs.row key (rgz D W Z) (c'.toList.take o ++ vs ++ c'.toList.drop (o + vs.length)).toArray (g := b) (by rw [hk]; exact hD) (fun b' hb' => by rw [hk]; exact hb') (fun b' hb' => by
    by_cases e : b' = b
    · subst e; exact hkb
    · obtain ⟨c, t, c2, t2, g1, g2, g3⟩ := h b' hb'
      exact ⟨c, t, c2, t2, g1, (setRow_other w b b' _ e).trans g2, g3⟩)
  refine Sim.less ⟨F, Ds, h1⟩ (fun _ _ _ _ h => h) (fun t => ?_)
  by_cases e : key = t
  · subst e; rw [lkH_same, hk]; exact ⟨fun _ h => h, fun h => h⟩
  · rw [lkH_other _ _ e]; exact ⟨fun _ h => h, fun h => h⟩
theorem stT {Z : Nat → Nat → Prop} {W : World} {D : Fz} {T n key : Nat} {f : Nat → Sh} {φ : AV} {x y : Operand} (hx : lkO x E = tp W D n f) (hk : lkH key H = rgz D W Z) (h0 : Nat.blt 0 n = true) (ht : IsOne P T) (hy : lkO y E = φ) [hfit : Fit (f 0) φ]
    (k : St r P ops Q B E H rest) : St r P ops Q B E H ({ dst := none, op := .store T x y, type := ty, pos := pos, after := af, guard := none } :: rest) := fun a w h =>
  op_skp (ι := Unit) (E' := fun _ => E) (H' := fun _ => H) h rfl (fun _ => nofun) (fun F Ds hs => by
    have h1 := hs.opd x
    have hvy := hs.opd y
    rw [hx] at h1
    rw [hy] at hvy
    obtain ⟨b, o, hv, hD, hc⟩ := h1
    obtain ⟨u, hu, hcf⟩ := hc 0 (by simpa using h0)
    obtain ⟨hkin, hone⟩ := hfit.fit (z := Z b (o + 0)) hcf hvy
    have h2 := hs.hp key
    rw [hk] at h2
    obtain ⟨c, t, c', t', g1, g2, g3, g4⟩ := h2 b hD
    have hlt : o < c'.size := by
      obtain ⟨c0, _, _, hc0, hu0⟩ := hu
      rw [g1] at hc0; cases hc0
      have := (Array.getElem?_eq_some_iff.1 hu0).1
      omega
    refine ⟨w.setRow b (c'.toList.take o ++ [a.eval y] ++ c'.toList.drop (o + 1)).toArray, ?_, (), ?_⟩
    · have := run_storeVar_one (P := P) (v := a.eval y) ht g2 hlt hone
      simp only [execOp, hv, Instr.storeAt, Instr.sureAddr, Sem.run_bind, Sem.run_pure, Result.andThen_ok]
      rw [this]; rfl
    · exact rgs_store (vs := [a.eval y]) hs hk hD g2 (by simp) (fun j v hj => by
        cases j with
        | zero => simp at hj; subst hj; exact ⟨u, hu, hkin⟩
        | succ j => simp at hj)) (fun _ a w hs => k a w hs)
def FitAll : List Sh → List AV → Prop
  | [], [] => True
  | τ :: ts, φ :: cs => Fit τ φ ∧ FitAll ts cs
  | _, _ => False
theorem FitAll.get : ∀ {ts : List Sh} {cs : List AV}, FitAll ts cs → ∀ {F : Fz} {w : World} {us : List Value}, All2 w F cs us → ts.length = us.length ∧ ∀ (j : Nat) (τ : Sh) (v : Value), ts[j]? = some τ → us[j]? = some v → ∀ {z u}, τ.is u → kin z u v ∧ v.oneCell' = true
  | [], [], _, F, w, [], _ => ⟨rfl, fun j τ v h => by simp at h⟩
  | τ :: ts, φ :: cs, h, F, w, u :: us, ha => by
    obtain ⟨h1, h2⟩ := FitAll.get h.2 ha.2
    refine ⟨by simp [h1], fun j τ' v hj hv z u' hu' => ?_⟩
    cases j with
    | zero => simp at hj hv; subst hj; subst hv; exact h.1.fit hu' ha.1
    | succ j => exact h2 j τ' v (by simpa using hj) (by simpa using hv) hu'
  | [], _ :: _, h, _, _, _, _ => h.elim
  | _ :: _, [], h, _, _, _, _ => h.elim
  | [], [], _, _, _, _ :: _, ha => ha.elim
  | _ :: _, _ :: _, _, _, _, [], ha => ha.elim
theorem stTA {Z : Nat → Nat → Prop} {W : World} {D : Fz} {T n key : Nat} {f : Nat → Sh} {cs : List AV} {x y : Operand} (hx : lkO x E = tp W D n f) (hk : lkH key H = rgz D W Z) (h0 : Nat.blt 0 n = true) (ht : IsAgg P T n) (hy : lkO y E = agg cs) (hfit : FitAll ((List.range n).map f) cs)
    (k : St r P ops Q B E H rest) : St r P ops Q B E H ({ dst := none, op := .store T x y, type := ty, pos := pos, after := af, guard := none } :: rest) := fun a w h =>
  op_skp (ι := Unit) (E' := fun _ => E) (H' := fun _ => H) h rfl (fun _ => nofun) (fun F Ds hs => by
    have h1 := hs.opd x
    have hvy := hs.opd y
    rw [hx] at h1
    rw [hy] at hvy
    obtain ⟨b, o, hv, hD, hc⟩ := h1
    obtain ⟨us, hus, hau⟩ := hvy
    obtain ⟨hl, hfa⟩ := hfit.get hau
    simp only [List.length_map, List.length_range] at hl
    have h0 : 0 < n := by simpa using h0
    have hall : ∀ (j : Nat) (v : Value), us[j]? = some v → ∃ u, cellW W b (o + j) u ∧ kin (Z b (o + j)) u v ∧ v.oneCell' = true := fun j v hj => by
      have hjn : j < n := by rw [hl]; exact (List.getElem?_eq_some_iff.1 hj).1
      obtain ⟨u, hu, hcf⟩ := hc j hjn
      obtain ⟨g1, g2⟩ := hfa j (f j) v (by simp [hjn]) hj hcf
      exact ⟨u, hu, g1, g2⟩
    have h2 := hs.hp key
    rw [hk] at h2
    obtain ⟨c, t, c', t', g1, g2, g3, g4⟩ := h2 b hD
    have hone : ∀ v ∈ us, v.oneCell' = true := fun v hv' => by
      obtain ⟨j, hj⟩ := List.getElem?_of_mem hv'
      obtain ⟨_, _, _, h⟩ := hall j v hj
      exact h
    have hlt := (kinB_set (o := o) (vs := us) g2 (h2 b hD) (by omega) (fun j v hj => by obtain ⟨u, h1, h2, _⟩ := hall j v hj; exact ⟨u, h1, h2⟩)).1
    refine ⟨w.setRow b (c'.toList.take o ++ us ++ c'.toList.drop (o + us.length)).toArray, ?_, (), rgs_store hs hk hD g2 (by omega) (fun j v hj => by obtain ⟨u, h1, h2, _⟩ := hall j v hj; exact ⟨u, h1, h2⟩)⟩
    have := run_storeVar_agg (P := P) (vs := us) (cur := c') (o := o) ht (by omega) g2 (by omega) hone
    simp only [execOp, hv, hus, Instr.storeAt, Instr.sureAddr, Sem.run_bind, Sem.run_pure, Result.andThen_ok]
    rw [this]; rfl) (fun _ a w hs => k a w hs)
/-- An element of two slices cleared. -/
theorem stZ {α : Type} {W : World} {D : Fz} {T i key : Nat} {enc : α → List AV} {xs : List α} {v : Value} {x y : Operand} (hx : lkO x E = xp v 2 i 0) (hk : lkH key H = rgz D W (firstZ v 2 i)) (hv : (sl 2 enc xs).p W D v) (hi : i < xs.length) (hs2 : ∀ (y : α) {w F us}, All2 w F (enc y) us → ∀ (j : Nat) (u : Value), us[j]? = some u → ∃ A m c, u = .slice A m c) (ht : IsAgg P T 2) (hy : lkO y E = agg [eqv (.slice none 0 0), eqv (.slice none 0 0)])
    (k : St r P ops Q B E ((key, rgz D W (firstZ v 2 (i + 1))) :: H) rest) : St r P ops Q B E H ({ dst := none, op := .store T x y, type := ty, pos := pos, after := af, guard := none } :: rest) :=
  rgM (Z' := firstZ v 2 (i + 1)) key hk (fun b o h => by obtain ⟨off, m, c, h1, h2, h3⟩ := h; exact ⟨off, m, c, h1, h2, by omega⟩) (fun a w h =>
  op_skp (ι := Unit) (E' := fun _ => E) (H' := fun _ => (key, rgz D W (firstZ v 2 (i + 1))) :: H) h rfl (fun _ => nofun) (fun F Ds hs => by
    have h1 := hs.opd x
    have hvy := hs.opd y
    rw [hx] at h1
    rw [hy] at hvy
    obtain ⟨b, o, m, c, hv2, hu⟩ := h1
    obtain ⟨us, hus, hau⟩ := hvy
    obtain ⟨b', off, c1, us1, hv3, hD, hl, hr, ha⟩ := sl_elem hv (i := i) (x := xs[i]) (List.getElem?_eq_getElem hi)
    rw [hv2] at hv3
    simp at hv3
    obtain ⟨⟨rfl, rfl⟩, _⟩ := hv3
    have h2 := hs.hp key
    rw [lkH_same] at h2
    obtain ⟨c0, t, c', t', g1, g2, g3, g4⟩ := h2 b hD
    match us, hau with
    | [u0, u1], ⟨q0, q1, _⟩ =>
      have q0 : u0 = .slice none 0 0 := q0
      have q1 : u1 = .slice none 0 0 := q1
      subst q0; subst q1
      have hall : ∀ (j : Nat) (u : Value), [Value.slice none 0 0, .slice none 0 0][j]? = some u → ∃ u0, cellW W b (o + i * 2 + j) u0 ∧ kin (firstZ v 2 (i + 1) b (o + i * 2 + j)) u0 u := fun j u hj => by
        have hj2 : j < 2 := by have := (List.getElem?_eq_some_iff.1 hj).1; simpa using this
        refine ⟨us1[j], rd_cellW hr (List.getElem?_eq_getElem (by omega)), .inr (.inr (.inr ⟨⟨o, m, c, hv2, by omega, by omega⟩, hs2 _ ha j _ (List.getElem?_eq_getElem (by omega)), ?_⟩))⟩
        match j, hj2 with
        | 0, _ => simpa using hj.symm
        | 1, _ => simpa using hj.symm
      have hst := rgs_store (key := key) (vs := [.slice none 0 0, .slice none 0 0]) hs (lkH_same _ _ _) hD g2 (by simp) hall
      refine ⟨_, ?_, (), hst⟩
      have hlt := (kinB_set (o := o + i * 2) (vs := [.slice none 0 0, .slice none 0 0]) g2 (h2 b hD) (by simp) hall).1
      have := run_storeVar_agg (P := P) (vs := [.slice none 0 0, .slice none 0 0]) (cur := c') (o := o + i * 2) ht rfl g2 (by simpa using hlt) (by simp [Value.oneCell'])
      simp only [execOp, hu, hus, Instr.storeAt, Instr.sureAddr, Sem.run_bind, Sem.run_pure, Result.andThen_ok, Nat.add_zero]
      rw [this]; rfl) (fun _ a w hs => k a w hs))
theorem o_iPAn {T m e n key b o j : Nat} {x i : Operand} (h : Sim B E H a w) (hx : lkO x E = ptr key b o) (hi : lkO i E = int (j : Int)) (hT : P.underlying T = some (.array m e)) (he : IsAgg P e n) (hj : Nat.blt j m = true)
    (k : ∀ a w, Sim B ((d, ptr key b (o + j * n)) :: E) H a w → wl r P ops Q rest a w) (hn : Nat.blt d B.nt = true := by rfl) :
    wl r P ops Q ({ dst := some d, op := .indexAddr T x i, type := ty, pos := pos, after := af, guard := none } :: rest) a w :=
  op_val h rfl rfl hn (fun _ => nofun) (fun F Ds hs => by
    have h1 := hs.opd x
    have h2 := hs.opd i
    rw [hx] at h1
    rw [hi] at h2
    have h1 : a.eval x = .pointer (some ⟨b, o, none⟩) := h1
    have h2 : a.eval i = .int .i64 (j : Int) := h2
    have hlt : (j : Int) < (m : Int) := by
      have : j < m := by simpa using hj
      omega
    refine ⟨.pointer (some ⟨b, o + j * n, none⟩), ?_, rfl⟩
    have hsz := he.size w
    have hjm : j < m := by omega
    by_cases ht : m ≤ 1 <;> simp [execOp, h1, h2, Instr.indexAt, asIntOf, run_underlying hT, hjm, Instr.sureAddr, add_mk, hsz, ht]) k
theorem iPAn {T m e n key b o j : Nat} {x i : Operand} (hx : lkO x E = ptr key b o) (hi : lkO i E = int (j : Int)) (hT : P.underlying T = some (.array m e)) (he : IsAgg P e n) (hj : Nat.blt j m = true)
    (k : St r P ops Q B ((d, ptr key b (o + j * n)) :: E) H rest) (hn : Nat.blt d B.nt = true := by rfl) :
    St r P ops Q B E H ({ dst := some d, op := .indexAddr T x i, type := ty, pos := pos, after := af, guard := none } :: rest) := fun a w h => o_iPAn h hx hi hT he hj (fun a w hs => k a w hs) hn
theorem o_appendR {α : Type} {T e n by_ key : Nat} {z : List Value} {enc : α → List AV} [hfl : FlatE enc] {xs ys : List α} {v : Value} {s x : Operand} (h : Sim B E H a w) (hs : ∀ {w F u}, (lkO s E).p w F u → u = v)
    (hk : lkH key H = own v e n enc xs) (hx : Lent B E H x (sl n enc ys)) (hT : MakeT P T e n by_ z) [h1 : ∀ y, OneAll (enc y)] (hm : xs.length + ys.length ≤ maxL) (hby : (xs.length + ys.length) * by_ ≤ maxL)
    (k : ∀ v a w, Sim B ((d, osl key v) :: E) ((key, own v e n enc (xs ++ ys)) :: H) a w → wl r P ops Q rest a w) (hn : Nat.blt d B.nt = true := by rfl) :
    wl r P ops Q ({ dst := some d, op := .call { callee := .builtin .append, args := #[s, x], argTypes := #[T, T] }, type := ty, pos := pos, after := af, guard := none } :: rest) a w :=
  op_gen (E' := fun v => (d, osl key v) :: E) (H' := fun v => (key, own v e n enc (xs ++ ys)) :: H) h rfl (fun _ => nofun) (fun F Ds hS => by
    have hv1 := hs (hS.opd s)
    have hv2 := hx hS
    obtain ⟨A, cap, hv2, hcap, _, hA⟩ := hv2
    have h3 := hS.hp key
    rw [hk] at h3
    obtain ⟨hmx, vs, hown, hels⟩ := h3
    by_cases hy : ys = []
    · subst hy
      refine ⟨v, w, ?_, v, F, Ds, ?_⟩
      · have := append_none (P := P) (ty := ty) hT hown A cap
        simp only [execOp, resolve, Sem.run_bind, Sem.run_pure, Result.andThen_ok, invoke, builtin, List.map_toArray, List.map_cons, List.map_nil, hv1, hv2, List.length_nil, this]
      · have := (hS.upd key (own v e n enc xs) (Nat.le_refl _) rfl rfl rfl (fun _ _ _ => rfl) (fun b hb => ⟨.inl (by rw [hk]; exact hb), ownsRow_lt hown hb⟩) ⟨hmx, vs, hown, hels⟩).put (d := d) (φ := osl key v) (v := v) (by simpa using hn) rfl
        simpa using this
    · obtain ⟨b, off, us, rfl, hb, hr, hu⟩ := hA hy
      have hels' : ∀ {w' : World}, Els w' F n enc ys us := fun {w'} => by
        refine ⟨hu.len, fun i q hq => ?_⟩
        have h := hu.el i q hq
        rw [hfl.flat w.heap.size q] at h
        have hlt : ∀ b, ¬ newF w.heap.size w (fun b => F b ∨ footH H b) b := fun b hb => by
          have : b < w.heap.size := hb.1.elim (fun h => (hS.Fb b h).1) (fun ⟨k, h⟩ => (hS.hN k b h).1)
          have := hb.2.1
          omega
        exact (all2_nw.1 h).st (fun b hb => absurd hb (hlt b)) (fun b hb => absurd hb (hlt b))
      have hone : ∀ u ∈ us, u.oneCell' = true := fun u hu' => by
        obtain ⟨t, ht⟩ := List.getElem?_of_mem hu'
        have hlu := hu.len
        have htl : t < us.length := (List.getElem?_eq_some_iff.1 ht).1
        have hn0 := hT.pos
        have hq : t / n < ys.length := by rw [Nat.div_lt_iff_lt_mul hn0, ← hlu]; exact htl
        have he := (hels' (w' := w)).el (t / n) ys[t / n] (by simp [hq])
        refine (h1 _).all he u ?_
        refine List.mem_of_getElem? (i := t % n) ?_
        rw [List.getElem?_take, if_pos (Nat.mod_lt _ hn0), List.getElem?_drop, Nat.mul_comm, Nat.div_add_mod]
        exact ht
      obtain ⟨v', w', hrun, hown', hg, hfr⟩ := append_own (P := P) (ty := ty) (c := cap) hT hown (ad := ⟨b, off, none⟩) (m := ys.length) hu.len (fun j u hj => by rw [add_mk]; exact hr.cell hj) hone hm hby
      have hrow : ∀ b, v.ownBlock = some b → (lkH key H).foot b := fun b hb => by
        rw [hk]
        show ownB v b
        revert hb
        cases v <;> simp [Value.ownBlock]
        rename_i A' _ _
        cases A' <;> simp
        rintro rfl; rfl
      refine ⟨v', w', ?_, v', F, Ds, (hS.grown key (own v' e n enc (xs ++ ys)) hg hrow (fun b hb => ⟨?_, ownsRow_lt hown' hb⟩) ⟨by simp; omega, _, by simpa using hown', ?_⟩).put (by simpa using hn) rfl⟩
      · simp only [execOp, resolve, Sem.run_bind, Sem.run_pure, Result.andThen_ok, invoke, builtin, List.map_toArray, List.map_cons, List.map_nil, hv1, hv2, hrun]
      · rw [hk]; exact hfr b hb
      · exact (hels.st (fun _ h => h) (hS.grownStay hg hrow)).append hels') (fun v => k v)
theorem apR {α : Type} {T e n by_ key : Nat} {z : List Value} {enc : α → List AV} [hfl : FlatE enc] {xs ys : List α} {v : Value} {s x : Operand} (hs : ∀ {w F u}, (lkO s E).p w F u → u = v)
    (hk : lkH key H = own v e n enc xs) (hx : Lent B E H x (sl n enc ys)) (hT : MakeT P T e n by_ z) [h1 : ∀ y, OneAll (enc y)] (hm : xs.length + ys.length ≤ maxL) (hby : (xs.length + ys.length) * by_ ≤ maxL)
    (k : ∀ v, St r P ops Q B ((d, osl key v) :: E) ((key, own v e n enc (xs ++ ys)) :: H) rest) (hn : Nat.blt d B.nt = true := by rfl) :
    St r P ops Q B E H ({ dst := some d, op := .call { callee := .builtin .append, args := #[s, x], argTypes := #[T, T] }, type := ty, pos := pos, after := af, guard := none } :: rest) := fun a w h => o_appendR h hs hk hx hT hm hby (fun v a w hs => k v a w hs) hn
theorem eq_wv {W : World} {D : Fz} {φ : AV} {v : Value} (hv : φ.p W D v) {w : World} {F : Fz} {u : Value} (h : (eqv v).p w F u) : (wv W D φ).p w F u := by
  have h : u = v := h
  subst h; exact hv
theorem sl_len {α : Type} {n : Nat} {enc : α → List AV} {xs : List α} {w : World} {F : Fz} {v : Value} (h : (sl n enc xs).p w F v) : xs.length ≤ maxL := by
  obtain ⟨_, _, _, _, h, _⟩ := h
  exact h
theorem wvI {α : Type} {W : World} {D : Fz} {n : Nat} {enc : α → List AV} {xs : List α} (t : Nat) (hx : lk t E = wv W D (sl n enc xs)) : ∀ a w, Sim B E H a w → xs.length ≤ maxL := fun a w ⟨F, Ds, hs⟩ => by
  have h := hs.env t
  rw [hx] at h
  exact sl_len (w := W) (F := D) h
end
theorem lkH_one (c k : Nat) (x : HA) : lkH k [(c, x)] = if c = k then x else emp := by
  by_cases hc : c = k
  · subst hc; rw [lkH_same, if_pos rfl]
  · rw [lkH_other _ _ hc, if_neg hc]; rfl
theorem footH_one (c : Nat) (x : HA) (b : Nat) : footH [(c, x)] b ↔ x.foot b := by
  constructor
  · rintro ⟨k, hk⟩
    rw [lkH_one] at hk
    split at hk
    · exact hk
    · exact hk.elim
  · intro hx
    exact ⟨c, by rw [lkH_one, if_pos rfl]; exact hx⟩
theorem HpOk.rekey {c c' : Nat} {x : HA} {w : World} {F : Fz} (h : HpOk [(c, x)] w F) : HpOk [(c', x)] w F := by
  have h1 := h.hp c
  have h2 := h.hF c
  have h3 := h.hN c
  rw [lkH_one, if_pos rfl] at h1 h2 h3
  refine ⟨fun k => ?_, fun k b hb => ?_, fun k k' b hne hb hb' => ?_, fun k b hb => ?_⟩
  · rw [lkH_one]; split
    · exact h1
    · trivial
  · rw [lkH_one] at hb; split at hb
    · exact h2 b hb
    · exact hb.elim
  · rw [lkH_one] at hb hb'
    split at hb
    · next e => rw [if_neg (by omega)] at hb'; exact hb'.elim
    · exact hb.elim
  · rw [lkH_one] at hb; split at hb
    · exact h3 b hb
    · exact hb.elim
/-- A contract of one key, under another. -/
theorem rekeyIO {P : Program} {f : FuncId} {args : List AV} {x y : HA} {ι : Type} {res : Nat → ι → AV} (c c' : Nat) (h : Fn P f args [(c, x)] res (fun _ => [(c, y)])) : Fn P f args [(c', x)] res (fun _ => [(c', y)]) :=
  fun w F vs h1 h2 h3 => (h w F vs h1 h2 h3.rekey).mono (fun en w' hq => by
    obtain ⟨i, v, F', he, hl⟩ := hq
    exact ⟨i, v, F', he, { hl with
      res := hl.res
      ok := hl.ok.rekey
      new := fun b hb => (hl.new b hb).imp id (fun h => h.imp id (fun h => (footH_one c' x b).2 ((footH_one c x b).1 h)))
      foot := fun b hb => (hl.foot b ((footH_one c y b).2 ((footH_one c' y b).1 hb))).imp id (fun h => (footH_one c' x b).2 ((footH_one c x b).1 h))
      old := fun b hb hn => hl.old b hb (fun h => hn ((footH_one c' x b).2 ((footH_one c x b).1 h))) }⟩)
theorem leaf_ix {α : Type} {w : World} {D : Fz} {ψs : List AV} {vs : List Value} {i n : Nat} {enc : α → List AV} {xs : List α} (h : All2 w D ψs vs) (hi : ψs[i]? = some (sl n enc xs)) : (sl n enc xs).p w D (sv (ix vs i)) := by
  obtain ⟨u, hu, hp⟩ := h.get hi
  have : ix vs i = u := by unfold ix; rw [List.getD_eq_getElem?_getD, hu]; rfl
  rw [this, sl_sv hp]; exact hp
/-- A result's leaves. -/
theorem leaf1 {α : Type} {N n : Nat} {enc : α → List AV} {xs : List α} {w : World} {F : Fz} {u : Value} (h : (fre N (sl n enc xs)).p w F u) : (∀ {w' : World} {F' : Fz}, (eqv (sv u)).p w' F' u) ∧ (sl n enc xs).p w (newF N w F) u :=
  ⟨fun {w' F'} => (sl_sv (w := w) (F := newF N w F) h).symm, h⟩
theorem leaf2 {α β : Type} {N n m : Nat} {enc : α → List AV} {xs : List α} {enc' : β → List AV} {ys : List β} {w : World} {F : Fz} {u : Value} (h : (agg [fre N (sl n enc xs), fre N (sl m enc' ys)]).p w F u) :
    ∃ v0 v1, (∀ {w' : World} {F' : Fz}, (agg [eqv (sv v0), eqv (sv v1)]).p w' F' u) ∧ (sl n enc xs).p w (newF N w F) v0 ∧ (sl m enc' ys).p w (newF N w F) v1 := by
  obtain ⟨us, hu, ha⟩ := h
  match us, ha with
  | [u0, u1], ⟨g0, g1, _⟩ => exact ⟨u0, u1, fun {w' F'} => ⟨[u0, u1], hu, (leaf1 g0).1, (leaf1 g1).1, trivial⟩, g0, g1⟩
theorem res1x {α : Type} {N n : Nat} {enc : α → List AV} {xs : List α} {x : Value} {w : World} {F : Fz} {v : Value} (h : (tup [fre N (sl n enc xs), eqv x]).p w F v) :
    ∃ vs, (∀ {w' : World} {F' : Fz}, (tup [eqv (sv (ix vs 0)), eqv x]).p w' F' v) ∧ All2 w (newF N w F) [sl n enc xs] vs := by
  obtain ⟨us, hu, ha⟩ := h
  match us, ha with
  | [u0, u1], ⟨g0, g1, _⟩ => exact ⟨[u0], fun {w' F'} => ⟨[u0, u1], hu, (leaf1 g0).1, g1, trivial⟩, g0, trivial⟩
theorem res2x {α β : Type} {N n m : Nat} {enc : α → List AV} {xs : List α} {enc' : β → List AV} {ys : List β} {x : Value} {w : World} {F : Fz} {v : Value} (h : (tup [agg [fre N (sl n enc xs), fre N (sl m enc' ys)], eqv x]).p w F v) :
    ∃ vs, (∀ {w' : World} {F' : Fz}, (tup [agg [eqv (sv (ix vs 0)), eqv (sv (ix vs 1))], eqv x]).p w' F' v) ∧ All2 w (newF N w F) [sl n enc xs, sl m enc' ys] vs := by
  obtain ⟨us, hu, ha⟩ := h
  match us, ha with
  | [u0, u1], ⟨g0, g1, _⟩ =>
    obtain ⟨a0, a1, h0, h1, h2⟩ := leaf2 g0
    exact ⟨[a0, a1], fun {w' F'} => ⟨[u0, u1], hu, h0, g1, trivial⟩, h1, h2, trivial⟩
theorem res2xx {α β : Type} {N n m : Nat} {enc : α → List AV} {xs : List α} {enc' : β → List AV} {ys : List β} {x y : Value} {w : World} {F : Fz} {v : Value} (h : (tup [agg [fre N (sl n enc xs), fre N (sl m enc' ys)], eqv x, eqv y]).p w F v) :
    ∃ vs, (∀ {w' : World} {F' : Fz}, (tup [agg [eqv (sv (ix vs 0)), eqv (sv (ix vs 1))], eqv x, eqv y]).p w' F' v) ∧ All2 w (newF N w F) [sl n enc xs, sl m enc' ys] vs := by
  obtain ⟨us, hu, ha⟩ := h
  match us, ha with
  | [u0, u1, u2], ⟨g0, g1, g2, _⟩ =>
    obtain ⟨a0, a1, h0, h1, h2⟩ := leaf2 g0
    exact ⟨[a0, a1], fun {w' F'} => ⟨[u0, u1, u2], hu, h0, g1, g2, trivial⟩, h1, h2, trivial⟩
theorem res21x {α β γ : Type} {N n m q : Nat} {enc : α → List AV} {xs : List α} {enc' : β → List AV} {ys : List β} {enc2 : γ → List AV} {zs : List γ} {x : Value} {w : World} {F : Fz} {v : Value} (h : (tup [agg [fre N (sl n enc xs), fre N (sl m enc' ys)], fre N (sl q enc2 zs), eqv x]).p w F v) :
    ∃ vs, (∀ {w' : World} {F' : Fz}, (tup [agg [eqv (sv (ix vs 0)), eqv (sv (ix vs 1))], eqv (sv (ix vs 2)), eqv x]).p w' F' v) ∧ All2 w (newF N w F) [sl n enc xs, sl m enc' ys, sl q enc2 zs] vs := by
  obtain ⟨us, hu, ha⟩ := h
  match us, ha with
  | [u0, u1, u2], ⟨g0, g1, g2, _⟩ =>
    obtain ⟨a0, a1, h0, h1, h2⟩ := leaf2 g0
    exact ⟨[a0, a1, u1], fun {w' F'} => ⟨[u0, u1, u2], hu, h0, (leaf1 g1).1, g2, trivial⟩, h1, h2, g1, trivial⟩
theorem kinds1 {α : Type} {f : α → Value} {τ : Sh} (h : ∀ x, τ.is (f x)) : Kinds (fun x => [eqv (f x)]) 1 (fun _ => τ) := ⟨fun x {w F vs} ha j v hj => by
  match vs, ha with
  | [u], ⟨h0, _⟩ =>
    have h0 : u = f x := h0
    cases j with
    | zero => simp at hj; subst hj; rw [h0]; exact h x
    | succ j => simp at hj⟩
end AL
