/- The abstract logic, part 2: one operation at a time. Under no conditions: general lemmas. -/
import Derived.Test.YtolpjmllmlahfaaDoorALCore
namespace AL
open Go
attribute [local semireducible] any eqv agg tup fp ptr sl exi andp above emp cell own obj

abbrev FW (r : Option Nat) : Fence := { fn := fun _ => True, depth := none, alive := false, round := r }
abbrev wl (r : Option Nat) (P : Program) (ops : Array Oper) (Q : Exit → Act → World → Prop) (rest : List Oper) (a : Act) (w : World) : Prop := wpListIn (FW r) 0 P ops Q rest a w

section
variable {P : Program} {r : Option Nat} {ops : Array Oper} {Q : Exit → Act → World → Prop} {rest : List Oper} {B : Base} {E : Env} {H : Hp} {a : Act} {w : World}

theorem wl_step {o : Oper} (hg : o.guard = none) (hdf : ∀ c, o.op ≠ .defer c)
    (h : o.uponIn (FW r) 0 P a (wl r P ops Q rest) Q ((execOp a.eval o).run P w)) : wl r P ops Q (o :: rest) a w := by
  simp only [wl, wpListIn, Region.wanted, hg, if_true, Oper.wpIn]
  exact ⟨fun _ _ => trivial, by rw [Oper.semAt_eq _ _ _ hdf]; exact h⟩

/-- An operation that gives a value. -/
theorem op_gen {ι : Type} {E' : ι → Env} {H' : ι → Hp} {o : Oper} (h : Sim B E H a w) (hg : o.guard = none) (hdf : ∀ c, o.op ≠ .defer c)
    (hr : ∀ F Ds, SimF B E H a w F Ds → ∃ v w', (execOp a.eval o).run P w = .ok (.value v) w' ∧ ∃ i, Sim B (E' i) (H' i) (a.put o.dst v) w')
    (k : ∀ i a w, Sim B (E' i) (H' i) a w → wl r P ops Q rest a w) : wl r P ops Q (o :: rest) a w := by
  obtain ⟨F, Ds, hs⟩ := h
  obtain ⟨v, w', hrun, i, hS⟩ := hr F Ds hs
  refine wl_step hg hdf ?_
  rw [hrun]
  exact k i _ _ hS

theorem op_skp {ι : Type} {E' : ι → Env} {H' : ι → Hp} {o : Oper} (h : Sim B E H a w) (hg : o.guard = none) (hdf : ∀ c, o.op ≠ .defer c)
    (hr : ∀ F Ds, SimF B E H a w F Ds → ∃ w', (execOp a.eval o).run P w = .ok .skip w' ∧ ∃ i, Sim B (E' i) (H' i) (a.put o.dst undef) w')
    (k : ∀ i a w, Sim B (E' i) (H' i) a w → wl r P ops Q rest a w) : wl r P ops Q (o :: rest) a w := by
  obtain ⟨F, Ds, hs⟩ := h
  obtain ⟨w', hrun, i, hS⟩ := hr F Ds hs
  refine wl_step hg hdf ?_
  rw [hrun]
  exact k i _ _ hS

/-- An operation that gives a value and leaves the world. -/
theorem op_val {o : Oper} {d : Nat} {φ : AV} (h : Sim B E H a w) (hg : o.guard = none) (hd : o.dst = some d) (hn : Nat.blt d B.nt = true) (hdf : ∀ c, o.op ≠ .defer c)
    (hr : ∀ F Ds, SimF B E H a w F Ds → ∃ v, (execOp a.eval o).run P w = .ok (.value v) w ∧ φ.p w F v)
    (k : ∀ a w, Sim B ((d, φ) :: E) H a w → wl r P ops Q rest a w) : wl r P ops Q (o :: rest) a w :=
  op_gen (ι := Unit) (E' := fun _ => (d, φ) :: E) (H' := fun _ => H) h hg hdf (fun F Ds hs => by
    obtain ⟨v, h1, h2⟩ := hr F Ds hs
    exact ⟨v, w, h1, (), F, Ds, by rw [hd]; exact hs.put (by simpa using hn) h2⟩) (fun _ => k)

theorem add_mk (b off n : Nat) : Addr.add ⟨b, off, none⟩ n = ⟨b, off + n, none⟩ := by
  unfold Addr.add
  split
  · next h => subst h; rfl
  · rfl

variable {d ty : Nat} {pos : String} {af : Array Edge}

/-- 'move', 'assign'. -/
theorem o_move {x : Operand} (h : Sim B E H a w) (k : ∀ a w, Sim B ((d, lkO x E) :: E) H a w → wl r P ops Q rest a w) (hn : Nat.blt d B.nt = true := by rfl) :
    wl r P ops Q ({ dst := some d, op := .move x, type := ty, pos := pos, after := af, guard := none } :: rest) a w :=
  op_val h rfl rfl hn (fun _ => nofun) (fun _ _ hs => ⟨a.eval x, rfl, hs.opd x⟩) k
theorem o_assign {x : Operand} (h : Sim B E H a w) (k : ∀ a w, Sim B ((d, lkO x E) :: E) H a w → wl r P ops Q rest a w) (hn : Nat.blt d B.nt = true := by rfl) :
    wl r P ops Q ({ dst := some d, op := .assign x, type := ty, pos := pos, after := af, guard := none } :: rest) a w :=
  op_val h rfl rfl hn (fun _ => nofun) (fun _ _ hs => ⟨a.eval x, rfl, hs.opd x⟩) k

theorem o_pick {c x y : Operand} {b : Bool} {φ : AV} (h : Sim B E H a w) (hc : lkO c E = bl b) (hz : lkO (if b then x else y) E = φ) (k : ∀ a w, Sim B ((d, φ) :: E) H a w → wl r P ops Q rest a w) (hn : Nat.blt d B.nt = true := by rfl) :
    wl r P ops Q ({ dst := some d, op := .pick c x y, type := ty, pos := pos, after := af, guard := none } :: rest) a w :=
  op_val h rfl rfl hn (fun _ => nofun) (fun F Ds hs => by
    have h1 := hs.opd c
    rw [hc] at h1
    have h1 : a.eval c = .bool b := h1
    refine ⟨if b then a.eval x else a.eval y, ?_, ?_⟩
    · simp [execOp, h1, asBool]
    · subst hz
      cases b
      · exact hs.opd y
      · exact hs.opd x) k

/-! ### Types -/
/-- An aggregate of n cells. -/
structure IsAgg (P : Program) (t n : Nat) : Prop where
  agg : ∀ w, (isAgg t).run P w = .ok true w
  size : ∀ w, (Go.sizeOf t).run P w = .ok n w
/-- A type of one cell that is no aggregate. -/
structure IsOne (P : Program) (t : Nat) : Prop where
  agg : ∀ w, (isAgg t).run P w = .ok false w
  size : ∀ w, (Go.sizeOf t).run P w = .ok 1 w

def aggB (P : Program) (t n : Nat) : Bool :=
  (match P.underlying t with | some (.struct _) => true | some (.array _ _) => true | _ => false) && (match P.info? t with | some i => Nat.beq i.size n | none => false)
def oneB (P : Program) (t : Nat) : Bool :=
  (match P.underlying t with | some (.struct _) => false | some (.array _ _) => false | some _ => true | none => false) && (match P.info? t with | some i => Nat.beq i.size 1 | none => false)

theorem sizeOf_of {t n : Nat} (h : (match P.info? t with | some i => Nat.beq i.size n | none => false) = true) (w : World) : (Go.sizeOf t).run P w = .ok n w := by
  cases hi : P.info? t with
  | none => simp [hi] at h
  | some i =>
    rw [hi] at h
    have : i.size = n := by simpa using h
    simp [Go.sizeOf, typeInfo, program, hi, Sem.run, this]

theorem isAgg_of {t n : Nat} (h : aggB P t n = true) : IsAgg P t n := by
  simp only [aggB, Bool.and_eq_true] at h
  obtain ⟨h1, h2⟩ := h
  refine ⟨fun w => ?_, sizeOf_of h2⟩
  cases hu : P.underlying t with
  | none => simp [hu] at h1
  | some D =>
    rw [hu] at h1
    cases D <;> simp at h1 <;> simp [isAgg, underlying, program, hu, Sem.run]

theorem isOne_of {t : Nat} (h : oneB P t = true) : IsOne P t := by
  simp only [oneB, Bool.and_eq_true] at h
  obtain ⟨h1, h2⟩ := h
  refine ⟨fun w => ?_, sizeOf_of h2⟩
  cases hu : P.underlying t with
  | none => simp [hu] at h1
  | some D =>
    rw [hu] at h1
    cases D <;> simp at h1 <;> simp [isAgg, underlying, program, hu, Sem.run]

/-- Field f of struct type t: where it begins. -/
structure FieldAt (P : Program) (t f off : Nat) : Prop where
  run : ∀ (w : World) (b o : Nat), (Instr.fieldAt t (.pointer (some ⟨b, o, none⟩)) f).run P w = .ok (.pointer (some ⟨b, o + off, none⟩)) w
def fieldB (P : Program) (t f off : Nat) : Bool :=
  match P.underlying t with
  | some (.struct fs) => (match fs[f]? with
    | some x => Nat.beq x.offset off && (match P.info? x.type with | some i => Nat.blt 0 i.size | none => false)
    | none => false)
  | _ => false
theorem fieldAt_of {t f off : Nat} (h : fieldB P t f off = true) : FieldAt P t f off := by
  refine ⟨fun w b o => ?_⟩
  unfold fieldB at h
  cases hu : P.underlying t with
  | none => simp [hu] at h
  | some D =>
    rw [hu] at h
    cases D <;> simp at h
    case struct fs =>
    cases hf : fs[f]? with
    | none => simp [hf] at h
    | some x =>
      rw [hf] at h
      simp only [Bool.and_eq_true] at h
      obtain ⟨h1, h2⟩ := h
      have h1 : x.offset = off := by simpa using h1
      cases hi : P.info? x.type with
      | none => simp [hi] at h2
      | some i =>
        rw [hi] at h2
        have h2 : i.size ≠ 0 := by have : 0 < i.size := by simpa using h2
                                   omega
        simp [Instr.fieldAt, underlying, program, hu, Sem.run, hf, Instr.sureAddr, fieldPlace, Go.sizeOf, typeInfo, hi, h2, add_mk, h1]

/-! ### Memory of the activation's own -/
theorem run_loadCells_rd {b off : Nat} {vs : List Value} (h : rdAt w b off vs) {n : Nat} (hn : vs.length = n) : (loadCells ⟨b, off, none⟩ n).run P w = .ok vs.toArray w := by
  subst hn
  exact run_loadCells_list (P := P) w ⟨b, off, none⟩ vs (fun j v hj => by rw [add_mk]; exact h.cell hj)

theorem run_loadVar_agg {t n : Nat} (ht : IsAgg P t n) {b off : Nat} {vs : List Value} (h : rdAt w b off vs) (hn : vs.length = n) :
    (loadVar t ⟨b, off, none⟩).run P w = .ok (.agg vs.toArray) w := by
  simp [loadVar, ht.agg, ht.size, run_loadCells_rd h hn]

theorem run_loadVar_one {t : Nat} (ht : IsOne P t) {b off : Nat} {v : Value} (h : w.cell? ⟨b, off, none⟩ = some v) : (loadVar t ⟨b, off, none⟩).run P w = .ok v w := by
  simp [loadVar, ht.agg, load, Sem.run, h]

/-- 'box': a parameter, or a variable that is captured, put into memory. -/
theorem o_box {t key : Nat} {x : Operand} {cs : List AV} (h : Sim B E H a w) (hx : lkO x E = agg cs)
    (k : ∀ b a w, Sim B ((d, ptr key b 0) :: E) ((key, cell b cs) :: H) a w → wl r P ops Q rest a w) (hn : Nat.blt d B.nt = true := by rfl) :
    wl r P ops Q ({ dst := some d, op := .box t x, type := ty, pos := pos, after := af, guard := none } :: rest) a w :=
  op_gen (E' := fun b => (d, ptr key b 0) :: E) (H' := fun b => (key, cell b cs) :: H) h rfl (fun _ => nofun) (fun F Ds hs => by
    have h1 := hs.opd x
    rw [hx] at h1
    obtain ⟨vs, hv, ha⟩ := h1
    refine ⟨.pointer (some ⟨w.heap.size, 0, none⟩), w.alloc (.cells vs.toArray t (0, 0)), ?_, w.heap.size, F, Ds,
      (hs.alloc key (cell w.heap.size cs) (.cells vs.toArray t (0, 0)) (fun b hb => hb) ⟨vs, t, heap_new _ _, hs.stays _ ha⟩).put (by simpa using hn) rfl⟩
    simp [execOp, Instr.box, newVar, newRow, hv, Value.cells]) (fun b => k b)

theorem o_box1 {t key : Nat} {x : Operand} {φ : AV} (h : Sim B E H a w) (hx : lkO x E = φ) [ho : One φ]
    (k : ∀ b a w, Sim B ((d, ptr key b 0) :: E) ((key, cell b [φ]) :: H) a w → wl r P ops Q rest a w) (hn : Nat.blt d B.nt = true := by rfl) :
    wl r P ops Q ({ dst := some d, op := .box t x, type := ty, pos := pos, after := af, guard := none } :: rest) a w :=
  op_gen (E' := fun b => (d, ptr key b 0) :: E) (H' := fun b => (key, cell b [φ]) :: H) h rfl (fun _ => nofun) (fun F Ds hs => by
    have h1 := hs.opd x
    rw [hx] at h1
    have hc : (a.eval x).cells = #[a.eval x] := by
      have := ho.one h1
      revert this
      cases a.eval x <;> simp [Value.oneCell', Value.cells]
    refine ⟨.pointer (some ⟨w.heap.size, 0, none⟩), w.alloc (.cells #[a.eval x] t (0, 0)), ?_, w.heap.size, F, Ds,
      (hs.alloc key (cell w.heap.size [φ]) (.cells #[a.eval x] t (0, 0)) (fun b hb => hb) ⟨[a.eval x], t, heap_new _ _, hs.stay _ h1, trivial⟩).put (by simpa using hn) rfl⟩
    simp [execOp, Instr.box, newVar, newRow, hc]) (fun b => k b)

/-- Where a field of an own variable lies. -/
theorem o_fieldP {t f off key b o : Nat} {x : Operand} (h : Sim B E H a w) (hx : lkO x E = ptr key b o) (hf : FieldAt P t f off)
    (k : ∀ a w, Sim B ((d, ptr key b (o + off)) :: E) H a w → wl r P ops Q rest a w) (hn : Nat.blt d B.nt = true := by rfl) :
    wl r P ops Q ({ dst := some d, op := .fieldAddr t x f, type := ty, pos := pos, after := af, guard := none } :: rest) a w :=
  op_val h rfl rfl hn (fun _ => nofun) (fun F Ds hs => by
    have h1 := hs.opd x
    rw [hx] at h1
    have h1 : a.eval x = .pointer (some ⟨b, o, none⟩) := h1
    exact ⟨.pointer (some ⟨b, o + off, none⟩), by simp [execOp, h1, hf.run], rfl⟩) k

theorem o_fieldF {t f off : Nat} {cs : List AV} {x : Operand} (h : Sim B E H a w) (hx : lkO x E = fp cs) (hf : FieldAt P t f off)
    (k : ∀ a w, Sim B ((d, fp (cs.drop off)) :: E) H a w → wl r P ops Q rest a w) (hn : Nat.blt d B.nt = true := by rfl) :
    wl r P ops Q ({ dst := some d, op := .fieldAddr t x f, type := ty, pos := pos, after := af, guard := none } :: rest) a w :=
  op_val h rfl rfl hn (fun _ => nofun) (fun F Ds hs => by
    have h1 := hs.opd x
    rw [hx] at h1
    obtain ⟨b, o, vs, hv, hb, hr, ha⟩ := h1
    exact ⟨.pointer (some ⟨b, o + off, none⟩), by simp [execOp, hv, hf.run], b, o + off, vs.drop off, rfl, hb, hr.drop off, ha.drop off⟩) k

/-- Loads: a cell of an own variable. -/
theorem cell_rd {w : World} {F : Fz} {b : Nat} {cs : List AV} (h : (cell b cs).p w F) (o : Nat) : ∃ vs, rdAt w b o vs ∧ All2 w F (cs.drop o) vs := by
  obtain ⟨vs, t, hc, ha⟩ := h
  exact ⟨vs.drop o, ⟨vs.toArray, t, (0, 0), hc, fun j v hj => by simpa using hj⟩, ha.drop o⟩

theorem o_loadP {t key b o : Nat} {cs : List AV} {φ : AV} {x : Operand} (h : Sim B E H a w) (hx : lkO x E = ptr key b o) (hk : lkH key H = cell b cs) (hc : cs[o]? = some φ) (ht : IsOne P t)
    (k : ∀ a w, Sim B ((d, φ) :: E) H a w → wl r P ops Q rest a w) (hn : Nat.blt d B.nt = true := by rfl) :
    wl r P ops Q ({ dst := some d, op := .load t x, type := ty, pos := pos, after := af, guard := none } :: rest) a w :=
  op_val h rfl rfl hn (fun _ => nofun) (fun F Ds hs => by
    have h1 := hs.opd x
    rw [hx] at h1
    have h1 : a.eval x = .pointer (some ⟨b, o, none⟩) := h1
    have h2 := hs.hp key
    rw [hk] at h2
    obtain ⟨vs, hr, ha⟩ := cell_rd h2 0
    obtain ⟨v, hv, hp⟩ := ha.get (i := o) (φ := φ) (by simpa using hc)
    exact ⟨v, by simp [execOp, h1, Instr.loadAt, Instr.sureAddr, run_loadVar_one ht (by simpa using hr.cell hv)], hp⟩) k

theorem o_loadPA {t n key b o : Nat} {cs : List AV} {x : Operand} (h : Sim B E H a w) (hx : lkO x E = ptr key b o) (hk : lkH key H = cell b cs) (ht : IsAgg P t n) (hl : Nat.ble (o + n) cs.length = true)
    (k : ∀ a w, Sim B ((d, agg ((cs.drop o).take n)) :: E) H a w → wl r P ops Q rest a w) (hn : Nat.blt d B.nt = true := by rfl) :
    wl r P ops Q ({ dst := some d, op := .load t x, type := ty, pos := pos, after := af, guard := none } :: rest) a w :=
  op_val h rfl rfl hn (fun _ => nofun) (fun F Ds hs => by
    have h1 := hs.opd x
    rw [hx] at h1
    have h1 : a.eval x = .pointer (some ⟨b, o, none⟩) := h1
    have h2 := hs.hp key
    rw [hk] at h2
    obtain ⟨vs, hr, ha⟩ := cell_rd h2 o
    have hle : o + n ≤ cs.length := by simpa using hl
    have hlen : (vs.take n).length = n := by
      have := ha.length
      simp at this ⊢; omega
    exact ⟨.agg (vs.take n).toArray, by simp only [execOp, h1, Instr.loadAt, Instr.sureAddr, Sem.run_bind, Sem.run_pure, Result.andThen_ok, run_loadVar_agg ht (hr.take n) hlen], vs.take n, rfl, ha.take n⟩) k

theorem o_loadF {t : Nat} {cs : List AV} {φ : AV} {x : Operand} (h : Sim B E H a w) (hx : lkO x E = fp cs) (hc : cs[0]? = some φ) (ht : IsOne P t)
    (k : ∀ a w, Sim B ((d, φ) :: E) H a w → wl r P ops Q rest a w) (hn : Nat.blt d B.nt = true := by rfl) :
    wl r P ops Q ({ dst := some d, op := .load t x, type := ty, pos := pos, after := af, guard := none } :: rest) a w :=
  op_val h rfl rfl hn (fun _ => nofun) (fun F Ds hs => by
    have h1 := hs.opd x
    rw [hx] at h1
    obtain ⟨b, o, vs, hv, hb, hr, ha⟩ := h1
    obtain ⟨v, hv', hp⟩ := ha.get hc
    exact ⟨v, by simp [execOp, hv, Instr.loadAt, Instr.sureAddr, run_loadVar_one ht (by simpa using hr.cell hv')], hp⟩) k

theorem o_loadFA {t n : Nat} {cs : List AV} {x : Operand} (h : Sim B E H a w) (hx : lkO x E = fp cs) (ht : IsAgg P t n) (hl : n ≤ cs.length)
    (k : ∀ a w, Sim B ((d, agg (cs.take n)) :: E) H a w → wl r P ops Q rest a w) (hn : Nat.blt d B.nt = true := by rfl) :
    wl r P ops Q ({ dst := some d, op := .load t x, type := ty, pos := pos, after := af, guard := none } :: rest) a w :=
  op_val h rfl rfl hn (fun _ => nofun) (fun F Ds hs => by
    have h1 := hs.opd x
    rw [hx] at h1
    obtain ⟨b, o, vs, hv, hb, hr, ha⟩ := h1
    have hlen : (vs.take n).length = n := by
      have := ha.length
      simp; omega
    exact ⟨.agg (vs.take n).toArray, by simp only [execOp, hv, Instr.loadAt, Instr.sureAddr, Sem.run_bind, Sem.run_pure, Result.andThen_ok, run_loadVar_agg ht (hr.take n) hlen], vs.take n, rfl, ha.take n⟩) k
end
end AL
