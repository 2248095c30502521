/- The abstract logic, part 11c: slices of slices, comparisons with nil, empty literals. Under no conditions: general lemmas. -/
import Derived.Test.YtolpjmllmlahfaaDoorALOps6
set_option linter.unusedVariables false
namespace AL
open Go
attribute [local semireducible] any eqv agg tup fp ptr sl exi andp above emp cell own obj osl eptr clo pf mp mpv

theorem Els.sub {α : Type} {w : World} {F : Fz} {n : Nat} {enc : α → List AV} {xs : List α} {vs : List Value} (h : Els w F n enc xs vs) {l k : Nat} (hl : l ≤ k) (hk : k ≤ xs.length) : Els w F n enc ((xs.take k).drop l) ((vs.drop (l * n)).take ((k - l) * n)) := by
  have hlen := h.len
  have h1 : k * n ≤ xs.length * n := Nat.mul_le_mul_right n hk
  have h2 : l * n + (k - l) * n = k * n := by rw [← Nat.add_mul]; congr 1; omega
  refine ⟨by simp [Nat.min_eq_left hk]; omega, fun i x hi => ?_⟩
  rw [List.getElem?_drop, List.getElem?_take] at hi
  split at hi
  · next hlt =>
    have h3 := h.el (l + i) x hi
    have h4 : (i + 1) * n ≤ (k - l) * n := Nat.mul_le_mul_right n (by omega)
    rw [Nat.add_mul] at h4
    have e : ((((vs.drop (l * n)).take ((k - l) * n)).drop (i * n)).take n) = ((vs.drop ((l + i) * n)).take n) := by
      apply List.ext_getElem?
      intro t
      rw [List.getElem?_take, List.getElem?_take]
      split
      · rw [List.getElem?_drop, List.getElem?_take, List.getElem?_drop, List.getElem?_drop, if_pos (by omega)]
        congr 1
        rw [Nat.add_mul]; omega
      · rfl
    rw [e]; exact h3
  · cases hi

section
variable {P : Program} {r : Option Nat} {ops : Array Oper} {Q : Exit → Act → World → Prop} {rest : List Oper} {B : Base} {E : Env} {H : Hp} {a : Act} {w : World}
variable {d ty : Nat} {pos : String} {af : Array Edge}

/-- A bound of a slice expression. -/
def BdIs (E : Env) (x : Option Operand) (dflt m : Nat) : Prop := match x with
  | none => m = dflt
  | some x => lkO x E = int (m : Int)

theorem sl_sub {α : Type} {F : Fz} {n : Nat} {enc : α → List AV} {xs : List α} {A : Option Addr} {cap l k : Nat} (hv : (sl n enc xs).p w F (.slice A xs.length cap)) (hl : l ≤ k) (hk : k ≤ xs.length) :
    (sl n enc ((xs.take k).drop l)).p w F (.slice (if cap = l then A else A.map (·.add (l * n))) (k - l) (cap - l)) := by
  obtain ⟨A', cap', hv, hc, hm, h⟩ := hv
  cases hv
  refine ⟨_, _, by simp [Nat.min_eq_left hk]; exact ⟨rfl, rfl⟩, by simp; omega, by simp; omega, fun hx => ?_⟩
  have hlt : l < k := by
    rcases Nat.lt_or_ge l k with h' | h'
    · exact h'
    · exact absurd (List.eq_nil_of_length_eq_zero (by simp; omega)) hx
  obtain ⟨b, off, vs, hA, hb, hr, he⟩ := h (fun e => by rw [e] at hk; simp at hk; omega)
  subst hA
  refine ⟨b, off + l * n, (vs.drop (l * n)).take ((k - l) * n), ?_, hb, (hr.drop (l * n)).take _, he.sub hl hk⟩
  rw [if_neg (by omega)]
  simp [add_mk]

theorem o_sliceF {α : Type} {T e n l m : Nat} {enc : α → List AV} {xs : List α} {x : Operand} {lo hi : Option Operand} (h : Sim B E H a w) (hx : lkO x E = sl n enc xs) (hT : IsSlice P T e n) (hlo : BdIs E lo 0 l) (hhi : BdIs E hi xs.length m) (h1 : l ≤ m) (h2 : m ≤ xs.length)
    (k : ∀ a w, Sim B ((d, sl n enc ((xs.take m).drop l)) :: E) H a w → wl r P ops Q rest a w) (hn : Nat.blt d B.nt = true := by rfl) :
    wl r P ops Q ({ dst := some d, op := .slice T x lo hi none, type := ty, pos := pos, after := af, guard := none } :: rest) a w :=
  op_val h rfl rfl hn (fun _ => nofun) (fun F Ds hs => by
    have hv := hs.opd x
    rw [hx] at hv
    have hv0 := hv
    obtain ⟨A, cap, hv1, hc, hm, _⟩ := hv
    rw [hv1] at hv0
    refine ⟨_, ?_, sl_sub hv0 h1 h2⟩
    have hb : (Instr.sliceBounds true xs.length cap (lo.map a.eval) (hi.map a.eval) none).run P w = .ok (l, m, cap) w := by
      have e1 : ∀ (y : Operand) (j top : Nat) (c : BoundsCode), lkO y E = int (j : Int) → j ≤ top → (Instr.sliceBound (a.eval y) top c).run P w = .ok j w := fun y j top c hy hj => by
        have := hs.opd y
        rw [hy] at this
        have this : a.eval y = .int .i64 (j : Int) := this
        have hcond : (0 : Int) ≤ (j : Int) ∧ (j : Int) ≤ (top : Int) := by omega
        simp only [this, Instr.sliceBound, asIntOf, Sem.run_bind, Sem.run_pure, Result.andThen_ok]
        rw [if_pos hcond]
        simp
      cases lo with
      | none =>
        have hlo : l = 0 := hlo
        subst hlo
        cases hi with
        | none =>
          have hhi : m = xs.length := hhi
          subst hhi
          simp [Instr.sliceBounds]
        | some y => simp [Instr.sliceBounds, e1 y m cap _ hhi (by omega)]
      | some z =>
        cases hi with
        | none =>
          have hhi : m = xs.length := hhi
          subst hhi
          simp [Instr.sliceBounds, e1 z l xs.length _ hlo h1]
        | some y => simp [Instr.sliceBounds, e1 y m cap _ hhi (by omega), e1 z l m _ hlo h1]
    simp only [execOp, hv1, Instr.sliceAt, Instr.slice, Sem.run_bind, run_underlying hT.und, Result.andThen_ok, Option.map_none, hb, hT.size, Sem.run_pure]) k
/-- An empty literal of a slice, an own one. -/
theorem o_bs0 {α : Type} {T e n by_ : Nat} {z : List Value} (key : Nat) (enc : α → List AV) (h : Sim B E H a w) (hT : MakeT P T e n by_ z)
    (k : ∀ v a w, Sim B ((d, osl key v) :: E) ((key, own v e n enc []) :: H) a w → wl r P ops Q rest a w) (hn : Nat.blt d B.nt = true := by rfl) :
    wl r P ops Q ({ dst := some d, op := .buildSlice T 0 #[], type := ty, pos := pos, after := af, guard := none } :: rest) a w :=
  op_gen (E' := fun v => (d, osl key v) :: E) (H' := fun v => (key, own v e n enc []) :: H) h rfl (fun _ => nofun) (fun F Ds hs => by
    obtain ⟨i, hi, hsz, hb, zv, hz, hcells, hzs⟩ := hT.info
    have hsize : (Go.sizeOf e).run P w = .ok n w := by simp [Go.sizeOf, typeInfo, program, hi, Sem.run, hsz]
    refine ⟨.slice (some ⟨w.heap.size, 0, none⟩) 0 0, w.alloc (.cells #[] e (0, 0)), ?_, .slice (some ⟨w.heap.size, 0, none⟩) 0 0, F, Ds,
      (hs.alloc key (own (.slice (some ⟨w.heap.size, 0, none⟩) 0 0) e n enc []) (.cells #[] e (0, 0)) (fun b hb => hb) ⟨by simp [maxL], [], ⟨by simp, .inr ⟨w.heap.size, 0, #[], rfl, Nat.zero_le _, heap_new _ _, by simp, by simp [maxLen], by simp, by simp⟩⟩, Els.nil _ _ _ _⟩).put (by simpa using hn) rfl⟩
    simp [execOp, Instr.buildSlice, run_underlying hT.und, hsize, Instr.fill, newRow]
    rw [show Array.range 0 = #[] from by apply Array.ext <;> simp, Array.map_empty]) (fun v => k v)
theorem run_nilcmp {T e : Nat} (hT : P.underlying T = some (.slice e)) (A : Option Addr) (n c : Nat) : (Op.equal T (.slice A n c) (.slice none 0 0)).run P w = .ok A.isNone w := by
  cases A with
  | none =>
    show (Op.equalIn (Op.maxDepth - 1 + 1) T _ _).run P w = _
    simp only [Op.equalIn, Sem.run_bind, run_underlying hT, Result.andThen_ok, Sem.run_pure, Option.isNone_none]
  | some A =>
    show (Op.equalIn (Op.maxDepth - 1 + 1) T _ _).run P w = _
    simp only [Op.equalIn, Sem.run_bind, run_underlying hT, Result.andThen_ok, Sem.run_pure, Option.isNone_some]
theorem b_nil {T e : Nat} {x y : Operand} (hT : P.underlying T = some (.slice e)) (A : Option Addr) (n c : Nat) : binRun P .eql T x y (.slice A n c) (.slice none 0 0) (.bool A.isNone) := fun w => by
  have h := run_nilcmp (w := w) hT A n c
  simp only [eqGuard, binOp, Sem.run_bind]
  simp [h]
/-- A frozen slice compared with nil. -/
theorem nilF_wl {α : Type} {T T' e n : Nat} {enc : α → List AV} {xs : List α} {x : Operand} (h : Sim B E H a w) (hx : lkO x E = sl n enc xs) (hT : P.underlying T = some (.slice e)) (k : ∀ b : Bool, (b = true → xs = []) → ∀ a w, Sim B ((d, bl b) :: E) H a w → wl r P ops Q rest a w) (hn : Nat.blt d B.nt = true := by rfl) :
    wl r P ops Q ({ dst := some d, op := .binOp .eql T x (.const (.slice none 0 0)) T', type := ty, pos := pos, after := af, guard := none } :: rest) a w :=
  op_gen (ι := { b : Bool // b = true → xs = [] }) (E' := fun b => (d, bl b.1) :: E) (H' := fun _ => H) h rfl (fun _ => nofun) (fun F Ds hs => by
    have hv := hs.opd x
    rw [hx] at hv
    obtain ⟨A, cap, hv1, _, _, h⟩ := hv
    have hb : A.isNone = true → xs = [] := fun hA => by
      rcases Classical.em (xs = []) with h0 | h0
      · exact h0
      · obtain ⟨b, off, vs, hA', _⟩ := h h0
        subst hA'; cases hA
    refine ⟨.bool A.isNone, w, ?_, ⟨A.isNone, hb⟩, F, Ds, hs.put (by simpa using hn) rfl⟩
    have := b_nil (P := P) (x := x) (y := .const (.slice none 0 0)) hT A xs.length cap w
    have hc : a.eval (.const (.slice none 0 0)) = .slice none 0 0 := rfl
    simp only [execOp, hv1, hc, Sem.run_bind] at this ⊢
    rw [this]; rfl) (fun b => k b.1 b.2)
theorem andNot_nat {m n : Nat} (hm : m < 2 ^ 63) (hn : n < 2 ^ 63) : (BitVec.ofInt 64 (m : Int) &&& ~~~ BitVec.ofInt 64 (n : Int)).toNat = m ^^^ (m &&& n) := by
  apply Nat.eq_of_testBit_eq
  intro i
  rw [BitVec.toNat_and, Nat.testBit_and, bv_nat hm, Nat.testBit_xor, Nat.testBit_and, BitVec.testBit_toNat, BitVec.getLsbD_not, ← BitVec.testBit_toNat, bv_nat hn]
  by_cases hi : i < 64
  · simp only [hi, decide_true, Bool.true_and]
    cases m.testBit i <;> cases n.testBit i <;> rfl
  · have : m.testBit i = false := Nat.testBit_lt_two_pow (Nat.lt_of_lt_of_le hm (Nat.pow_le_pow_right (by omega) (by omega)))
    simp [this]
theorem b_andNot {T : TypeId} {x y : Operand} {m n : Nat} (hm : m < 2 ^ 63) (hn : n < 2 ^ 63) : binRun P .andNot T x y (.int .i64 m) (.int .i64 n) (.int .i64 ((m ^^^ (m &&& n) : Nat) : Int)) := fun w => by
  simp only [eqGuard, binOp, Op.intBits, Sem.run_bind]
  have e : (BitVec.ofInt IntKind.i64.bits (m : Int) &&& ~~~ BitVec.ofInt IntKind.i64.bits (n : Int)).toNat = m ^^^ (m &&& n) := andNot_nat hm hn
  have hb : m ^^^ (m &&& n) < 2 ^ 63 := Nat.xor_lt_two_pow hm (Nat.lt_of_le_of_lt Nat.and_le_left hm)
  simp only [e, wrap_nat hb]
  simp
theorem b_andNotI {T : TypeId} {x y : Operand} {m n : Int} (hm : 0 ≤ m) (hm' : m < 2 ^ 63) (hn : 0 ≤ n) (hn' : n < 2 ^ 63) : binRun P .andNot T x y (.int .i64 m) (.int .i64 n) (.int .i64 ((m.toNat ^^^ (m.toNat &&& n.toNat) : Nat) : Int)) := by
  have h := b_andNot (P := P) (T := T) (x := x) (y := y) (m := m.toNat) (n := n.toNat) (by omega) (by omega)
  rwa [Int.toNat_of_nonneg hm, Int.toNat_of_nonneg hn] at h
theorem o_makeB {α : Type} {T e n by_ key m : Nat} {z : List Value} {enc : α → List AV} {y : α} {l c : Operand} (h : Sim B E H a w) (hl : lkO l E = int (m : Int)) (hc : lkO c E = int (m : Int)) (hT : MakeT P T e n by_ z)
    (hy : Exact (enc y) z) (hb : m * by_ ≤ maxL) (hm : m ≤ maxL)
    (k : ∀ b a w, Sim B ((d, osl key (.slice (some ⟨b, 0, none⟩) m m)) :: E) ((key, own (.slice (some ⟨b, 0, none⟩) m m) e n enc (List.replicate m y)) :: H) a w → wl r P ops Q rest a w) (hn : Nat.blt d B.nt = true := by rfl) :
    wl r P ops Q ({ dst := some d, op := .makeSlice T l c, type := ty, pos := pos, after := af, guard := none } :: rest) a w :=
  op_gen (E' := fun b => (d, osl key (.slice (some ⟨b, 0, none⟩) m m)) :: E) (H' := fun b => (key, own (.slice (some ⟨b, 0, none⟩) m m) e n enc (List.replicate m y)) :: H) h rfl (fun _ => nofun) (fun F Ds hs => by
    have h1 := hs.opd l
    have h2 := hs.opd c
    rw [hl] at h1
    rw [hc] at h2
    have h1 : a.eval l = .int .i64 m := h1
    have h2 : a.eval c = .int .i64 m := h2
    obtain ⟨i, hi, hsz, hby, v, hv, hcells, hvs⟩ := hT.info
    have hzl : z.length = n := by rw [hcells] at hvs; simpa using hvs
    have hb' : i.bytes * m ≤ 281474976710656 := by rw [hby, Nat.mul_comm]; unfold maxL at hb; omega
    obtain ⟨w', hrun, hown, hg⟩ := run_make_full (P := P) w 0 T e i v n hT.und hi hv hsz .i64 .i64 m hb' (by unfold maxLen; unfold maxL at hm; omega) (Nat.zero_le _)
    refine ⟨_, w', by simp only [execOp, h1, h2, Sem.run_bind, hrun]; rfl, w.heap.size, F, Ds, (hs.grown key (own (.slice (some ⟨w.heap.size, 0, none⟩) m m) e n enc (List.replicate m y)) hg (fun b hb => by cases hb) (fun b hb => ⟨.inr ?_, ownsRow_lt hown hb⟩) ?_).put (by simpa using hn) rfl⟩
    · have hb : b = w.heap.size := hb
      omega
    · refine ⟨by simpa using hm, _, by simpa using hown, ?_⟩
      rw [madeCells_flat hvs hT.pos, hcells]
      simpa [hzl] using Els.replicate (w := w') (F := F) hy m) (fun b => k b)
end
end AL
