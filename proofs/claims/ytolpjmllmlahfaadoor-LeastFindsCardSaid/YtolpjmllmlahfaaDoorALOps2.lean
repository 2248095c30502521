/- The abstract logic, part 3: arithmetic, slices, structs, appends. Under no conditions: general lemmas. -/
import Derived.Test.YtolpjmllmlahfaaDoorALOps
import Derived.IntWalk
import Derived.Laws.AppendOwn
import Derived.Laws.Small
import Derived.Laws.Strings
import Derived.Laws.Cover3
namespace AL
open Go
attribute [local semireducible] any eqv agg tup fp ptr sl exi andp above emp cell own obj

def I64 (n : Int) : Prop := -9223372036854775808 ≤ n ∧ n ≤ 9223372036854775807

theorem wrap_I64 {n : Int} (h : I64 n) : IntKind.i64.wrap n = n := by
  rw [IntWalk.i64_left]; exact IntWalk.wrap64_in n h

section
variable {P : Program} {r : Option Nat} {ops : Array Oper} {Q : Exit → Act → World → Prop} {rest : List Oper} {B : Base} {E : Env} {H : Hp} {a : Act} {w : World}
variable {d ty : Nat} {pos : String} {af : Array Edge}

def binRun (P : Program) (op : BinOp) (T : TypeId) (x y : Operand) (u v z : Value) : Prop :=
  ∀ w : World, (do eqGuard op T x y u v; binOp op T u v : Sem Value).run P w = .ok z w

theorem o_bin {op : BinOp} {T T' : TypeId} {x y : Operand} {u v z : Value} (h : Sim B E H a w) (hx : lkO x E = eqv u) (hy : lkO y E = eqv v) (hz : binRun P op T x y u v z)
    (k : ∀ a w, Sim B ((d, eqv z) :: E) H a w → wl r P ops Q rest a w) (hn : Nat.blt d B.nt = true := by rfl) :
    wl r P ops Q ({ dst := some d, op := .binOp op T x y T', type := ty, pos := pos, after := af, guard := none } :: rest) a w :=
  op_val h rfl rfl hn (fun _ => nofun) (fun F Ds hs => by
    have h1 := hs.opd x
    have h2 := hs.opd y
    rw [hx] at h1
    rw [hy] at h2
    have h1 : a.eval x = u := h1
    have h2 : a.eval y = v := h2
    refine ⟨z, ?_, rfl⟩
    have := hz w
    simp only [execOp, h1, h2, Sem.run_bind] at this ⊢
    rw [this]; rfl) k

section
variable {T : TypeId} {x y : Operand} {m n : Int} {kd : IntKind}
theorem b_add (h : I64 (m + n)) : binRun P .add T x y (.int .i64 m) (.int .i64 n) (.int .i64 (m + n)) := fun w => by
  simp [eqGuard, binOp, Op.intArith, wrap_I64 h]
theorem b_sub (h : I64 (m - n)) : binRun P .sub T x y (.int .i64 m) (.int .i64 n) (.int .i64 (m - n)) := fun w => by
  simp [eqGuard, binOp, Op.intArith, wrap_I64 h]
theorem b_mul (h : I64 (m * n)) : binRun P .mul T x y (.int .i64 m) (.int .i64 n) (.int .i64 (m * n)) := fun w => by
  simp [eqGuard, binOp, Op.intArith, wrap_I64 h]
theorem b_lss : binRun P .lss T x y (.int kd m) (.int kd n) (.bool (decide (m < n))) := fun w => by simp [eqGuard, binOp, Op.intCmp]
theorem b_leq : binRun P .leq T x y (.int kd m) (.int kd n) (.bool (decide (m ≤ n))) := fun w => by simp [eqGuard, binOp, Op.intCmp]
theorem b_gtr : binRun P .gtr T x y (.int kd m) (.int kd n) (.bool (decide (n < m))) := fun w => by simp [eqGuard, binOp, Op.intCmp]
theorem b_geq : binRun P .geq T x y (.int kd m) (.int kd n) (.bool (decide (n ≤ m))) := fun w => by simp [eqGuard, binOp, Op.intCmp]
theorem b_eql : binRun P .eql T x y (.int kd m) (.int kd n) (.bool (decide (m = n))) := fun w => by
  simp [eqGuard, binOp, Op.intCmp]
  by_cases h : m = n <;> simp [h]
theorem b_neq : binRun P .neq T x y (.int kd m) (.int kd n) (.bool (decide (m ≠ n))) := fun w => by
  simp [eqGuard, binOp, Op.intCmp]
  by_cases h : m = n <;> simp [h]
theorem b_eqlB {b c : Bool} (hT : P.underlying T = some .bool) : binRun P .eql T x y (.bool b) (.bool c) (.bool (b == c)) := fun w => by
  have e := run_equal_bool w T b c hT
  simp only [eqGuard, binOp, Sem.run_bind]
  simp [e]
theorem b_neqB {b c : Bool} (hT : P.underlying T = some .bool) : binRun P .neq T x y (.bool b) (.bool c) (.bool (b != c)) := fun w => by
  have e := run_equal_bool w T b c hT
  simp only [eqGuard, binOp, Sem.run_bind]
  simp [e, bne]

theorem toList_inj (s t : ByteArray) : (s.toList == t.toList) = decide (s = t) := by
  have key : s.toList = t.toList ↔ s = t := by
    rw [ByteArray.toList_eq, ByteArray.toList_eq]
    exact ⟨fun h => by cases s; cases t; simp at h; simp [h], fun h => by rw [h]⟩
  by_cases h : s = t
  · subst h; simp
  · simp [h, key]
theorem b_eqlS {s t : ByteArray} : binRun P .eql T x y (.string s) (.string t) (.bool (decide (s = t))) := fun w => by
  simp [eqGuard, binOp, Op.stringOp, toList_inj]
theorem b_neqS {s t : ByteArray} : binRun P .neq T x y (.string s) (.string t) (.bool (!decide (s = t))) := fun w => by
  simp [eqGuard, binOp, Op.stringOp, toList_inj]
theorem b_addS {s t : ByteArray} (h : s.size + t.size ≤ maxL) : binRun P .add T x y (.string s) (.string t) (.string (s ++ t)) := fun w => by
  have : ¬ (((s.size + t.size : Nat) : Int) > IntKind.i64.max) := by
    have h2 : IntKind.i64.max = 9223372036854775807 := by decide
    rw [h2]; unfold maxL at h; omega
  simp only [eqGuard, binOp, Op.stringOp, Sem.run_bind]
  rw [if_neg this]
  simp
end

/-! ### Bits: numbers that are not negative -/
theorem bv_nat {m : Nat} (h : m < 2 ^ 63) : (BitVec.ofInt 64 (m : Int)).toNat = m := by
  rw [BitVec.toNat_ofInt]
  omega
theorem wrap_nat {m : Nat} (h : m < 2 ^ 63) : IntKind.i64.wrap (m : Int) = m := wrap_I64 ⟨by omega, by omega⟩
theorem b_and {T : TypeId} {x y : Operand} {m n : Nat} (hm : m < 2 ^ 63) (hn : n < 2 ^ 63) : binRun P .and T x y (.int .i64 m) (.int .i64 n) (.int .i64 ((m &&& n : Nat) : Int)) := fun w => by
  simp only [eqGuard, binOp, Op.intBits, Sem.run_bind]
  have e : (BitVec.ofInt IntKind.i64.bits (m : Int) &&& BitVec.ofInt IntKind.i64.bits (n : Int)).toNat = m &&& n := by
    show (BitVec.ofInt 64 (m : Int) &&& BitVec.ofInt 64 (n : Int)).toNat = _
    rw [BitVec.toNat_and, bv_nat hm, bv_nat hn]
  simp only [e, wrap_nat (Nat.lt_of_le_of_lt Nat.and_le_left hm)]
  simp
theorem b_or {T : TypeId} {x y : Operand} {m n : Nat} (hm : m < 2 ^ 63) (hn : n < 2 ^ 63) : binRun P .or T x y (.int .i64 m) (.int .i64 n) (.int .i64 ((m ||| n : Nat) : Int)) := fun w => by
  simp only [eqGuard, binOp, Op.intBits, Sem.run_bind]
  have e : (BitVec.ofInt IntKind.i64.bits (m : Int) ||| BitVec.ofInt IntKind.i64.bits (n : Int)).toNat = m ||| n := by
    show (BitVec.ofInt 64 (m : Int) ||| BitVec.ofInt 64 (n : Int)).toNat = _
    rw [BitVec.toNat_or, bv_nat hm, bv_nat hn]
  simp only [e, wrap_nat (Nat.or_lt_two_pow hm hn)]
  simp
theorem b_xor {T : TypeId} {x y : Operand} {m n : Nat} (hm : m < 2 ^ 63) (hn : n < 2 ^ 63) : binRun P .xor T x y (.int .i64 m) (.int .i64 n) (.int .i64 ((m ^^^ n : Nat) : Int)) := fun w => by
  simp only [eqGuard, binOp, Op.intBits, Sem.run_bind]
  have e : (BitVec.ofInt IntKind.i64.bits (m : Int) ^^^ BitVec.ofInt IntKind.i64.bits (n : Int)).toNat = m ^^^ n := by
    show (BitVec.ofInt 64 (m : Int) ^^^ BitVec.ofInt 64 (n : Int)).toNat = _
    rw [BitVec.toNat_xor, bv_nat hm, bv_nat hn]
  simp only [e, wrap_nat (Nat.xor_lt_two_pow hm hn)]
  simp
theorem b_shr {T : TypeId} {x y : Operand} {m n : Nat} (hn : n ≤ 64) : binRun P .shr T x y (.int .i64 m) (.int .i64 n) (.int .i64 ((m >>> n : Nat) : Int)) := fun w => by
  have h1 : ¬ ((n : Int) < 0) := by omega
  have h2 : min n 64 = n := Nat.min_eq_left hn
  simp only [eqGuard, binOp, Op.shift, Sem.run_bind]
  rw [if_neg h1]
  have h3 : (m : Int).fdiv (2 ^ n) = ((m >>> n : Nat) : Int) := by
    rw [Int.fdiv_eq_ediv_of_nonneg _ (by exact Int.pow_nonneg (by omega)), Nat.shiftRight_eq_div_pow]
    simp
  simp [IntKind.bits, h2, h3]
theorem b_shl1 {T : TypeId} {x y : Operand} {n : Nat} (hn : n < 63) : binRun P .shl T x y (.int .i64 1) (.int .i64 n) (.int .i64 ((2 ^ n : Nat) : Int)) := fun w => by
  have h1 : ¬ ((n : Int) < 0) := by omega
  have h2 : min n 64 = n := Nat.min_eq_left (by omega)
  have h3 : 2 ^ n < 2 ^ 63 := Nat.pow_lt_pow_right (by omega) hn
  have h4 := wrap_nat h3
  simp only [eqGuard, binOp, Op.shift, Sem.run_bind]
  rw [if_neg h1]
  simp [IntKind.bits, h2]
  simpa using h4

theorem o_not {T : TypeId} {x : Operand} {b : Bool} (h : Sim B E H a w) (hx : lkO x E = bl b)
    (k : ∀ a w, Sim B ((d, bl (!b)) :: E) H a w → wl r P ops Q rest a w) (hn : Nat.blt d B.nt = true := by rfl) :
    wl r P ops Q ({ dst := some d, op := .unOp .not T x, type := ty, pos := pos, after := af, guard := none } :: rest) a w :=
  op_val h rfl rfl hn (fun _ => nofun) (fun F Ds hs => by
    have h1 := hs.opd x
    rw [hx] at h1
    have h1 : a.eval x = .bool b := h1
    exact ⟨.bool (!b), by simp [execOp, h1, Op.unary], rfl⟩) k

/-! ### Tuples -/
theorem o_extract {x : Operand} {cs : List AV} {i : Nat} {φ : AV} (h : Sim B E H a w) (hx : lkO x E = tup cs) (hi : cs[i]? = some φ)
    (k : ∀ a w, Sim B ((d, φ) :: E) H a w → wl r P ops Q rest a w) (hn : Nat.blt d B.nt = true := by rfl) :
    wl r P ops Q ({ dst := some d, op := .extract x i, type := ty, pos := pos, after := af, guard := none } :: rest) a w :=
  op_val h rfl rfl hn (fun _ => nofun) (fun F Ds hs => by
    have h1 := hs.opd x
    rw [hx] at h1
    obtain ⟨vs, hv, ha⟩ := h1
    obtain ⟨v, hv', hp⟩ := ha.get hi
    exact ⟨v, by simp [execOp, hv, Instr.extract, hv'], hp⟩) k

/-! ### Slices -/
structure IsSlice (P : Program) (T e n : Nat) : Prop where
  und : P.underlying T = some (.slice e)
  size : ∀ w, (Go.sizeOf e).run P w = .ok n w
def sliceB (P : Program) (T e n : Nat) : Bool :=
  (match P.underlying T with | some (.slice e') => Nat.beq e' e | _ => false) && (match P.info? e with | some i => Nat.beq i.size n | none => false)
theorem isSlice_of {T e n : Nat} (h : sliceB P T e n = true) : IsSlice P T e n := by
  simp only [sliceB, Bool.and_eq_true] at h
  refine ⟨?_, sizeOf_of h.2⟩
  have h1 := h.1
  cases hu : P.underlying T with
  | none => simp [hu] at h1
  | some D =>
    rw [hu] at h1
    cases D <;> simp at h1
    simp [h1]
theorem IsSlice.run {T e n : Nat} (h : IsSlice P T e n) (w : World) : (underlying T).run P w = .ok (.slice e) w := by
  simp [underlying, program, Sem.run, h.und]

theorem o_lenF {α : Type} {T e n m : Nat} {enc : α → List AV} {xs : List α} {x : Operand} (h : Sim B E H a w) (hx : lkO x E = sl m enc xs) (hT : IsSlice P T e n)
    (k : ∀ a w, Sim B ((d, int (xs.length : Int)) :: E) H a w → wl r P ops Q rest a w) (hn : Nat.blt d B.nt = true := by rfl) :
    wl r P ops Q ({ dst := some d, op := .call { callee := .builtin .len, args := #[x], argTypes := #[T] }, type := ty, pos := pos, after := af, guard := none } :: rest) a w :=
  op_val h rfl rfl hn (fun _ => nofun) (fun F Ds hs => by
    have h1 := hs.opd x
    rw [hx] at h1
    obtain ⟨A, cap, hv, _⟩ := h1
    exact ⟨.int .i64 xs.length, by simp [execOp, resolve, hv, invoke, builtin, Builtin.len_, hT.run, goInt], rfl⟩) k

/-- An own slice's value; 'k': the key of what is known of it. -/
def osl (_k : Nat) (v : Value) : AV := ⟨fun _ _ u => u = v, fun _ _ h => h⟩

theorem own_form {α : Type} {v : Value} {et n : Nat} {enc : α → List AV} {xs : List α} {w : World} {F : Fz} (h : (own v et n enc xs).p w F) : ∃ A cap, v = .slice A xs.length cap := by
  obtain ⟨_, vs, h, _⟩ := h
  rcases h.2 with ⟨hv, hx⟩ | ⟨g, cap, c, hv, _⟩
  · exact ⟨none, 0, by simp [hv, hx]⟩
  · exact ⟨_, _, hv⟩
theorem own_one {α : Type} {v : Value} {et n : Nat} {enc : α → List AV} {xs : List α} {w : World} {F : Fz} (h : (own v et n enc xs).p w F) : v.oneCell' = true := by
  obtain ⟨A, c, rfl⟩ := own_form h; rfl

theorem o_lenO {α : Type} {T e n m key et : Nat} {v : Value} {enc : α → List AV} {xs : List α} {x : Operand} (h : Sim B E H a w) (hx : lkO x E = osl key v) (hk : lkH key H = own v et m enc xs) (hT : IsSlice P T e n)
    (k : ∀ a w, Sim B ((d, int (xs.length : Int)) :: E) H a w → wl r P ops Q rest a w) (hn : Nat.blt d B.nt = true := by rfl) :
    wl r P ops Q ({ dst := some d, op := .call { callee := .builtin .len, args := #[x], argTypes := #[T] }, type := ty, pos := pos, after := af, guard := none } :: rest) a w :=
  op_val h rfl rfl hn (fun _ => nofun) (fun F Ds hs => by
    have h1 := hs.opd x
    rw [hx] at h1
    have h1 : a.eval x = v := h1
    have h2 := hs.hp key
    rw [hk] at h2
    obtain ⟨A, cap, hv⟩ := own_form h2
    exact ⟨.int .i64 xs.length, by simp [execOp, resolve, h1, hv, invoke, builtin, Builtin.len_, hT.run, goInt], rfl⟩) k

theorem o_lenS {T : Nat} {s : ByteArray} {x : Operand} (h : Sim B E H a w) (hx : lkO x E = str s) (hT : P.underlying T = some .string)
    (k : ∀ a w, Sim B ((d, int (s.size : Int)) :: E) H a w → wl r P ops Q rest a w) (hn : Nat.blt d B.nt = true := by rfl) :
    wl r P ops Q ({ dst := some d, op := .call { callee := .builtin .len, args := #[x], argTypes := #[T] }, type := ty, pos := pos, after := af, guard := none } :: rest) a w :=
  op_val h rfl rfl hn (fun _ => nofun) (fun F Ds hs => by
    have h1 := hs.opd x
    rw [hx] at h1
    have h1 : a.eval x = .string s := h1
    exact ⟨.int .i64 s.size, by simp [execOp, resolve, h1, invoke, builtin, Builtin.len_, underlying, program, Sem.run, hT, goInt], rfl⟩) k

theorem o_indexF {α : Type} {T e n : Nat} {enc : α → List AV} {xs : List α} {x i : Operand} {m : Int} {y : α} (h : Sim B E H a w) (hx : lkO x E = sl n enc xs) (hi : lkO i E = int m) (hT : IsSlice P T e n)
    (h0 : 0 ≤ m) (hy : xs[m.toNat]? = some y)
    (k : ∀ a w, Sim B ((d, fp (enc y)) :: E) H a w → wl r P ops Q rest a w) (hn : Nat.blt d B.nt = true := by rfl) :
    wl r P ops Q ({ dst := some d, op := .indexAddr T x i, type := ty, pos := pos, after := af, guard := none } :: rest) a w :=
  op_val h rfl rfl hn (fun _ => nofun) (fun F Ds hs => by
    have h1 := hs.opd x
    have h2 := hs.opd i
    rw [hx] at h1
    rw [hi] at h2
    have h2 : a.eval i = .int .i64 m := h2
    obtain ⟨A, cap, hv, hc, hm, hA⟩ := h1
    have hlt : m.toNat < xs.length := (List.getElem?_eq_some_iff.1 hy).1
    obtain ⟨b, off, vs0, rfl, hb, hr0, hs'⟩ := hA (by intro e; subst e; simp at hlt)
    have hr := (hr0.drop (m.toNat * n)).take n
    have ha := hs'.el _ _ hy
    have hlt' : m < (xs.length : Int) := by omega
    refine ⟨.pointer (some ⟨b, off + m.toNat * n, none⟩), ?_, b, off + m.toNat * n, _, rfl, hb, hr, ha⟩
    simp [execOp, hv, h2, Instr.indexAt, asIntOf, hT.run, h0, hlt', hT.size, add_mk]) k

/-- A pointer to cell j of element i of an own slice. -/
def eptr (_k : Nat) (v : Value) (n i j : Nat) : AV :=
  ⟨fun _ _ u => ∃ b l c, v = .slice (some ⟨b, 0, none⟩) l c ∧ u = .pointer (some ⟨b, i * n + j, none⟩), fun _ _ h => h⟩

theorem o_indexO {α : Type} {T e n key et : Nat} {v : Value} {enc : α → List AV} {xs : List α} {x i : Operand} {m : Int} (h : Sim B E H a w) (hx : lkO x E = osl key v) (hk : lkH key H = own v et n enc xs)
    (hi : lkO i E = int m) (hT : IsSlice P T e n) (h0 : 0 ≤ m) (hy : m < (xs.length : Int))
    (k : ∀ a w, Sim B ((d, eptr key v n m.toNat 0) :: E) H a w → wl r P ops Q rest a w) (hn : Nat.blt d B.nt = true := by rfl) :
    wl r P ops Q ({ dst := some d, op := .indexAddr T x i, type := ty, pos := pos, after := af, guard := none } :: rest) a w :=
  op_val h rfl rfl hn (fun _ => nofun) (fun F Ds hs => by
    have h1 := hs.opd x
    have h2 := hs.opd i
    rw [hx] at h1
    rw [hi] at h2
    have h1 : a.eval x = v := h1
    have h2 : a.eval i = .int .i64 m := h2
    have h3 := hs.hp key
    rw [hk] at h3
    obtain ⟨_, vs, h3, _⟩ := h3
    rcases h3.2 with ⟨_, hx⟩ | ⟨b, cap, c, hv, _⟩
    · rw [hx] at hy; omega
    · refine ⟨.pointer (some ⟨b, m.toNat * n, none⟩), ?_, b, xs.length, cap, hv, by simp⟩
      simp [execOp, h1, hv, h2, Instr.indexAt, asIntOf, hT.run, h0, hy, hT.size, add_mk]) k

theorem own_get {α : Type} {v : Value} {et n : Nat} {enc : α → List AV} {xs : List α} {w : World} {F : Fz} (h : (own v et n enc xs).p w F) {i : Nat} {y : α} (hy : xs[i]? = some y) {b l c : Nat} (hv : v = .slice (some ⟨b, 0, none⟩) l c) :
    ∃ vs, vs.length = n ∧ rdAt w b (i * n) vs ∧ All2 w F (enc y) vs := by
  have hlt : i < xs.length := (List.getElem?_eq_some_iff.1 hy).1
  obtain ⟨_, vs, h, he⟩ := h
  rcases h.2 with ⟨hv', hx⟩ | ⟨b', cap, c', hv', _, hc, _, _, _, htake⟩
  · omega
  · rw [hv] at hv'
    simp at hv'
    obtain ⟨rfl, _⟩ := hv'
    refine ⟨_, he.lenD hlt, ?_, he.el i y hy⟩
    have h0 : rdAt w b 0 vs := ⟨c', et, (0, 0), hc, fun j u hj => by
      have : (c'.toList.take (xs.length * n))[j]? = some u := by rw [htake]; exact hj
      rw [List.getElem?_take] at this
      split at this
      · simpa using this
      · simp at this⟩
    simpa using (h0.drop (i * n)).take n

theorem o_loadO {α : Type} {T n key i j et : Nat} {v : Value} {enc : α → List AV} {xs : List α} {x : Operand} {y : α} {φ : AV} (h : Sim B E H a w) (hx : lkO x E = eptr key v n i j) (hk : lkH key H = own v et n enc xs)
    (hy : xs[i]? = some y) (hj : (enc y)[j]? = some φ) (ht : IsOne P T)
    (k : ∀ a w, Sim B ((d, φ) :: E) H a w → wl r P ops Q rest a w) (hn : Nat.blt d B.nt = true := by rfl) :
    wl r P ops Q ({ dst := some d, op := .load T x, type := ty, pos := pos, after := af, guard := none } :: rest) a w :=
  op_val h rfl rfl hn (fun _ => nofun) (fun F Ds hs => by
    have h1 := hs.opd x
    rw [hx] at h1
    obtain ⟨b, l, c, hv, hu⟩ := h1
    have h3 := hs.hp key
    rw [hk] at h3
    obtain ⟨vs, _, hr, ha⟩ := own_get h3 hy hv
    obtain ⟨u, hu', hp⟩ := ha.get hj
    exact ⟨u, by simp [execOp, hu, Instr.loadAt, Instr.sureAddr, run_loadVar_one ht (hr.cell hu')], hp⟩) k

theorem o_loadOA {α : Type} {T n m key i j et : Nat} {v : Value} {enc : α → List AV} {xs : List α} {x : Operand} {y : α} (h : Sim B E H a w) (hx : lkO x E = eptr key v n i j) (hk : lkH key H = own v et n enc xs)
    (hy : xs[i]? = some y) (ht : IsAgg P T m) (hl : j + m ≤ n)
    (k : ∀ a w, Sim B ((d, agg (((enc y).drop j).take m)) :: E) H a w → wl r P ops Q rest a w) (hn : Nat.blt d B.nt = true := by rfl) :
    wl r P ops Q ({ dst := some d, op := .load T x, type := ty, pos := pos, after := af, guard := none } :: rest) a w :=
  op_val h rfl rfl hn (fun _ => nofun) (fun F Ds hs => by
    have h1 := hs.opd x
    rw [hx] at h1
    obtain ⟨b, l, c, hv, hu⟩ := h1
    have h3 := hs.hp key
    rw [hk] at h3
    obtain ⟨vs, hlen, hr, ha⟩ := own_get h3 hy hv
    have hlen' : ((vs.drop j).take m).length = m := by simp; omega
    exact ⟨.agg ((vs.drop j).take m).toArray, by simp only [execOp, hu, Instr.loadAt, Instr.sureAddr, Sem.run_bind, Sem.run_pure, Result.andThen_ok, run_loadVar_agg ht ((hr.drop j).take m) hlen'], _, rfl, (ha.drop j).take m⟩) k

theorem o_fieldO {T f off key n i j : Nat} {v : Value} {x : Operand} (h : Sim B E H a w) (hx : lkO x E = eptr key v n i j) (hf : FieldAt P T f off)
    (k : ∀ a w, Sim B ((d, eptr key v n i (j + off)) :: E) H a w → wl r P ops Q rest a w) (hn : Nat.blt d B.nt = true := by rfl) :
    wl r P ops Q ({ dst := some d, op := .fieldAddr T x f, type := ty, pos := pos, after := af, guard := none } :: rest) a w :=
  op_val h rfl rfl hn (fun _ => nofun) (fun F Ds hs => by
    have h1 := hs.opd x
    rw [hx] at h1
    obtain ⟨b, l, c, hv, hu⟩ := h1
    exact ⟨.pointer (some ⟨b, i * n + j + off, none⟩), by simp [execOp, hu, hf.run], b, l, c, hv, by rw [Nat.add_assoc]⟩) k
end
attribute [irreducible] osl eptr
end AL
