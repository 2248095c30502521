/- The abstract logic, part 1: values and memory read as data; the relation between an activation and what is known of it. Under no conditions: general lemmas. -/
import Derived.CallsIn
import Derived.TacticsIn
import Derived.RangeFuncLeaves
import Derived.Laws.Sem
import Derived.Laws.Cells
import Derived.Laws.World
import Derived.Laws.AppendOwn
import Derived.Below
import Derived.KernelRfl
namespace AL
open Go

abbrev Fz := Nat → Prop

/-- What is known of a value: stable while the frozen blocks stay. -/
structure AV where
  p : World → Fz → Value → Prop
  st : ∀ {w : World} {F : Fz} {w' : World} {F' : Fz} {v : Value}, (∀ b, F b → F' b) → (∀ b, F b → w'.heap[b]? = w.heap[b]?) → p w F v → p w' F' v

def All2 (w : World) (F : Fz) : List AV → List Value → Prop
  | [], [] => True
  | φ :: cs, v :: vs => φ.p w F v ∧ All2 w F cs vs
  | _, _ => False

theorem All2.st {w w' : World} {F F' : Fz} (hF : ∀ b, F b → F' b) (hw : ∀ b, F b → w'.heap[b]? = w.heap[b]?) : ∀ {cs : List AV} {vs : List Value}, All2 w F cs vs → All2 w' F' cs vs
  | [], [], _ => trivial
  | φ :: _, _ :: _, h => ⟨φ.st hF hw h.1, All2.st hF hw h.2⟩
  | [], _ :: _, h => h.elim
  | _ :: _, [], h => h.elim

theorem All2.length {w : World} {F : Fz} : ∀ {cs : List AV} {vs : List Value}, All2 w F cs vs → vs.length = cs.length
  | [], [], _ => rfl
  | _ :: _, _ :: _, h => by simp [All2.length h.2]
  | [], _ :: _, h => h.elim
  | _ :: _, [], h => h.elim

theorem All2.get {w : World} {F : Fz} : ∀ {cs : List AV} {vs : List Value}, All2 w F cs vs → ∀ {i : Nat} {φ : AV}, cs[i]? = some φ → ∃ v, vs[i]? = some v ∧ φ.p w F v
  | [], [], _, i, φ, h => by simp at h
  | c :: cs, v :: vs, h, 0, φ, he => by simp at he; subst he; exact ⟨v, rfl, h.1⟩
  | c :: cs, v :: vs, h, i + 1, φ, he => by
    obtain ⟨u, hu, hp⟩ := All2.get h.2 (i := i) (φ := φ) (by simpa using he)
    exact ⟨u, by simpa using hu, hp⟩
  | [], _ :: _, h, _, _, _ => h.elim
  | _ :: _, [], h, _, _, _ => h.elim

theorem All2.drop {w : World} {F : Fz} : ∀ (n : Nat) {cs : List AV} {vs : List Value}, All2 w F cs vs → All2 w F (cs.drop n) (vs.drop n)
  | 0, _, _, h => h
  | n + 1, [], [], h => by simpa using h
  | n + 1, _ :: _, _ :: _, h => by simpa using All2.drop n h.2
  | _ + 1, [], _ :: _, h => h.elim
  | _ + 1, _ :: _, [], h => h.elim

theorem All2.take {w : World} {F : Fz} : ∀ (n : Nat) {cs : List AV} {vs : List Value}, All2 w F cs vs → All2 w F (cs.take n) (vs.take n)
  | 0, cs, vs, _ => by simp [All2]
  | n + 1, [], [], h => by simpa using h
  | n + 1, _ :: _, _ :: _, h => by simpa [All2] using ⟨h.1, All2.take n h.2⟩
  | _ + 1, [], _ :: _, h => h.elim
  | _ + 1, _ :: _, [], h => h.elim

theorem All2.append {w : World} {F : Fz} : ∀ {cs cs' : List AV} {vs vs' : List Value}, All2 w F cs vs → All2 w F cs' vs' → All2 w F (cs ++ cs') (vs ++ vs')
  | [], _, [], _, _, h' => by simpa using h'
  | _ :: _, _, _ :: _, _, h, h' => ⟨h.1, All2.append h.2 h'⟩
  | [], _, _ :: _, _, h, _ => h.elim
  | _ :: _, _, [], _, h, _ => h.elim

theorem All2.set {w : World} {F : Fz} : ∀ {cs : List AV} {vs : List Value} (i : Nat) {φ : AV} {v : Value}, All2 w F cs vs → φ.p w F v → All2 w F (cs.set i φ) (vs.set i v)
  | [], [], _, _, _, _, _ => by simp [All2]
  | _ :: _, _ :: _, 0, _, _, h, hv => ⟨hv, h.2⟩
  | _ :: _, _ :: _, i + 1, _, _, h, hv => ⟨h.1, All2.set i h.2 hv⟩
  | [], _ :: _, _, _, _, h, _ => h.elim
  | _ :: _, [], _, _, _, h, _ => h.elim

/-- Cells of a block, from a place on. -/
def rdAt (w : World) (b off : Nat) (vs : List Value) : Prop :=
  ∃ c ty fr, w.heap[b]? = some (.cells c ty fr) ∧ ∀ (j : Nat) (v : Value), vs[j]? = some v → c[off + j]? = some v

theorem rdAt.st {w w' : World} {b off : Nat} {vs : List Value} (hw : w'.heap[b]? = w.heap[b]?) (h : rdAt w b off vs) : rdAt w' b off vs := by
  obtain ⟨c, ty, fr, hc, hv⟩ := h
  exact ⟨c, ty, fr, hw.trans hc, hv⟩

theorem rdAt.cell {w : World} {b off : Nat} {vs : List Value} (h : rdAt w b off vs) {j : Nat} {v : Value} (hj : vs[j]? = some v) : w.cell? ⟨b, off + j, none⟩ = some v := by
  obtain ⟨c, ty, fr, hc, hv⟩ := h
  simp [World.cell?, hc, hv j v hj]

theorem rdAt.drop {w : World} {b off : Nat} {vs : List Value} (h : rdAt w b off vs) (n : Nat) : rdAt w b (off + n) (vs.drop n) := by
  obtain ⟨c, ty, fr, hc, hv⟩ := h
  exact ⟨c, ty, fr, hc, fun j v hj => by rw [Nat.add_assoc]; exact hv (n + j) v (by simpa using hj)⟩

theorem rdAt.take {w : World} {b off : Nat} {vs : List Value} (h : rdAt w b off vs) (n : Nat) : rdAt w b off (vs.take n) := by
  obtain ⟨c, ty, fr, hc, hv⟩ := h
  refine ⟨c, ty, fr, hc, fun j v hj => hv j v ?_⟩
  rw [List.getElem?_take] at hj
  split at hj
  · exact hj
  · simp at hj

/-! ### Kinds of knowledge -/
def any : AV := ⟨fun _ _ _ => True, fun _ _ _ => trivial⟩
def eqv (x : Value) : AV := ⟨fun _ _ v => v = x, fun _ _ h => h⟩
def agg (cs : List AV) : AV := ⟨fun w F v => ∃ vs : List Value, v = .agg vs.toArray ∧ All2 w F cs vs, fun hF hw ⟨vs, hv, h⟩ => ⟨vs, hv, h.st hF hw⟩⟩
def tup (cs : List AV) : AV := ⟨fun w F v => ∃ vs : List Value, v = .tuple vs.toArray ∧ All2 w F cs vs, fun hF hw ⟨vs, hv, h⟩ => ⟨vs, hv, h.st hF hw⟩⟩
/-- A pointer to frozen cells. -/
def fp (cs : List AV) : AV :=
  ⟨fun w F v => ∃ b off vs, v = .pointer (some ⟨b, off, none⟩) ∧ F b ∧ rdAt w b off vs ∧ All2 w F cs vs,
   fun hF hw ⟨b, off, vs, hv, hb, hr, h⟩ => ⟨b, off, vs, hv, hF b hb, hr.st (hw b hb), h.st hF hw⟩⟩
/-- A pointer to cells of the activation's own; 'k': the key of the block in what is known of the heap. -/
def ptr (_k b off : Nat) : AV := ⟨fun _ _ v => v = .pointer (some ⟨b, off, none⟩), fun _ _ h => h⟩

def maxL : Nat := 140737488355328

/-- Elements of n cells each, one behind the other. -/
structure Els {α : Type} (w : World) (F : Fz) (n : Nat) (enc : α → List AV) (xs : List α) (vs : List Value) : Prop where
  len : vs.length = xs.length * n
  el : ∀ (i : Nat) (x : α), xs[i]? = some x → All2 w F (enc x) ((vs.drop (i * n)).take n)

theorem Els.st {α : Type} {w w' : World} {F F' : Fz} {n : Nat} {enc : α → List AV} {xs : List α} {vs : List Value} (hF : ∀ b, F b → F' b) (hw : ∀ b, F b → w'.heap[b]? = w.heap[b]?)
    (h : Els w F n enc xs vs) : Els w' F' n enc xs vs := ⟨h.len, fun i x hi => (h.el i x hi).st hF hw⟩

theorem Els.nil {α : Type} (w : World) (F : Fz) (n : Nat) (enc : α → List AV) : Els w F n enc [] [] := ⟨by simp, fun i x hi => by simp at hi⟩

theorem Els.lenD {α : Type} {w : World} {F : Fz} {n : Nat} {enc : α → List AV} {xs : List α} {vs : List Value} (h : Els w F n enc xs vs) {i : Nat} (hi : i < xs.length) : ((vs.drop (i * n)).take n).length = n := by
  have h1 : (i + 1) * n ≤ xs.length * n := Nat.mul_le_mul_right n hi
  have h2 := h.len
  rw [Nat.add_mul] at h1
  simp; omega

theorem Els.append {α : Type} {w : World} {F : Fz} {n : Nat} {enc : α → List AV} {xs ys : List α} {vs us : List Value} (h : Els w F n enc xs vs) (h' : Els w F n enc ys us) : Els w F n enc (xs ++ ys) (vs ++ us) := by
  refine ⟨by simp [h.len, h'.len, Nat.add_mul], fun i x hi => ?_⟩
  by_cases hlt : i < xs.length
  · rw [List.getElem?_append_left hlt] at hi
    have h1 := h.el i x hi
    have h2 : (i + 1) * n ≤ xs.length * n := Nat.mul_le_mul_right n hlt
    have h3 := h.len
    rw [Nat.add_mul] at h2
    rw [List.drop_append_of_le_length (by omega), List.take_append_of_le_length (by simp; omega)]
    exact h1
  · rw [List.getElem?_append_right (by omega)] at hi
    have h1 := h'.el _ x hi
    have h2 : i * n = vs.length + (i - xs.length) * n := by
      rw [h.len, ← Nat.add_mul]; congr 1; omega
    rw [h2, List.drop_append, List.drop_of_length_le (by omega)]
    simpa using h1

theorem Els.one {α : Type} {w : World} {F : Fz} {enc : α → List AV} {x : α} {us : List Value} (h : All2 w F (enc x) us) : Els w F us.length enc [x] us := by
  refine ⟨by simp, fun i y hi => ?_⟩
  cases i with
  | zero => simp at hi; subst hi; simpa using h
  | succ i => simp at hi

theorem Els.set {α : Type} {w : World} {F : Fz} {n : Nat} {enc : α → List AV} {xs : List α} {vs us : List Value} (h : Els w F n enc xs vs) {i : Nat} {y : α} (hi : i < xs.length) (hu : us.length = n) (hy : All2 w F (enc y) us) :
    Els w F n enc (xs.set i y) (vs.take (i * n) ++ us ++ vs.drop (i * n + n)) := by
  have hle : (i + 1) * n ≤ xs.length * n := Nat.mul_le_mul_right n hi
  have hlen := h.len
  rw [Nat.add_mul] at hle
  refine ⟨by simp [hu]; omega, fun j x hj => ?_⟩
  by_cases e : i = j
  · subst e
    rw [List.getElem?_set_self hi] at hj
    simp at hj; subst hj
    rw [List.append_assoc, List.drop_append_of_le_length (by simp; omega), List.drop_of_length_le (by simp; omega), List.nil_append, List.take_append_of_le_length (by omega), List.take_of_length_le (by omega)]
    exact hy
  · rw [List.getElem?_set_ne e] at hj
    have hj' := h.el j x hj
    have hjl : j < xs.length := (List.getElem?_eq_some_iff.1 hj).1
    have e2 : ((vs.take (i * n) ++ us ++ vs.drop (i * n + n)).drop (j * n)).take n = (vs.drop (j * n)).take n := by
      apply List.ext_getElem?
      intro t
      rw [List.getElem?_take, List.getElem?_take]
      split
      · next ht =>
        rw [List.getElem?_drop, List.getElem?_drop]
        rcases Nat.lt_or_gt_of_ne e with hlt | hgt
        · have h1 : (i + 1) * n ≤ j * n := Nat.mul_le_mul_right n hlt
          rw [Nat.add_mul] at h1
          rw [List.getElem?_append_right (by simp; omega), List.getElem?_drop]
          congr 1
          simp; omega
        · have h1 : (j + 1) * n ≤ i * n := Nat.mul_le_mul_right n hgt
          rw [Nat.add_mul] at h1
          rw [List.append_assoc, List.getElem?_append_left (by simp; omega), List.getElem?_take]
          rw [if_pos (by omega)]
      · rfl
    rw [e2]; exact hj'

/-- A frozen slice; each element has n cells. -/
def sl {α : Type} (n : Nat) (enc : α → List AV) (xs : List α) : AV :=
  ⟨fun w F v => ∃ A cap, v = .slice A xs.length cap ∧ xs.length ≤ cap ∧ xs.length ≤ maxL ∧ (xs ≠ [] → ∃ b off vs, A = some ⟨b, off, none⟩ ∧ F b ∧ rdAt w b off vs ∧ Els w F n enc xs vs),
   fun hF hw ⟨A, cap, hv, hc, hm, h⟩ => ⟨A, cap, hv, hc, hm, fun hx => by
    obtain ⟨b, off, vs, hA, hb, hr, hs⟩ := h hx
    exact ⟨b, off, vs, hA, hF b hb, hr.st (hw b hb), hs.st hF hw⟩⟩⟩

/-- What is known of some x. -/
def exi {α : Type} (φ : α → AV) : AV := ⟨fun w F v => ∃ x, (φ x).p w F v, fun hF hw ⟨x, h⟩ => ⟨x, (φ x).st hF hw h⟩⟩
/-- With a plain fact. -/
def andp (q : Prop) (φ : AV) : AV := ⟨fun w F v => q ∧ φ.p w F v, fun hF hw h => ⟨h.1, φ.st hF hw h.2⟩⟩
/-- By frozen blocks from N on alone. -/
def above (N : Nat) (φ : AV) : AV := ⟨fun w F v => φ.p w (fun b => F b ∧ N ≤ b) v, fun hF hw h => φ.st (fun b hb => ⟨hF b hb.1, hb.2⟩) (fun b hb => hw b hb.1) h⟩

abbrev int (n : Int) : AV := eqv (.int .i64 n)
abbrev u8 (n : Int) : AV := eqv (.int .u8 n)
abbrev bl (b : Bool) : AV := eqv (.bool b)
abbrev str (s : ByteArray) : AV := eqv (.string s)

theorem above_of {N : Nat} {φ : AV} {w : World} {F : Fz} {v : Value} (h : (above N φ).p w F v) : φ.p w F v := φ.st (fun _ hb => hb.1) (fun _ _ => rfl) h

/-- One cell. -/
class One (φ : AV) : Prop where
  one : ∀ {w F v}, φ.p w F v → v.oneCell' = true
instance (n : Int) : One (int n) := ⟨fun h => by cases h; rfl⟩
instance (n : Int) : One (u8 n) := ⟨fun h => by cases h; rfl⟩
instance (b : Bool) : One (bl b) := ⟨fun h => by cases h; rfl⟩
instance (s : ByteArray) : One (str s) := ⟨fun h => by cases h; rfl⟩
instance (k : IntKind) (n : Int) : One (eqv (.int k n)) := ⟨fun h => by cases h; rfl⟩
instance {α : Type} (n : Nat) (enc : α → List AV) (xs : List α) : One (sl n enc xs) := ⟨fun ⟨_, _, h, _⟩ => by cases h; rfl⟩
instance (cs : List AV) : One (fp cs) := ⟨fun ⟨_, _, _, h, _⟩ => by cases h; rfl⟩
instance (k b off : Nat) : One (ptr k b off) := ⟨fun h => by cases h; rfl⟩
instance (A : Option Addr) (n c : Nat) : One (eqv (.slice A n c)) := ⟨fun h => by cases h; rfl⟩
instance (f : Fn) (a c : Array Value) : One (eqv (.func f a c)) := ⟨fun h => by cases h; rfl⟩
instance (m : Option Nat) : One (eqv (.map m)) := ⟨fun h => by cases h; rfl⟩

/-! ### What is known of the heap -/
structure HA where
  foot : Fz
  p : World → Fz → Prop
  st : ∀ {w : World} {F : Fz} {w' : World} {F' : Fz}, (∀ b, F b → F' b) → (∀ b, F b ∨ foot b → w'.heap[b]? = w.heap[b]?) → p w F → p w' F'

def emp : HA := ⟨fun _ => False, fun _ _ => True, fun _ _ _ => trivial⟩
/-- A variable in memory. -/
def cell (b : Nat) (cs : List AV) : HA :=
  ⟨fun x => x = b, fun w F => ∃ vs ty, w.heap[b]? = some (.cells (List.toArray vs) ty (0, 0)) ∧ All2 w F cs vs,
   fun hF hw ⟨vs, ty, h, ha⟩ => ⟨vs, ty, (hw b (.inr rfl)).trans h, ha.st hF (fun x hx => hw x (.inl hx))⟩⟩

def ownB (v : Value) : Fz := match v with
  | .slice (some a) _ _ => fun x => x = a.block
  | _ => fun _ => False

theorem ownsRow_st {w w' : World} {e n : Nat} {v : Value} {k : Nat} {vs : List Value} (hw : ∀ b, ownB v b → w'.heap[b]? = w.heap[b]?) (h : w.ownsRow 0 e n v k vs) : w'.ownsRow 0 e n v k vs := by
  refine ⟨h.1, ?_⟩
  rcases h.2 with h0 | ⟨g, cap, cur, hv, h1, h2, h3⟩
  · exact .inl h0
  · exact .inr ⟨g, cap, cur, hv, h1, (hw g (by subst hv; rfl)).trans h2, h3⟩

/-- A slice of the activation's own, from its block's head on; e: the element's type. -/
def own {α : Type} (v : Value) (e n : Nat) (enc : α → List AV) (xs : List α) : HA :=
  ⟨ownB v, fun w F => xs.length ≤ maxL ∧ ∃ vs, w.ownsRow 0 e n v xs.length vs ∧ Els w F n enc xs vs,
   fun hF hw ⟨hm, vs, h, he⟩ => ⟨hm, vs, ownsRow_st (fun b hb => hw b (.inr hb)) h, he.st hF (fun b hb => hw b (.inl hb))⟩⟩

/-- An object of another kind. -/
def obj (b : Nat) (o : Obj) : HA := ⟨fun x => x = b, fun w _ => w.heap[b]? = some o, fun _ hw h => (hw b (.inr rfl)).trans h⟩

/-! ### Lists of knowledge -/
abbrev Env := List (Nat × AV)
abbrev Hp := List (Nat × HA)
def lk (t : Nat) : Env → AV
  | [] => any
  | (s, φ) :: r => bif Nat.beq s t then φ else lk t r
def lkH (t : Nat) : Hp → HA
  | [] => emp
  | (s, φ) :: r => bif Nat.beq s t then φ else lkH t r
theorem lk_same (t : Nat) (φ : AV) (E : Env) : lk t ((t, φ) :: E) = φ := by simp [lk]
theorem lk_other {t s : Nat} (φ : AV) (E : Env) (h : s ≠ t) : lk t ((s, φ) :: E) = lk t E := by
  have : Nat.beq s t = false := by
    cases hb : Nat.beq s t
    · rfl
    · exact absurd (Nat.eq_of_beq_eq_true hb) h
  simp [lk, this]
theorem lkH_same (t : Nat) (φ : HA) (E : Hp) : lkH t ((t, φ) :: E) = φ := by simp [lkH]
theorem lkH_other {t s : Nat} (φ : HA) (E : Hp) (h : s ≠ t) : lkH t ((s, φ) :: E) = lkH t E := by
  have : Nat.beq s t = false := by
    cases hb : Nat.beq s t
    · rfl
    · exact absurd (Nat.eq_of_beq_eq_true hb) h
  simp [lkH, this]
def lkO : Operand → Env → AV
  | .tmp t, E => lk t E
  | .const v, _ => eqv v
  | .global g, _ => eqv (.pointer (some ⟨g, 0, none⟩))
  | .func f, _ => eqv (.func (.func f) #[] #[])

/-- What an activation begins with: the world, the old blocks that it may write, the frozen blocks, the number of its temporaries. -/
structure Base where
  w0 : World
  M : Fz
  F0 : Fz
  nt : Nat
abbrev Base.N (B : Base) : Nat := B.w0.heap.size

structure SimF (B : Base) (E : Env) (H : Hp) (a : Act) (w : World) (F : Fz) (Ds : List Nat) : Prop where
  sz : a.tmps.size = B.nt
  env : ∀ t, (lk t E).p w F (a.tmps.getD t undef)
  hp : ∀ k, (lkH k H).p w F
  hF : ∀ k b, (lkH k H).foot b → ¬ F b
  hd : ∀ k k' b, k ≠ k' → (lkH k H).foot b → ¬ (lkH k' H).foot b
  hN : ∀ k b, (lkH k H).foot b → b < w.heap.size ∧ (B.N ≤ b ∨ B.M b)
  Fb : ∀ b, F b → b < w.heap.size ∧ (B.F0 b ∨ B.N ≤ b ∨ B.M b)
  F0 : ∀ b, B.F0 b → F b
  Ns : B.N ≤ w.heap.size
  fr : ∀ b, b < B.N → ¬ B.M b → w.heap[b]? = B.w0.heap[b]?
  os : w.os = B.w0.os
  tp : w.tape = B.w0.tape
  out : w.output = B.w0.output
  df : a.defers = Ds.map fun D => { target := .collected D, args := #[] }
  dn : Ds.Nodup
  dD : ∀ D ∈ Ds, w.heap[D]? = some (.deferred (some [])) ∧ ¬ F D ∧ B.N ≤ D ∧ ∀ k, ¬ (lkH k H).foot D

def Sim (B : Base) (E : Env) (H : Hp) (a : Act) (w : World) : Prop := ∃ F Ds, SimF B E H a w F Ds

theorem SimF.opd {B : Base} {E : Env} {H : Hp} {a : Act} {w : World} {F : Fz} {Ds : List Nat} (h : SimF B E H a w F Ds) : ∀ x : Operand, (lkO x E).p w F (a.eval x)
  | .tmp t => h.env t
  | .const _ => rfl
  | .global _ => rfl
  | .func _ => rfl

theorem SimF.put {B : Base} {E : Env} {H : Hp} {a : Act} {w : World} {F : Fz} {Ds : List Nat} (h : SimF B E H a w F Ds) {d : Nat} (hd : d < B.nt) {φ : AV} {v : Value} (hv : φ.p w F v) :
    SimF B ((d, φ) :: E) H (a.put (some d) v) w F Ds :=
  { h with
    sz := by simpa [Act.put] using h.sz
    env := fun t => by
      by_cases e : d = t
      · subst e
        rw [lk_same]
        have : d < a.tmps.size := h.sz ▸ hd
        simpa [Act.put, this] using hv
      · rw [lk_other _ _ e]
        have : (a.put (some d) v).tmps.getD t undef = a.tmps.getD t undef := by
          simp [Act.put, e]
        rw [this]; exact h.env t
    df := by simpa [Act.put] using h.df }

theorem SimF.putNone {B : Base} {E : Env} {H : Hp} {a : Act} {w : World} {F : Fz} {Ds : List Nat} (h : SimF B E H a w F Ds) {v : Value} : SimF B E H (a.put none v) w F Ds := h

/-- The heap turned at one key's blocks, or grown there. -/
theorem SimF.upd {B : Base} {E : Env} {H : Hp} {a : Act} {w w' : World} {F : Fz} {Ds : List Nat} (h : SimF B E H a w F Ds) (k : Nat) (x : HA)
    (hs : w.heap.size ≤ w'.heap.size) (hos : w'.os = w.os) (htp : w'.tape = w.tape) (hout : w'.output = w.output)
    (hb : ∀ b, b < w.heap.size → ¬ (lkH k H).foot b → w'.heap[b]? = w.heap[b]?)
    (hf : ∀ b, x.foot b → ((lkH k H).foot b ∨ w.heap.size ≤ b) ∧ b < w'.heap.size) (hx : x.p w' F) : SimF B E ((k, x) :: H) a w' F Ds :=
  have hFw : ∀ b, F b → w'.heap[b]? = w.heap[b]? := fun b hb' => hb b (h.Fb b hb').1 (fun hk => h.hF k b hk hb')
  { sz := h.sz
    env := fun t => (lk t E).st (fun _ hb => hb) hFw (h.env t)
    hp := fun j => by
      by_cases e : k = j
      · subst e; rw [lkH_same]; exact hx
      · rw [lkH_other _ _ e]
        exact (lkH j H).st (fun _ hb => hb) (fun b hb' => hb'.elim (hFw b) (fun hj => hb b (h.hN j b hj).1 (h.hd j k b (Ne.symm e) hj))) (h.hp j)
    hF := fun j b hj hFb => by
      by_cases e : k = j
      · subst e; rw [lkH_same] at hj
        rcases (hf b hj).1 with h1 | h1
        · exact h.hF k b h1 hFb
        · exact absurd (h.Fb b hFb).1 (by omega)
      · rw [lkH_other _ _ e] at hj; exact h.hF j b hj hFb
    hd := fun i j b hij hi hj => by
      by_cases e : k = i
      · subst e; rw [lkH_same] at hi; rw [lkH_other _ _ hij] at hj
        rcases (hf b hi).1 with h1 | h1
        · exact h.hd k j b hij h1 hj
        · exact absurd (h.hN j b hj).1 (by omega)
      · rw [lkH_other _ _ e] at hi
        by_cases e' : k = j
        · subst e'; rw [lkH_same] at hj
          rcases (hf b hj).1 with h1 | h1
          · exact h.hd i k b hij hi h1
          · exact absurd (h.hN i b hi).1 (by omega)
        · rw [lkH_other _ _ e'] at hj; exact h.hd i j b hij hi hj
    hN := fun j b hj => by
      by_cases e : k = j
      · subst e; rw [lkH_same] at hj
        obtain ⟨h1, h2⟩ := hf b hj
        exact ⟨h2, h1.elim (fun h3 => (h.hN k b h3).2) (fun h3 => .inl (Nat.le_trans h.Ns h3))⟩
      · rw [lkH_other _ _ e] at hj
        exact ⟨Nat.lt_of_lt_of_le (h.hN j b hj).1 hs, (h.hN j b hj).2⟩
    Fb := fun b hb' => ⟨Nat.lt_of_lt_of_le (h.Fb b hb').1 hs, (h.Fb b hb').2⟩
    F0 := h.F0
    Ns := Nat.le_trans h.Ns hs
    fr := fun b hbN hM => by
      rw [hb b (Nat.lt_of_lt_of_le hbN h.Ns) (fun hk => (h.hN k b hk).2.elim (fun h1 => by omega) hM)]
      exact h.fr b hbN hM
    os := hos.trans h.os
    tp := htp.trans h.tp
    out := hout.trans h.out
    df := h.df
    dn := h.dn
    dD := fun D hD => by
      obtain ⟨h1, h2, h3, h4⟩ := h.dD D hD
      have hlt : D < w.heap.size := (Array.getElem?_eq_some_iff.1 h1).1
      refine ⟨(hb D hlt (h4 k)).trans h1, h2, h3, fun j hj => ?_⟩
      by_cases e : k = j
      · subst e; rw [lkH_same] at hj
        rcases (hf D hj).1 with h5 | h5
        · exact h4 k h5
        · omega
      · rw [lkH_other _ _ e] at hj; exact h4 j hj }

/-- The heap grown, the new blocks frozen as far as G says. -/
theorem SimF.grow {B : Base} {E : Env} {H : Hp} {a : Act} {w w' : World} {F F' : Fz} {Ds : List Nat} (h : SimF B E H a w F Ds)
    (hs : w.heap.size ≤ w'.heap.size) (hos : w'.os = w.os) (htp : w'.tape = w.tape) (hout : w'.output = w.output)
    (hb : ∀ b, b < w.heap.size → w'.heap[b]? = w.heap[b]?) (hF : ∀ b, F b → F' b) (hF' : ∀ b, F' b → F b ∨ (w.heap.size ≤ b ∧ b < w'.heap.size)) : SimF B E H a w' F' Ds :=
  have hFw : ∀ b, F b → w'.heap[b]? = w.heap[b]? := fun b hb' => hb b (h.Fb b hb').1
  { sz := h.sz
    env := fun t => (lk t E).st hF hFw (h.env t)
    hp := fun j => (lkH j H).st hF (fun b hb' => hb'.elim (hFw b) (fun hj => hb b (h.hN j b hj).1)) (h.hp j)
    hF := fun j b hj hFb => (hF' b hFb).elim (h.hF j b hj) (fun h1 => absurd (h.hN j b hj).1 (by omega))
    hd := h.hd
    hN := fun j b hj => ⟨Nat.lt_of_lt_of_le (h.hN j b hj).1 hs, (h.hN j b hj).2⟩
    Fb := fun b hb' => (hF' b hb').elim (fun h1 => ⟨Nat.lt_of_lt_of_le (h.Fb b h1).1 hs, (h.Fb b h1).2⟩) (fun h1 => ⟨h1.2, .inr (.inl (Nat.le_trans h.Ns h1.1))⟩)
    F0 := fun b hb' => hF b (h.F0 b hb')
    Ns := Nat.le_trans h.Ns hs
    fr := fun b hbN hM => by rw [hb b (Nat.lt_of_lt_of_le hbN h.Ns)]; exact h.fr b hbN hM
    os := hos.trans h.os
    tp := htp.trans h.tp
    out := hout.trans h.out
    df := h.df
    dn := h.dn
    dD := fun D hD => by
      obtain ⟨h1, h2, h3, h4⟩ := h.dD D hD
      have hlt : D < w.heap.size := (Array.getElem?_eq_some_iff.1 h1).1
      exact ⟨(hb D hlt).trans h1, fun hFD => (hF' D hFD).elim h2 (fun h5 => by omega), h3, h4⟩ }

theorem heap_alloc (w : World) (o : Obj) {b : Nat} (hb : b < w.heap.size) : (w.alloc o).heap[b]? = w.heap[b]? := by
  show (w.heap.push o)[b]? = _
  rw [Array.getElem?_push]; simp [Nat.ne_of_lt hb]
theorem heap_new (w : World) (o : Obj) : (w.alloc o).heap[w.heap.size]? = some o := by
  show (w.heap.push o)[w.heap.size]? = some o
  rw [Array.getElem?_push]; simp

/-- A new block. -/
theorem SimF.alloc {B : Base} {E : Env} {H : Hp} {a : Act} {w : World} {F : Fz} {Ds : List Nat} (h : SimF B E H a w F Ds) (k : Nat) (x : HA) (o : Obj)
    (hf : ∀ b, x.foot b → b = w.heap.size) (hx : x.p (w.alloc o) F) : SimF B E ((k, x) :: H) a (w.alloc o) F Ds :=
  h.upd (w' := w.alloc o) k x (by simp) rfl rfl rfl (fun b hb _ => heap_alloc w o hb) (fun b hb => by have := hf b hb; subst this; exact ⟨.inr (Nat.le_refl _), by simp⟩) hx
theorem SimF.stay {B : Base} {E : Env} {H : Hp} {a : Act} {w : World} {F : Fz} {Ds : List Nat} (h : SimF B E H a w F Ds) (o : Obj) {φ : AV} {v : Value} (hv : φ.p w F v) : φ.p (w.alloc o) F v :=
  φ.st (fun _ h => h) (fun b hb => heap_alloc w o (h.Fb b hb).1) hv
theorem SimF.stays {B : Base} {E : Env} {H : Hp} {a : Act} {w : World} {F : Fz} {Ds : List Nat} (h : SimF B E H a w F Ds) (o : Obj) {cs : List AV} {vs : List Value} (hv : All2 w F cs vs) : All2 (w.alloc o) F cs vs :=
  hv.st (fun _ h => h) (fun b hb => heap_alloc w o (h.Fb b hb).1)

theorem Sim.drew {B : Base} {E : Env} {H : Hp} {a : Act} {w : World} (h : Sim B E H a w) (n : Nat) : Sim B E H a { w with drawn := n } := by
  obtain ⟨F, Ds, h⟩ := h
  exact ⟨F, Ds, h.grow (w' := { w with drawn := n }) (Nat.le_refl _) rfl rfl rfl (fun _ _ => rfl) (fun _ h => h) (fun _ h => .inl h)⟩

/-! ### Less knowledge -/
def Sub : Env → Env → Prop
  | [], _ => True
  | (t, φ) :: r, E => (∀ {w F v}, (lk t E).p w F v → φ.p w F v) ∧ Sub r E
theorem Sub.lk {E : Env} : ∀ {E' : Env}, Sub E' E → ∀ (t : Nat) {w : World} {F : Fz} {v : Value}, (lk t E).p w F v → (AL.lk t E').p w F v
  | [], _, _, _, _, _, _ => trivial
  | (s, φ) :: r, h, t, w, F, v, hv => by
    by_cases e : s = t
    · subst e; rw [lk_same]; exact h.1 hv
    · rw [lk_other _ _ e]; exact Sub.lk h.2 t hv
def SubH : Hp → Hp → Prop
  | [], _ => True
  | (t, φ) :: r, E => ((lkH t E).foot = φ.foot ∧ ∀ {w F}, (lkH t E).p w F → φ.p w F) ∧ SubH r E
theorem SubH.lk {E : Hp} : ∀ {E' : Hp}, SubH E' E → ∀ (t : Nat), (∀ b, (lkH t E').foot b → (lkH t E).foot b) ∧ ∀ {w : World} {F : Fz}, (lkH t E).p w F → (lkH t E').p w F
  | [], _, _ => ⟨fun _ h => h.elim, fun _ => trivial⟩
  | (s, φ) :: r, h, t => by
    by_cases e : s = t
    · subst e; rw [lkH_same]; exact ⟨fun b hb => h.1.1 ▸ hb, h.1.2⟩
    · rw [lkH_other _ _ e]; exact SubH.lk h.2 t
theorem SubH.mono {E : Hp} {x : Nat × HA} : ∀ {E' : Hp}, SubH E' E → (∀ y ∈ E', y.1 ≠ x.1) → SubH E' (x :: E)
  | [], _, _ => trivial
  | (t, φ) :: r, h, hne => by
    refine ⟨?_, SubH.mono h.2 (fun y hy => hne y (List.mem_cons_of_mem _ hy))⟩
    have : x.1 ≠ t := (hne (t, φ) (by simp)).symm
    rw [show lkH t (x :: E) = lkH t E from lkH_other x.2 E this]
    exact h.1
theorem Sub.mk {E' E : Env} (h : ∀ (t : Nat) (φ : AV), (t, φ) ∈ E' → ∀ {w F v}, (AL.lk t E).p w F v → φ.p w F v) : Sub E' E := by
  induction E' with
  | nil => trivial
  | cons x r ih => exact ⟨h x.1 x.2 (by simp), ih (fun t φ ht => h t φ (List.mem_cons_of_mem _ ht))⟩
/-- Less is known of the heap in H'. -/
def LessH (H' H : Hp) : Prop := ∀ (t : Nat), (∀ b, (lkH t H').foot b → (lkH t H).foot b) ∧ ∀ {w : World} {F : Fz}, (lkH t H).p w F → (lkH t H').p w F
theorem SubH.less {H' H : Hp} (h : SubH H' H) : LessH H' H := fun t => ⟨(h.lk t).1, (h.lk t).2⟩
theorem subH_refl (H : Hp) : LessH H H := fun _ => ⟨fun _ h => h, fun h => h⟩
theorem Sim.less {B : Base} {E E' : Env} {H H' : Hp} {a : Act} {w : World} (h : Sim B E H a w) (hE : ∀ t, ∀ {w F v}, (lk t E).p w F v → (lk t E').p w F v) (hH : LessH H' H) : Sim B E' H' a w := by
  obtain ⟨F, Ds, h⟩ := h
  refine ⟨F, Ds, { h with
    env := fun t => hE t (h.env t)
    hp := fun k => (hH k).2 (h.hp k)
    hF := fun k b hb => h.hF k b ((hH k).1 b hb)
    hd := fun k k' b e hb hb' => h.hd k k' b e ((hH k).1 b hb) ((hH k').1 b hb')
    hN := fun k b hb => h.hN k b ((hH k).1 b hb)
    dD := fun D hD => ?_ }⟩
  obtain ⟨h1, h2, h3, h4⟩ := h.dD D hD
  exact ⟨h1, h2, h3, fun k hk => h4 k ((hH k).1 D hk)⟩
theorem Sim.weak {B : Base} {E E' : Env} {H H' : Hp} {a : Act} {w : World} (h : Sim B E H a w) (hE : Sub E' E) (hH : SubH H' H) : Sim B E' H' a w :=
  h.less (fun t => hE.lk t) hH.less
attribute [irreducible] any eqv agg tup fp ptr sl exi andp above emp cell own obj
end AL
