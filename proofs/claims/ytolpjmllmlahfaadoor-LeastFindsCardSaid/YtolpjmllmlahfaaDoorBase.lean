/- The plain values of this program. -/
import Derived.Test.YtolpjmllmlahfaaDoorProg
import Derived.Test.YtolpjmllmlahfaaDoorALDraw2
namespace Go.Proofs.YtolpjmllmlahfaaDoor
open AL Go
def intE : Int → List AV := fun x => [int x]
abbrev ints (xs : List Int) : AV := sl 1 intE xs
def blE : Bool → List AV := fun x => [bl x]
abbrev bls (xs : List Bool) : AV := sl 1 blE xs
def strE : ByteArray → List AV := fun x => [str x]
abbrev strs (xs : List ByteArray) : AV := sl 1 strE xs
@[ext] structure SState where
  accept : List Int
  next : List Int
deriving Inhabited, DecidableEq
@[ext] structure SSpec where
  actions : List ByteArray
  states : List SState
deriving Inhabited, DecidableEq
def stateE : SState → List AV := fun x => [ints x.accept, ints x.next]
abbrev state (x : SState) : AV := agg [ints x.accept, ints x.next]
abbrev spec (s : SSpec) : AV := agg [strs s.actions, sl 2 stateE s.states]
instance (x : Int) : OneAll (intE x) := inferInstanceAs (OneAll [int x])
instance (x : Bool) : OneAll (blE x) := inferInstanceAs (OneAll [bl x])
instance (x : ByteArray) : OneAll (strE x) := inferInstanceAs (OneAll [str x])
instance (x : SState) : OneAll (stateE x) := inferInstanceAs (OneAll [ints x.accept, ints x.next])
theorem spec_lens {s : SSpec} (h : Inh (spec s)) : s.actions.length ≤ 140737488355328 ∧ s.states.length ≤ 140737488355328 ∧ ∀ k, k < s.states.length → (ix s.states k).accept.length ≤ 140737488355328 ∧ (ix s.states k).next.length ≤ 140737488355328 :=
  ⟨(h.agg 0 rfl).len, (h.agg 1 rfl).len, fun k hk => ⟨((h.agg 1 rfl).el (gK hk) 0 rfl).len, ((h.agg 1 rfl).el (gK hk) 1 rfl).len⟩⟩
theorem state_lens {x : SState} (h : Inh (state x)) : x.accept.length ≤ 140737488355328 ∧ x.next.length ≤ 140737488355328 :=
  ⟨(h.agg 0 rfl).len, (h.agg 1 rfl).len⟩
theorem take_s {α : Type} [Inhabited α] {xs : List α} {k : Nat} (h : k < xs.length) : xs.take (k + 1) = xs.take k ++ [ix xs k] := by
  rw [List.take_succ_eq_append_getElem h, ix_get h]
end Go.Proofs.YtolpjmllmlahfaaDoor
