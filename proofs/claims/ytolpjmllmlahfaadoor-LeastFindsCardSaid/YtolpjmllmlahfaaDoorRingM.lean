/- The chapter's example, reckoned: plain Lean. -/
import Derived.Test.YtolpjmllmlahfaaDoorMergeM
namespace Go.Proofs.YtolpjmllmlahfaaDoor
open AL ref01 ref03 ref04 ref06 Part Rungs LeftM TrimM Itoa Keys RoundM MergeM
namespace RingM
def ringS : SSpec := ⟨[⟨#[97]⟩], [⟨[1], [1]⟩, ⟨[1], [0]⟩]⟩
def ringT : SSpec := ⟨[⟨#[97]⟩], [⟨[1], [0]⟩]⟩
theorem ring_is : specOK ringS = true := by decide
theorem ring_ok : okSpec ringS := okSpec_of ring_is
theorem ring_hol (x : Nat) (hx : x < 2) : ix (hollow ringS) x = false := by
  cases hv : ix (hollow ringS) x with
  | false => rfl
  | true =>
    exfalso
    have h := (hollow_ix (s := ringS) hx).1 hv
    refine h (fun _ => False) (fun y hy hc => ?_)
    have hy : y < 2 := hy
    have hl : 0 < (ix ringS.states y).accept.length := by
      rcases (show y = 0 ∨ y = 1 by omega) with rfl | rfl <;> decide
    obtain ⟨_, _, _, _, h⟩ := hc 0 hl
    exact h
theorem ring_hollow : hollow ringS = [false, false] := by
  have hl := hollow_len ringS
  have hl : (hollow ringS).length = 2 := hl
  apply List.ext_getElem?
  intro i
  by_cases hi : i < 2
  · rw [List.getElem?_eq_getElem (by omega), ← ix_get (by omega), ring_hol i hi]
    rcases (show i = 0 ∨ i = 1 by omega) with rfl | rfl <;> rfl
  · rw [List.getElem?_eq_none (by omega), List.getElem?_eq_none (by simp; omega)]
theorem ring_keep0 : keep ringS 0 = [1] := by
  unfold keep; rw [ring_hollow]; decide
theorem ring_keep1 : keep ringS 1 = [1] := by
  unfold keep; rw [ring_hollow]; decide
theorem ring_solid : solid ringS = ringS := by
  have h0 : solidState ringS 0 = ⟨[1], [1]⟩ := by unfold solidState; rw [ring_keep0]; decide
  have h1 : solidState ringS 1 = ⟨[1], [0]⟩ := by unfold solidState; rw [ring_keep1]; decide
  have : (solid ringS).states = [solidState ringS 0, solidState ringS 1] := rfl
  apply SSpec.ext
  · rfl
  · rw [this, h0, h1]; rfl
theorem ring_it1 : itR ringS 1 = ([0, 0], 1) := by
  show ((numBy (alike (solid ringS) (itR ringS 0).1) ringS.states.length).1, (numBy (alike (solid ringS) (itR ringS 0).1) ringS.states.length).2.length) = _
  rw [ring_solid]; decide
theorem ring_it2 : itR ringS 2 = ([0, 0], 1) := by
  show ((numBy (alike (solid ringS) (itR ringS 1).1) ringS.states.length).1, (numBy (alike (solid ringS) (itR ringS 1).1) ringS.states.length).2.length) = _
  rw [ring_solid, ring_it1]; decide
theorem ring_it3 : itR ringS 3 = ([0, 0], 1) := by
  show ((numBy (alike (solid ringS) (itR ringS 2).1) ringS.states.length).1, (numBy (alike (solid ringS) (itR ringS 2).1) ringS.states.length).2.length) = _
  rw [ring_solid, ring_it2]; decide
theorem ring_classes : classesR ringS = [0, 0] := by
  show (itR ringS 3).1 = _
  rw [ring_it3]
theorem ring_least : leastR ringS = (ringT, [0, 0]) := by
  unfold leastR
  rw [if_neg (by rw [ring_hol 0 (by omega)]; simp), ring_solid, ring_classes]
  decide
theorem ring_small (k : Nat) (hk : k < ringS.states.length) (i : Nat) (hi : i < (ix ringS.states k).accept.length) : ix (ix ringS.states k).accept i < 2 ^ 63 := by
  have hk : k < 2 := hk
  rcases (show k = 0 ∨ k = 1 by omega) with rfl | rfl
  · have hi : i < 1 := hi
    have : i = 0 := by omega
    subst this; decide
  · have hi : i < 1 := hi
    have : i = 0 := by omega
    subst this; decide
end RingM
end Go.Proofs.YtolpjmllmlahfaaDoor
