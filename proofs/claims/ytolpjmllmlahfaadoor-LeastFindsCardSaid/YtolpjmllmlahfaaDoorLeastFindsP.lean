/- For any specification, Classes, Least and Is return what the reference returns: LeastFinds is true at every input, and its argument reads afterwards as before. Conditions: the three listed tables of the library lie as the program's text lays them (the card ties this). -/
import Derived.Test.YtolpjmllmlahfaaDoorLawOpen
import Derived.Test.YtolpjmllmlahfaaDoorTie
import Derived.Test.YtolpjmllmlahfaaDoorCards
namespace Go.Proofs.YtolpjmllmlahfaaDoor
open AL Go ref01 ref03 ref04 ref06 prog prog2 Itoa LawOpen
open Go.ChangeShapes Go.WideShapes Go.ChangeAt Go.WideElems Go.RowKit
set_option maxRecDepth 100000
set_option linter.all false
theorem door_met (os : Os) (args : Array Value) : laidMetH Tryd.prog laid3 ((World.doorLaid Tryd.prog 400 os).forCall (fun _ _ => 0) ⟨#[], args, []⟩).memory :=
  laidMetH_of_parts3 (fuel := 8) (laidMet_of_run' 8 (by kernel_rfl) (by kernel_rfl)) (by kernel_rfl) (by kernel_rfl)
attribute [local semireducible] eqv in
theorem leastFinds_lifted (os : Os) (started : os.Started) (H : Type) (enc : TypeId × Value → H) :
    ReturnsInHanded {} Tryd.checked os 3 .any (fun w args => (Rows.leastFindsSpec.pre enc Tryd.prog Tryd.f3 [] false w args ∧ laidMetH Tryd.prog laid3 w) ∧ sizedMet enc Tryd.prog Tryd.f3 (OpenSpec.ofChange Rows.leastFindsSpec) false w args)
      (Rows.leastFindsSpec.post enc Tryd.prog Tryd.f3 false true false false) := by
  refine returnsInHanded_of_change_and (C := Tryd.checked) (X := fun w _ => laidMetH Tryd.prog laid3 w) (fun _ _ _ hh h => h.of_heap hh) own started (by kernel_rfl) Tryd.func3
    (ChangeSpec.witness_shaped (enc := enc) (C := Tryd.checked) (os := os) (X := fun w _ => laidMetH Tryd.prog laid3 w) false (World.doorLaid Tryd.prog 400 os) #[.agg #[.slice none 0 0, .slice none 0 0]] 8 rfl (World.shaped_of_RefB (by kernel_rfl) (by kernel_rfl)) (by kernel_rfl) (by kernel_rfl) (by kernel_rfl) (door_met os _)) ?_
  intro W base args ds gs before hval0 hW _ hsz hL _
  have hval : ∀ (j : Nat) t v, Tryd.f3.params[j]? = some t → args[j]? = some v → Value.okWide Tryd.prog W .any base t v := hval0
  have hW' := hW
  obtain ⟨p, q, hA0, hV, rfl, hfz, hnd⟩ := hW
  have hA : DataW.TrodAll enc Tryd.prog W 0 (fun _ => true) true Tryd.f3.params.toList args.toList ds p := hA0
  have hp3 : Tryd.f3.params = #[25] := Tryd.params3
  rw [hp3] at hA hval
  obtain ⟨v0, d0, ha, rfl, h0⟩ := trodAll_one hA
  have hargs : args = #[v0] := by simpa using ha
  subst hargs
  obtain ⟨rfl, rfl⟩ := trodVars_none hV
  have hz : ∀ k ∈ d0.weights Tryd.prog 25, k ≤ reachBytes := fun k hk => by
    have := List.all_eq_true.1 hsz k (DataW.weights_mem_each (j := 0) (t := 25) (d := d0) (by rw [hp3]; rfl) rfl k hk)
    simpa using this
  obtain ⟨s, hs, hsm⟩ := open_specA (hval 0 25 v0 rfl rfl) h0 hz
  refine (prog14.LeastFinds_ok s hsm W (allF W) [v0] ⟨⟨hs, tab_of_laid hL _⟩, trivial⟩ (fun b hb => hb) (hpOk_nil _ _)).mono fun e W' hq => ?_
  obtain ⟨_, v, F', he, hl⟩ := hq
  have hv : v = .bool true := hl.res
  subst hv
  exact ⟨_, he, law_post laidOut (by rw [hp3]) (show Tryd.f3.resultTypes = #[4] by kernel_rfl) Tryd.underlying4 (by kernel_rfl) rfl rfl hW' (left_below hl)⟩
theorem leastFinds_holds : Rows.LeastFindsSaid :=
  OpenClaim.holds_of_wide 3 Tryd.f3 rfl rfl rfl rfl rfl rfl rfl ⟨rfl, rfl, rfl, rfl, rfl⟩ rfl rfl rfl rfl rfl (by kernel_rfl) Tryd.func3 (by kernel_rfl)
    (of_decide_eq_true (by kernel_rfl)) (by unfold Func.isWrapper; first | (rw [if_pos (by decide +kernel)]; kernel_rfl) | (rw [if_neg (by decide +kernel)]; exact ⟨rfl, rfl⟩))
    (fun os started H enc _ => leastFinds_lifted os started H enc)
theorem leastFinds_card : Rows.LeastFindsCardSaid :=
  Claim7.holds_tied_plain_at .later [] [.data, .data, .data] true (true, "67ba1485ad798b89e448a1fe7d81af26fccf6589e6ce5c7ba304a4795016c9e5") false
    leastFinds_holds (fun _ h => by cases h) (by kernel_rfl) (fun _ h => by cases h) leastFinds_row_tie rfl ⟨rfl, rfl⟩ (by kernel_rfl) rfl
    (fun f fn hf hfn => by
      obtain rfl : f = 3 := Option.some.inj ((show Tryd.prog.funcNamed "makeweight/makeweightlaw06.LeastFinds" = some 3 by kernel_rfl).symm.trans hf) |>.symm
      obtain rfl : fn = Tryd.f3 := (Option.some.inj (Tryd.func3.symm.trans hfn)).symm
      exact ⟨by kernel_rfl, fun j t ht => by
        rw [Tryd.params3] at ht
        have hm : t ∈ [25] := by simpa using Array.mem_of_getElem? ht
        have hall : ([25].all fun u => !Tryd.prog.wantsStandIn u) = true := by kernel_rfl
        exact (show Tryd.prog.wantsStandIn t = false by simpa using List.all_eq_true.1 hall t hm)⟩)
    (by kernel_rfl)
#print axioms leastFinds_card
end Go.Proofs.YtolpjmllmlahfaaDoor
