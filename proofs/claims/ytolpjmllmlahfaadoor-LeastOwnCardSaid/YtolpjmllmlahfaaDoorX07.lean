/- The walks of the functions and the plain laws. Own texts of this claim, packed: prog14. -/
import Derived.Test.YtolpjmllmlahfaaDoorX06
set_option linter.all false


namespace Go.Proofs.YtolpjmllmlahfaaDoor
open AL Go
set_option maxRecDepth 100000
set_option linter.all false

open ref01 ref03 ref04 ref06 prog prog2 prog3 prog4 prog5 prog6 prog7 prog8 prog9 prog10 prog11 prog12 prog13 Part Rungs LeftM TrimM Itoa Keys RoundM MergeM RingM
def lightS (s : SSpec) : Bool := decide ((s.states.length : Int) ≤ 40) && few s 1000
theorem light_size {s : SSpec} (h : lightS s = true) : size s ≤ 1000 := by
  unfold lightS few at h
  simp only [Bool.and_eq_true, decide_eq_true_eq] at h
  omega
theorem awake_val : (((((((decide (errOf ringS = 0) && decide (((lstOf ringS).1.states.length : Int) = 1)) && decide ((lstOf ringS).2 = [0, 0])) && decide (errOf ringS = 0)) && decide (clsOf ringS = [0, 0])) && decide (errOf ringS = 0)) && !isOf ringS)) = true := by
  have h := ring_is
  unfold errOf lstOf clsOf isOf
  rw [if_pos h, if_pos h, if_pos h, ring_least, ring_classes]
  decide
theorem finds_yes {s : SSpec} (h : specOK s = true) : errOf s = 0 ∧ clsOf s = classesR s ∧ lstOf s = leastR s ∧ isOf s = decide (s = (leastR s).1) := by
  unfold errOf clsOf lstOf isOf
  rw [if_pos h, if_pos h, if_pos h, h]
  exact ⟨rfl, rfl, rfl, by simp⟩
theorem finds_no {s : SSpec} (h : specOK s = false) : errOf s = 30 ∧ clsOf s = [] ∧ lstOf s = (⟨[], []⟩, []) ∧ isOf s = false := by
  unfold errOf clsOf lstOf isOf
  rw [if_neg (by simp [h]), if_neg (by simp [h]), if_neg (by simp [h]), h]
  exact ⟨rfl, rfl, rfl, rfl⟩

namespace prog14
namespace T
theorem map164 : MapT Tryd.prog 164 9 3 smE smD := mapT_str (by kernel_rfl) (by kernel_rfl)
theorem zv3 : ∀ w F, ∃ u, (zeroValue 3).run Tryd.prog w = .ok u w ∧ (int 0).p w F u := zeroV_of (v := .int .i64 0) (by kernel_rfl) _ (fun _ _ => eqv_rfl)
theorem ent119 : Ent Tryd.prog 119 := ent_of (by kernel_rfl)
theorem ent92 : Ent Tryd.prog 92 := ent_of (by kernel_rfl)
theorem ent94 : Ent Tryd.prog 94 := ent_of (by kernel_rfl)
theorem fld25_1 : FieldAt Tryd.prog 25 1 1 := fieldAt_of (by kernel_rfl)
theorem one23 : IsOne Tryd.prog 23 := isOne_of (by kernel_rfl)
theorem sl23 : IsSlice Tryd.prog 23 69 2 := isSlice_of (by kernel_rfl)
theorem agg25 : IsAgg Tryd.prog 25 2 := isAgg_of (by kernel_rfl)
theorem ent30 : Ent Tryd.prog 30 := ent_of (by kernel_rfl)
theorem z25 : ZeroIs Tryd.prog 25 [.slice none 0 0, .slice none 0 0] := zeroIs_of (by kernel_rfl)
theorem mk22 : MakeT Tryd.prog 22 9 1 16 [.string ⟨#[]⟩] := makeT_of (by kernel_rfl) (by kernel_rfl)
theorem mk28 : MakeT Tryd.prog 28 3 1 8 [.int .i64 0] := makeT_of (by kernel_rfl) (by kernel_rfl)
theorem st69 : StructT Tryd.prog 69 [(0, 1), (1, 1)] [.slice none 0 0, .slice none 0 0] := structT_of (by kernel_rfl) (by kernel_rfl)
theorem mk23 : MakeT Tryd.prog 23 69 2 48 [.slice none 0 0, .slice none 0 0] := makeT_of (by kernel_rfl) (by kernel_rfl)
theorem st25 : StructT Tryd.prog 25 [(0, 1), (1, 1)] [.slice none 0 0, .slice none 0 0] := structT_of (by kernel_rfl) (by kernel_rfl)
theorem ent31 : Ent Tryd.prog 31 := ent_of (by kernel_rfl)
theorem ent15 : Ent Tryd.prog 15 := ent_of (by kernel_rfl)
theorem ent13 : Ent Tryd.prog 13 := ent_of (by kernel_rfl)
theorem ent16 : Ent Tryd.prog 16 := ent_of (by kernel_rfl)
theorem ent18 : Ent Tryd.prog 18 := ent_of (by kernel_rfl)
theorem ent8 : Ent Tryd.prog 8 := ent_of (by kernel_rfl)
theorem ent9 : Ent Tryd.prog 9 := ent_of (by kernel_rfl)
theorem ent10 : Ent Tryd.prog 10 := ent_of (by kernel_rfl)
theorem ent11 : Ent Tryd.prog 11 := ent_of (by kernel_rfl)
theorem ent12 : Ent Tryd.prog 12 := ent_of (by kernel_rfl)
theorem ent14 : Ent Tryd.prog 14 := ent_of (by kernel_rfl)
theorem ent19 : Ent Tryd.prog 19 := ent_of (by kernel_rfl)
theorem bool4 : Tryd.prog.underlying 4 = some .bool := by kernel_rfl
theorem sl28 : IsSlice Tryd.prog 28 3 1 := isSlice_of (by kernel_rfl)
theorem ent17 : Ent Tryd.prog 17 := ent_of (by kernel_rfl)
end T

theorem light_ok (s : SSpec) :
    Fn0 Tryd.prog 8 [spec s] (bl (lightS s)) := by
  refine fnI Tryd.func8 rfl rfl (fun w0 F0 => ?_)
  refine fcC (inhS 0 rfl) (fun hS0 => ?_)
  obtain ⟨hsa0, hss0, hse0⟩ := spec_lens hS0
  refine sq (rg (bx (key := 1) (cs := [sl 1 strE s.actions, sl 2 stateE s.states]) rfl fun b1 => (ag (nl (th (sq (rg (fP rfl T.fld25_1 (lP rfl rfl rfl T.one23 (fc (slenI 4 rfl) fun hm4 => (lnF rfl T.sl23 (bi rfl rfl b_leq (mv ?_)))))))))))))
  apply gAnd (t := 7) (pd := 10) rfl
  rotate_left
  · intro hg0 fin
    have hg0' := hg0
    try simp at hg0'
    exact gy rfl rfl rfl hg0 (lPA rfl rfl T.agg25 rfl (gy rfl rfl rfl hg0 (cal0 (φs := [agg [sl 1 strE s.actions, sl 2 stateE s.states], int 1000]) (φ := bl (few s 1000)) ⟨rfl, rfl, trivial⟩ (ref03.Few_ok s _ (by omega)) T.ent30 (pkT rfl hg0 rfl (drp (X := [(9, _), (8, _)]) ⟨rfl, rfl, trivial⟩ (fin))))))
  · intro hg0 fin
    exact gn rfl rfl rfl hg0 rfl rfl (gn rfl rfl rfl hg0 rfl rfl (pkF rfl hg0 rfl (drp (X := [(9, _), (8, _)]) ⟨rfl, rfl, trivial⟩ (fin))))
  refine ag (nl (th (rt ?_)))
  have hr0 : ((decide ((s.states.length : Int) ≤ 40)) && (few s 1000)) = (lightS s) := by
    rfl
  have hall : ∀ x0, ((decide ((s.states.length : Int) ≤ 40)) && (few s 1000)) = x0 → resAV [bl ((decide ((s.states.length : Int) ≤ 40)) && (few s 1000))] = resAV [bl x0] := by rintro _ rfl; rfl
  exact rE () [.tmp 2] rfl [bl ((decide ((s.states.length : Int) ≤ 40)) && (few s 1000))] ⟨.tmp rfl, trivial⟩ (hall _ hr0) trivial (by first | exact .inr rfl | exact .inl rfl)

theorem ring_ok  :
    Fn0 Tryd.prog 31 [] (spec ringS) := by
  refine fnI Tryd.func31 rfl rfl (fun w0 F0 => ?_)
  refine sq (rg (al (key := 0) T.z25 (ex_cons (ex_cons (ex_nil))) fun b0 => (nl (th (sq (rg (bsE (enc := strE) (xs := [({ data := #[97] })]) (css := [[str ({ data := #[97] })]]) T.mk22 ⟨rfl, rfl, p1 (φ := str ({ data := #[97] })) rfl, trivial⟩ rfl rfl rfl rfl (bsE (enc := intE) (xs := [1]) (css := [[int 1]]) T.mk28 ⟨rfl, rfl, p1 (φ := int 1) rfl, trivial⟩ rfl rfl rfl rfl (bsE (enc := intE) (xs := [1]) (css := [[int 1]]) T.mk28 ⟨rfl, rfl, p1 (φ := int 1) rfl, trivial⟩ rfl rfl rfl rfl (bd (css := [(0, _), (1, _)]) T.st69 (ex_cons (ex_cons (ex_nil))) ⟨rfl, rfl, p1 (φ := sl 1 intE [1]) rfl, ⟨rfl, rfl, p1 (φ := sl 1 intE [1]) rfl, trivial⟩⟩ (bsE (enc := intE) (xs := [1]) (css := [[int 1]]) T.mk28 ⟨rfl, rfl, p1 (φ := int 1) rfl, trivial⟩ rfl rfl rfl rfl (bsE (enc := intE) (xs := [0]) (css := [[int 0]]) T.mk28 ⟨rfl, rfl, p1 (φ := int 0) rfl, trivial⟩ rfl rfl rfl rfl (bd (css := [(0, _), (1, _)]) T.st69 (ex_cons (ex_cons (ex_nil))) ⟨rfl, rfl, p1 (φ := sl 1 intE [1]) rfl, ⟨rfl, rfl, p1 (φ := sl 1 intE [0]) rfl, trivial⟩⟩ (bsE (enc := stateE) (xs := [(⟨[1], [1]⟩), (⟨[1], [0]⟩)]) (css := [[sl 1 intE [1], sl 1 intE [1]], [sl 1 intE [1], sl 1 intE [0]]]) T.mk23 ⟨rfl, rfl, pA (cs := [sl 1 intE [1], sl 1 intE [1]]) rfl, ⟨rfl, rfl, pA (cs := [sl 1 intE [1], sl 1 intE [0]]) rfl, trivial⟩⟩ rfl rfl rfl rfl (bd (css := [(0, _), (1, _)]) T.st25 (ex_cons (ex_cons (ex_nil))) ⟨rfl, rfl, p1 (φ := sl 1 strE [({ data := #[97] })]) rfl, ⟨rfl, rfl, p1 (φ := sl 2 stateE [(⟨[1], [1]⟩), (⟨[1], [0]⟩)]) rfl, trivial⟩⟩ (sPA (cs' := [sl 1 strE [({ data := #[97] })], sl 2 stateE [(⟨[1], [1]⟩), (⟨[1], [0]⟩)]]) rfl rfl rfl T.agg25 rfl rfl (nl (th (rt ?_)))))))))))))))))))
  have hr0 : [({ data := #[97] })] = ringS.actions := by
    first | rfl | simp_all | omega
  have hr1 : [(⟨[1], [1]⟩), (⟨[1], [0]⟩)] = ringS.states := by
    first | rfl | simp_all | omega
  have hall : ∀ x0 x1, [({ data := #[97] })] = x0 → [(⟨[1], [1]⟩), (⟨[1], [0]⟩)] = x1 → resAV [agg [sl 1 strE [({ data := #[97] })], sl 2 stateE [(⟨[1], [1]⟩), (⟨[1], [0]⟩)]]] = resAV [agg [sl 1 strE x0, sl 2 stateE x1]] := by rintro _ _ rfl rfl; rfl
  exact rE () [.cell 0 25] rfl [agg [sl 1 strE [({ data := #[97] })], sl 2 stateE [(⟨[1], [1]⟩), (⟨[1], [0]⟩)]]] ⟨.agg rfl rfl T.agg25 rfl rfl, trivial⟩ (hall _ _ hr0 hr1) trivial (by first | exact .inr rfl | exact .inl rfl)

theorem awake_ok  :
    AL.Fn Tryd.prog 9 [] [(998, ambH tab)] (ι := Unit) (fun _ _ => bl true) (fun _ => []) := by
  refine fnI Tryd.func9 rfl rfl (fun w0 F0 => ?_)
  have hsm : smallSpec ringS := ring_small
  refine tbH 9999 998 rfl ?_
  refine sq (rg (ag (nl (th (sq (rg (cal0 (φs := []) (φ := agg [sl 1 strE ringS.actions, sl 2 stateE ringS.states]) trivial (prog14.ring_ok) T.ent31 (tbU (ψ := tab) 9 9999 rfl rfl (calW (φs := [both (agg [sl 1 strE ringS.actions, sl 2 stateE ringS.states]) tab]) (φ := tup [agg [sl 1 strE (((lstOf ringS).1).actions), sl 2 stateE (((lstOf ringS).1).states)], sl 1 intE ((lstOf ringS).2), int (errOf ringS)]) ⟨rfl, trivial⟩ (prog13.Least_ok ringS (by assumption)) T.ent15 (fun N hN => fun h => tup_le (cs := [agg [fre N (sl 1 strE (((lstOf ringS).1).actions)), fre N (sl 2 stateE (((lstOf ringS).1).states))], fre N (sl 1 intE ((lstOf ringS).2)), int (errOf ringS)]) (ds := [agg [sl 1 strE (((lstOf ringS).1).actions), sl 2 stateE (((lstOf ringS).1).states)], sl 1 intE ((lstOf ringS).2), int (errOf ringS)]) ⟨fun h => agg_le (cs := [fre N (sl 1 strE (((lstOf ringS).1).actions)), fre N (sl 2 stateE (((lstOf ringS).1).states))]) (ds := [sl 1 strE (((lstOf ringS).1).actions), sl 2 stateE (((lstOf ringS).1).states)]) ⟨fun h => nw_le h, fun h => nw_le h, trivial⟩ h, fun h => nw_le h, fun h => h, trivial⟩ h) (mv (xt rfl rfl (xt rfl rfl (xt rfl rfl (al (key := 1) T.z25 (ex_cons (ex_cons (ex_nil))) fun b1 => (sPA (cs' := [sl 1 strE (((lstOf ringS).1).actions), sl 2 stateE (((lstOf ringS).1).states)]) rfl rfl rfl T.agg25 rfl rfl (ag (ag (nl (th (sq (rg (cal0 (φs := []) (φ := agg [sl 1 strE ringS.actions, sl 2 stateE ringS.states]) trivial (prog14.ring_ok) T.ent31 (tbU (ψ := tab) 15 9999 rfl rfl (calW (φs := [both (agg [sl 1 strE ringS.actions, sl 2 stateE ringS.states]) tab]) (φ := tup [sl 1 intE (clsOf ringS), int (errOf ringS)]) ⟨rfl, trivial⟩ (prog13.Classes_ok ringS (by assumption)) T.ent13 (fun N hN => fun h => tup_le (cs := [fre N (sl 1 intE (clsOf ringS)), int (errOf ringS)]) (ds := [sl 1 intE (clsOf ringS), int (errOf ringS)]) ⟨fun h => nw_le h, fun h => h, trivial⟩ h) (mv (xt rfl rfl (xt rfl rfl (ag (ag (nl (th (sq (rg (cal0 (φs := []) (φ := agg [sl 1 strE ringS.actions, sl 2 stateE ringS.states]) trivial (prog14.ring_ok) T.ent31 (tbU (ψ := tab) 20 9999 rfl rfl (cal0 (φs := [both (agg [sl 1 strE ringS.actions, sl 2 stateE ringS.states]) tab]) (φ := tup [bl (isOf ringS), int (errOf ringS)]) ⟨rfl, trivial⟩ (prog13.Is_ok ringS (by assumption)) T.ent16 (mv (xt rfl rfl (xt rfl rfl (ag (ag (nl (th (sq (rg (mv (bi rfl rfl b_eql (mv ?_))))))))))))))))))))))))))))))))))))))))))))))))
  apply gAnd (t := 26) (pd := 31) rfl
  rotate_left
  · intro hg0 fin
    have hg0' := hg0
    try simp at hg0'
    exact gy rfl rfl rfl hg0 (fP rfl T.fld25_1 (gy rfl rfl rfl hg0 (lP rfl rfl rfl T.one23 (gy rfl rfl rfl hg0 (fc (slenI 28 rfl) fun hm28 => (lnF rfl T.sl23 (gy rfl rfl rfl hg0 (bi rfl rfl b_eql (pkT rfl hg0 rfl (drp (X := [(30, _), (29, _), (28, _), (27, _)]) ⟨rfl, rfl, rfl, rfl, trivial⟩ (fin)))))))))))
  · intro hg0 fin
    exact gn rfl rfl rfl hg0 rfl rfl (gn rfl rfl rfl hg0 rfl rfl (gn rfl rfl rfl hg0 rfl rfl (gn rfl rfl rfl hg0 rfl rfl (pkF rfl hg0 rfl (drp (X := [(30, _), (29, _), (28, _), (27, _)]) ⟨rfl, rfl, rfl, rfl, trivial⟩ (fin))))))
  refine mv ?_
  apply gAnd (t := 32) (pd := 36) rfl
  rotate_left
  · intro hg1 fin
    have hg1' := hg1
    try simp at hg1'
    exact gy rfl rfl rfl hg1 (mv (gy rfl rfl rfl hg1 (bsE (enc := intE) (xs := [0, 0]) (css := [[int 0], [int 0]]) T.mk28 ⟨rfl, rfl, p1 (φ := int 0) rfl, ⟨rfl, rfl, p1 (φ := int 0) rfl, trivial⟩⟩ rfl rfl rfl rfl (gy rfl rfl rfl hg1 (cal0 (φs := [sl 1 intE ((lstOf ringS).2), sl 1 intE [0, 0]]) (φ := bl (decide (((lstOf ringS).2) = [0, 0]))) ⟨rfl, rfl, trivial⟩ (ref01.SameInts_ok _ _) T.ent18 (pkT rfl hg1 rfl (drp (X := [(35, _), (34, _), (33, _)]) ⟨rfl, rfl, rfl, trivial⟩ (fin))))))))
  · intro hg1 fin
    exact gn rfl rfl rfl hg1 rfl rfl (gn rfl rfl rfl hg1 rfl rfl (gn rfl rfl rfl hg1 rfl rfl (pkF rfl hg1 rfl (drp (X := [(35, _), (34, _), (33, _)]) ⟨rfl, rfl, rfl, trivial⟩ (fin)))))
  refine mv ?_
  apply gAnd (t := 37) (pd := 40) rfl
  rotate_left
  · intro hg2 fin
    have hg2' := hg2
    try simp at hg2'
    exact gy rfl rfl rfl hg2 (mv (gy rfl rfl rfl hg2 (bi rfl rfl b_eql (pkT rfl hg2 rfl (drp (X := [(39, _), (38, _)]) ⟨rfl, rfl, trivial⟩ (fin))))))
  · intro hg2 fin
    exact gn rfl rfl rfl hg2 rfl rfl (gn rfl rfl rfl hg2 rfl rfl (pkF rfl hg2 rfl (drp (X := [(39, _), (38, _)]) ⟨rfl, rfl, trivial⟩ (fin))))
  refine mv ?_
  apply gAnd (t := 41) (pd := 45) rfl
  rotate_left
  · intro hg3 fin
    have hg3' := hg3
    try simp at hg3'
    exact gy rfl rfl rfl hg3 (mv (gy rfl rfl rfl hg3 (bsE (enc := intE) (xs := [0, 0]) (css := [[int 0], [int 0]]) T.mk28 ⟨rfl, rfl, p1 (φ := int 0) rfl, ⟨rfl, rfl, p1 (φ := int 0) rfl, trivial⟩⟩ rfl rfl rfl rfl (gy rfl rfl rfl hg3 (cal0 (φs := [sl 1 intE (clsOf ringS), sl 1 intE [0, 0]]) (φ := bl (decide ((clsOf ringS) = [0, 0]))) ⟨rfl, rfl, trivial⟩ (ref01.SameInts_ok _ _) T.ent18 (pkT rfl hg3 rfl (drp (X := [(44, _), (43, _), (42, _)]) ⟨rfl, rfl, rfl, trivial⟩ (fin))))))))
  · intro hg3 fin
    exact gn rfl rfl rfl hg3 rfl rfl (gn rfl rfl rfl hg3 rfl rfl (gn rfl rfl rfl hg3 rfl rfl (pkF rfl hg3 rfl (drp (X := [(44, _), (43, _), (42, _)]) ⟨rfl, rfl, rfl, trivial⟩ (fin)))))
  refine mv ?_
  apply gAnd (t := 46) (pd := 49) rfl
  rotate_left
  · intro hg4 fin
    have hg4' := hg4
    try simp at hg4'
    exact gy rfl rfl rfl hg4 (mv (gy rfl rfl rfl hg4 (bi rfl rfl b_eql (pkT rfl hg4 rfl (drp (X := [(48, _), (47, _)]) ⟨rfl, rfl, trivial⟩ (fin))))))
  · intro hg4 fin
    exact gn rfl rfl rfl hg4 rfl rfl (gn rfl rfl rfl hg4 rfl rfl (pkF rfl hg4 rfl (drp (X := [(48, _), (47, _)]) ⟨rfl, rfl, trivial⟩ (fin))))
  refine mv ?_
  apply gAnd (t := 50) (pd := 53) rfl
  rotate_left
  · intro hg5 fin
    have hg5' := hg5
    try simp at hg5'
    exact gy rfl rfl rfl hg5 (mv (gy rfl rfl rfl hg5 (no rfl (pkT rfl hg5 rfl (drp (X := [(52, _), (51, _)]) ⟨rfl, rfl, trivial⟩ (fin))))))
  · intro hg5 fin
    exact gn rfl rfl rfl hg5 rfl rfl (gn rfl rfl rfl hg5 rfl rfl (pkF rfl hg5 rfl (drp (X := [(52, _), (51, _)]) ⟨rfl, rfl, trivial⟩ (fin))))
  refine ag (nl (th (rt ?_)))
  have hr0 : (((((((decide ((errOf ringS) = 0)) && (decide (((((lstOf ringS).1).states).length : Int) = 1))) && (decide (((lstOf ringS).2) = [0, 0]))) && (decide ((errOf ringS) = 0))) && (decide ((clsOf ringS) = [0, 0]))) && (decide ((errOf ringS) = 0))) && (!(isOf ringS))) = true := by
    exact awake_val
  have hall : ∀ x0, (((((((decide ((errOf ringS) = 0)) && (decide (((((lstOf ringS).1).states).length : Int) = 1))) && (decide (((lstOf ringS).2) = [0, 0]))) && (decide ((errOf ringS) = 0))) && (decide ((clsOf ringS) = [0, 0]))) && (decide ((errOf ringS) = 0))) && (!(isOf ringS))) = x0 → resAV [bl (((((((decide ((errOf ringS) = 0)) && (decide (((((lstOf ringS).1).states).length : Int) = 1))) && (decide (((lstOf ringS).2) = [0, 0]))) && (decide ((errOf ringS) = 0))) && (decide ((clsOf ringS) = [0, 0]))) && (decide ((errOf ringS) = 0))) && (!(isOf ringS)))] = resAV [bl x0] := by rintro _ rfl; rfl
  exact rE () [.tmp 0] rfl [bl (((((((decide ((errOf ringS) = 0)) && (decide (((((lstOf ringS).1).states).length : Int) = 1))) && (decide (((lstOf ringS).2) = [0, 0]))) && (decide ((errOf ringS) = 0))) && (decide ((clsOf ringS) = [0, 0]))) && (decide ((errOf ringS) = 0))) && (!(isOf ringS)))] ⟨.tmp rfl, trivial⟩ (hall _ hr0) trivial (by first | exact .inr rfl | exact .inl rfl)

theorem LeastFinds_ok (s : SSpec) (hsm : smallSpec s) :
    Fn0 Tryd.prog 3 [tabbed (spec s)] (bl true) := by
  refine fnI Tryd.func3 rfl rfl (fun w0 F0 => ?_)
  refine tbI 0 9999 rfl ?_
  refine fcC (inhS 0 rfl) (fun hS0 => ?_)
  obtain ⟨hsa0, hss0, hse0⟩ := spec_lens hS0
  refine sq (rg (bx (key := 1) (cs := [sl 1 strE s.actions, sl 2 stateE s.states]) rfl fun b1 => (ag (nl (th (sq (sq (rg (lPA rfl rfl T.agg25 rfl (cal0 (φs := [agg [sl 1 strE s.actions, sl 2 stateE s.states]]) (φ := bl (lightS s)) ⟨rfl, trivial⟩ (prog14.light_ok s) T.ent8 (no rfl (nl (th ?_)))))))))))))
  refine cd rfl (fun hc0 => ?_) (fun hc0 => ?_)
  · try simp at hc0
    refine sq (rg (calT (ψ := tab) (φs := []) (φ := bl true) trivial (prog14.awake_ok) T.ent9 9999 rfl rfl (ag (nl (th (rt (rt_ ?_)))))))
    exact rE () [.tmp 2] rfl [bl true] ⟨.tmp rfl, trivial⟩ (rfl) trivial (by first | exact .inr rfl | exact .inl rfl)
  · try simp at hc0
    have hsz := light_size hc0
    refine sk (th (sq (rg (lPA rfl rfl T.agg25 rfl (cal0 (φs := [agg [sl 1 strE s.actions, sl 2 stateE s.states]]) (φ := bl (specOK s)) ⟨rfl, trivial⟩ (ref03.Is_ok s) T.ent10 (ag (nl (th (sq (rg (ag (kn 4 (sl 1 intE []) rfl slnil (ag (kn 5 (sl 1 intE []) rfl slnil (nl (th (sq (rg (al (key := 6) T.z25 (ex_cons (ex_cons (ex_nil))) fun b6 => (nl (th (sq (sq (rg (mv (nl (th ?_)))))))))))))))))))))))))))
    refine cd rfl (fun hc1 => ?_) (fun hc1 => ?_)
    · try simp at hc1
      have hs := okSpec_of hc1
      refine sq (rg (lPA rfl rfl T.agg25 rfl (cal0 (φs := [agg [sl 1 strE s.actions, sl 2 stateE s.states]]) (φ := sl 1 intE (classesR s)) ⟨rfl, trivial⟩ (ref06.Classes_ok s (by assumption)) T.ent11 (ag (nl (th (rg (lPA rfl rfl T.agg25 rfl (cal0 (φs := [agg [sl 1 strE s.actions, sl 2 stateE s.states]]) (φ := tup [agg [sl 1 strE (((leastR s).1).actions), sl 2 stateE (((leastR s).1).states)], sl 1 intE ((leastR s).2)]) ⟨rfl, trivial⟩ (ref06.Least_ok s (by assumption)) T.ent12 (mv (xt rfl rfl (xt rfl rfl (sPA (cs' := [sl 1 strE (((leastR s).1).actions), sl 2 stateE (((leastR s).1).states)]) rfl rfl rfl T.agg25 rfl rfl (ag (nl (th (sq (rg (lPA rfl rfl T.agg25 rfl (calW (φs := [agg [sl 1 strE s.actions, sl 2 stateE s.states]]) (φ := agg [sl 1 strE s.actions, sl 2 stateE s.states]) ⟨rfl, trivial⟩ (ref03.Copy_ok s (by omega)) T.ent14 (fun N hN => fun h => agg_le (cs := [fre N (sl 1 strE s.actions), fre N (sl 2 stateE s.states)]) (ds := [sl 1 strE s.actions, sl 2 stateE s.states]) ⟨fun h => nw_le h, fun h => nw_le h, trivial⟩ h) (tbU (ψ := tab) 30 9999 rfl rfl (calW (φs := [both (agg [sl 1 strE s.actions, sl 2 stateE s.states]) tab]) (φ := tup [sl 1 intE (clsOf s), int (errOf s)]) ⟨rfl, trivial⟩ (prog13.Classes_ok s (by assumption)) T.ent13 (fun N hN => fun h => tup_le (cs := [fre N (sl 1 intE (clsOf s)), int (errOf s)]) (ds := [sl 1 intE (clsOf s), int (errOf s)]) ⟨fun h => nw_le h, fun h => h, trivial⟩ h) (mv (xt rfl rfl (xt rfl rfl (ag (ag (nl (th (sq (rg (lPA rfl rfl T.agg25 rfl (calW (φs := [agg [sl 1 strE s.actions, sl 2 stateE s.states]]) (φ := agg [sl 1 strE s.actions, sl 2 stateE s.states]) ⟨rfl, trivial⟩ (ref03.Copy_ok s (by omega)) T.ent14 (fun N hN => fun h => agg_le (cs := [fre N (sl 1 strE s.actions), fre N (sl 2 stateE s.states)]) (ds := [sl 1 strE s.actions, sl 2 stateE s.states]) ⟨fun h => nw_le h, fun h => nw_le h, trivial⟩ h) (tbU (ψ := tab) 36 9999 rfl rfl (calW (φs := [both (agg [sl 1 strE s.actions, sl 2 stateE s.states]) tab]) (φ := tup [agg [sl 1 strE (((lstOf s).1).actions), sl 2 stateE (((lstOf s).1).states)], sl 1 intE ((lstOf s).2), int (errOf s)]) ⟨rfl, trivial⟩ (prog13.Least_ok s (by assumption)) T.ent15 (fun N hN => fun h => tup_le (cs := [agg [fre N (sl 1 strE (((lstOf s).1).actions)), fre N (sl 2 stateE (((lstOf s).1).states))], fre N (sl 1 intE ((lstOf s).2)), int (errOf s)]) (ds := [agg [sl 1 strE (((lstOf s).1).actions), sl 2 stateE (((lstOf s).1).states)], sl 1 intE ((lstOf s).2), int (errOf s)]) ⟨fun h => agg_le (cs := [fre N (sl 1 strE (((lstOf s).1).actions)), fre N (sl 2 stateE (((lstOf s).1).states))]) (ds := [sl 1 strE (((lstOf s).1).actions), sl 2 stateE (((lstOf s).1).states)]) ⟨fun h => nw_le h, fun h => nw_le h, trivial⟩ h, fun h => nw_le h, fun h => h, trivial⟩ h) (mv (xt rfl rfl (xt rfl rfl (xt rfl rfl (al (key := 9) T.z25 (ex_cons (ex_cons (ex_nil))) fun b9 => (sPA (cs' := [sl 1 strE (((lstOf s).1).actions), sl 2 stateE (((lstOf s).1).states)]) rfl rfl rfl T.agg25 rfl rfl (ag (ag (nl (th (sq (rg (lPA rfl rfl T.agg25 rfl (calW (φs := [agg [sl 1 strE s.actions, sl 2 stateE s.states]]) (φ := agg [sl 1 strE s.actions, sl 2 stateE s.states]) ⟨rfl, trivial⟩ (ref03.Copy_ok s (by omega)) T.ent14 (fun N hN => fun h => agg_le (cs := [fre N (sl 1 strE s.actions), fre N (sl 2 stateE s.states)]) (ds := [sl 1 strE s.actions, sl 2 stateE s.states]) ⟨fun h => nw_le h, fun h => nw_le h, trivial⟩ h) (tbU (ψ := tab) 43 9999 rfl rfl (cal0 (φs := [both (agg [sl 1 strE s.actions, sl 2 stateE s.states]) tab]) (φ := tup [bl (isOf s), int (errOf s)]) ⟨rfl, trivial⟩ (prog13.Is_ok s (by assumption)) T.ent16 (mv (xt rfl rfl (xt rfl rfl (ag (ag (nl (th (sq (sq (rg (mv (no rfl (nl (th ?_)))))))))))))))))))))))))))))))))))))))))))))))))))))))))))))))))
      refine cd rfl (fun hc2 => ?_) (fun hc2 => ?_)
      · try simp at hc2
        exact absurd hc2 (by simp [hc1])
      · try simp at hc2
        refine sk (th (sq (rg (mv (bi rfl rfl b_eql (mv ?_))))))
        apply gAnd (t := 80) (pd := 83) rfl
        rotate_left
        · intro hg0 fin
          have hg0' := hg0
          try simp at hg0'
          exact gy rfl rfl rfl hg0 (mv (gy rfl rfl rfl hg0 (bi rfl rfl b_eql (pkT rfl hg0 rfl (drp (X := [(82, _), (81, _)]) ⟨rfl, rfl, trivial⟩ (fin))))))
        · intro hg0 fin
          exact gn rfl rfl rfl hg0 rfl rfl (gn rfl rfl rfl hg0 rfl rfl (pkF rfl hg0 rfl (drp (X := [(82, _), (81, _)]) ⟨rfl, rfl, trivial⟩ (fin))))
        refine mv ?_
        apply gAnd (t := 84) (pd := 87) rfl
        rotate_left
        · intro hg1 fin
          have hg1' := hg1
          try simp at hg1'
          exact gy rfl rfl rfl hg1 (mv (gy rfl rfl rfl hg1 (bi rfl rfl b_eql (pkT rfl hg1 rfl (drp (X := [(86, _), (85, _)]) ⟨rfl, rfl, trivial⟩ (fin))))))
        · intro hg1 fin
          exact gn rfl rfl rfl hg1 rfl rfl (gn rfl rfl rfl hg1 rfl rfl (pkF rfl hg1 rfl (drp (X := [(86, _), (85, _)]) ⟨rfl, rfl, trivial⟩ (fin))))
        refine mv ?_
        apply gAnd (t := 88) (pd := 92) rfl
        rotate_left
        · intro hg2 fin
          have hg2' := hg2
          try simp at hg2'
          exact gy rfl rfl rfl hg2 (mv (gy rfl rfl rfl hg2 (mv (gy rfl rfl rfl hg2 (cal0 (φs := [sl 1 intE (clsOf s), sl 1 intE (classesR s)]) (φ := bl (decide ((clsOf s) = (classesR s)))) ⟨rfl, rfl, trivial⟩ (ref01.SameInts_ok _ _) T.ent18 (pkT rfl hg2 rfl (drp (X := [(91, _), (90, _), (89, _)]) ⟨rfl, rfl, rfl, trivial⟩ (fin))))))))
        · intro hg2 fin
          exact gn rfl rfl rfl hg2 rfl rfl (gn rfl rfl rfl hg2 rfl rfl (gn rfl rfl rfl hg2 rfl rfl (pkF rfl hg2 rfl (drp (X := [(91, _), (90, _), (89, _)]) ⟨rfl, rfl, rfl, trivial⟩ (fin)))))
        refine mv ?_
        apply gAnd (t := 93) (pd := 97) rfl
        rotate_left
        · intro hg3 fin
          have hg3' := hg3
          try simp at hg3'
          exact gy rfl rfl rfl hg3 (lPA rfl rfl T.agg25 rfl (gy rfl rfl rfl hg3 (lPA rfl rfl T.agg25 rfl (gy rfl rfl rfl hg3 (cal0 (φs := [agg [sl 1 strE (((lstOf s).1).actions), sl 2 stateE (((lstOf s).1).states)], agg [sl 1 strE (((leastR s).1).actions), sl 2 stateE (((leastR s).1).states)]]) (φ := bl (decide (((lstOf s).1) = ((leastR s).1)))) ⟨rfl, rfl, trivial⟩ (ref03.Same_ok ((lstOf s).1) ((leastR s).1)) T.ent19 (pkT rfl hg3 rfl (drp (X := [(96, _), (95, _), (94, _)]) ⟨rfl, rfl, rfl, trivial⟩ (fin))))))))
        · intro hg3 fin
          exact gn rfl rfl rfl hg3 rfl rfl (gn rfl rfl rfl hg3 rfl rfl (gn rfl rfl rfl hg3 rfl rfl (pkF rfl hg3 rfl (drp (X := [(96, _), (95, _), (94, _)]) ⟨rfl, rfl, rfl, trivial⟩ (fin)))))
        refine mv ?_
        apply gAnd (t := 98) (pd := 102) rfl
        rotate_left
        · intro hg4 fin
          have hg4' := hg4
          try simp at hg4'
          exact gy rfl rfl rfl hg4 (mv (gy rfl rfl rfl hg4 (mv (gy rfl rfl rfl hg4 (cal0 (φs := [sl 1 intE ((lstOf s).2), sl 1 intE ((leastR s).2)]) (φ := bl (decide (((lstOf s).2) = ((leastR s).2)))) ⟨rfl, rfl, trivial⟩ (ref01.SameInts_ok _ _) T.ent18 (pkT rfl hg4 rfl (drp (X := [(101, _), (100, _), (99, _)]) ⟨rfl, rfl, rfl, trivial⟩ (fin))))))))
        · intro hg4 fin
          exact gn rfl rfl rfl hg4 rfl rfl (gn rfl rfl rfl hg4 rfl rfl (gn rfl rfl rfl hg4 rfl rfl (pkF rfl hg4 rfl (drp (X := [(101, _), (100, _), (99, _)]) ⟨rfl, rfl, rfl, trivial⟩ (fin)))))
        refine mv ?_
        apply gAnd (t := 103) (pd := 109) rfl
        rotate_left
        · intro hg5 fin
          have hg5' := hg5
          try simp at hg5'
          exact gy rfl rfl rfl hg5 (mv (gy rfl rfl rfl hg5 (lPA rfl rfl T.agg25 rfl (gy rfl rfl rfl hg5 (lPA rfl rfl T.agg25 rfl (gy rfl rfl rfl hg5 (cal0 (φs := [agg [sl 1 strE s.actions, sl 2 stateE s.states], agg [sl 1 strE (((leastR s).1).actions), sl 2 stateE (((leastR s).1).states)]]) (φ := bl (decide (s = ((leastR s).1)))) ⟨rfl, rfl, trivial⟩ (ref03.Same_ok s ((leastR s).1)) T.ent19 (gy rfl rfl rfl hg5 (bi rfl rfl (b_eqlB T.bool4) (pkT rfl hg5 rfl (drp (X := [(108, _), (107, _), (106, _), (105, _), (104, _)]) ⟨rfl, rfl, rfl, rfl, rfl, trivial⟩ (fin))))))))))))
        · intro hg5 fin
          exact gn rfl rfl rfl hg5 rfl rfl (gn rfl rfl rfl hg5 rfl rfl (gn rfl rfl rfl hg5 rfl rfl (gn rfl rfl rfl hg5 rfl rfl (gn rfl rfl rfl hg5 rfl rfl (pkF rfl hg5 rfl (drp (X := [(108, _), (107, _), (106, _), (105, _), (104, _)]) ⟨rfl, rfl, rfl, rfl, rfl, trivial⟩ (fin)))))))
        refine mv ?_
        apply gAnd (t := 110) (pd := 112) rfl
        rotate_left
        · intro hg6 fin
          have hg6' := hg6
          try simp at hg6'
          exact gy rfl rfl rfl hg6 (calT (ψ := tab) (φs := []) (φ := bl true) trivial (prog14.awake_ok) T.ent9 9999 rfl rfl (pkT rfl hg6 rfl (drp (X := [(111, _)]) ⟨rfl, trivial⟩ (fin))))
        · intro hg6 fin
          exact gn rfl rfl rfl hg6 rfl rfl (pkF rfl hg6 rfl (drp (X := [(111, _)]) ⟨rfl, trivial⟩ (fin)))
        refine ag (nl (th (rt ?_)))
        have hr0 : ((((((((decide ((errOf s) = 0)) && (decide ((errOf s) = 0))) && (decide ((errOf s) = 0))) && (decide ((clsOf s) = (classesR s)))) && (decide (((lstOf s).1) = ((leastR s).1)))) && (decide (((lstOf s).2) = ((leastR s).2)))) && ((isOf s) == (decide (s = ((leastR s).1))))) && true) = true := by
          obtain ⟨y1, y2, y3, y4⟩ := finds_yes hc1
          rw [y1, y2, y3, y4]
          simp
        have hall : ∀ x0, ((((((((decide ((errOf s) = 0)) && (decide ((errOf s) = 0))) && (decide ((errOf s) = 0))) && (decide ((clsOf s) = (classesR s)))) && (decide (((lstOf s).1) = ((leastR s).1)))) && (decide (((lstOf s).2) = ((leastR s).2)))) && ((isOf s) == (decide (s = ((leastR s).1))))) && true) = x0 → resAV [bl ((((((((decide ((errOf s) = 0)) && (decide ((errOf s) = 0))) && (decide ((errOf s) = 0))) && (decide ((clsOf s) = (classesR s)))) && (decide (((lstOf s).1) = ((leastR s).1)))) && (decide (((lstOf s).2) = ((leastR s).2)))) && ((isOf s) == (decide (s = ((leastR s).1))))) && true)] = resAV [bl x0] := by rintro _ rfl; rfl
        exact rE () [.tmp 2] rfl [bl ((((((((decide ((errOf s) = 0)) && (decide ((errOf s) = 0))) && (decide ((errOf s) = 0))) && (decide ((clsOf s) = (classesR s)))) && (decide (((lstOf s).1) = ((leastR s).1)))) && (decide (((lstOf s).2) = ((leastR s).2)))) && ((isOf s) == (decide (s = ((leastR s).1))))) && true)] ⟨.tmp rfl, trivial⟩ (hall _ hr0) trivial (by first | exact .inr rfl | exact .inl rfl)
    · try simp at hc1
      refine sk (th (sq (rg (lPA rfl rfl T.agg25 rfl (calW (φs := [agg [sl 1 strE s.actions, sl 2 stateE s.states]]) (φ := agg [sl 1 strE s.actions, sl 2 stateE s.states]) ⟨rfl, trivial⟩ (ref03.Copy_ok s (by omega)) T.ent14 (fun N hN => fun h => agg_le (cs := [fre N (sl 1 strE s.actions), fre N (sl 2 stateE s.states)]) (ds := [sl 1 strE s.actions, sl 2 stateE s.states]) ⟨fun h => nw_le h, fun h => nw_le h, trivial⟩ h) (tbU (ψ := tab) 30 9999 rfl rfl (calW (φs := [both (agg [sl 1 strE s.actions, sl 2 stateE s.states]) tab]) (φ := tup [sl 1 intE (clsOf s), int (errOf s)]) ⟨rfl, trivial⟩ (prog13.Classes_ok s (by assumption)) T.ent13 (fun N hN => fun h => tup_le (cs := [fre N (sl 1 intE (clsOf s)), int (errOf s)]) (ds := [sl 1 intE (clsOf s), int (errOf s)]) ⟨fun h => nw_le h, fun h => h, trivial⟩ h) (mv (xt rfl rfl (xt rfl rfl (ag (ag (nl (th (sq (rg (lPA rfl rfl T.agg25 rfl (calW (φs := [agg [sl 1 strE s.actions, sl 2 stateE s.states]]) (φ := agg [sl 1 strE s.actions, sl 2 stateE s.states]) ⟨rfl, trivial⟩ (ref03.Copy_ok s (by omega)) T.ent14 (fun N hN => fun h => agg_le (cs := [fre N (sl 1 strE s.actions), fre N (sl 2 stateE s.states)]) (ds := [sl 1 strE s.actions, sl 2 stateE s.states]) ⟨fun h => nw_le h, fun h => nw_le h, trivial⟩ h) (tbU (ψ := tab) 36 9999 rfl rfl (calW (φs := [both (agg [sl 1 strE s.actions, sl 2 stateE s.states]) tab]) (φ := tup [agg [sl 1 strE (((lstOf s).1).actions), sl 2 stateE (((lstOf s).1).states)], sl 1 intE ((lstOf s).2), int (errOf s)]) ⟨rfl, trivial⟩ (prog13.Least_ok s (by assumption)) T.ent15 (fun N hN => fun h => tup_le (cs := [agg [fre N (sl 1 strE (((lstOf s).1).actions)), fre N (sl 2 stateE (((lstOf s).1).states))], fre N (sl 1 intE ((lstOf s).2)), int (errOf s)]) (ds := [agg [sl 1 strE (((lstOf s).1).actions), sl 2 stateE (((lstOf s).1).states)], sl 1 intE ((lstOf s).2), int (errOf s)]) ⟨fun h => agg_le (cs := [fre N (sl 1 strE (((lstOf s).1).actions)), fre N (sl 2 stateE (((lstOf s).1).states))]) (ds := [sl 1 strE (((lstOf s).1).actions), sl 2 stateE (((lstOf s).1).states)]) ⟨fun h => nw_le h, fun h => nw_le h, trivial⟩ h, fun h => nw_le h, fun h => h, trivial⟩ h) (mv (xt rfl rfl (xt rfl rfl (xt rfl rfl (al (key := 9) T.z25 (ex_cons (ex_cons (ex_nil))) fun b9 => (sPA (cs' := [sl 1 strE (((lstOf s).1).actions), sl 2 stateE (((lstOf s).1).states)]) rfl rfl rfl T.agg25 rfl rfl (ag (ag (nl (th (sq (rg (lPA rfl rfl T.agg25 rfl (calW (φs := [agg [sl 1 strE s.actions, sl 2 stateE s.states]]) (φ := agg [sl 1 strE s.actions, sl 2 stateE s.states]) ⟨rfl, trivial⟩ (ref03.Copy_ok s (by omega)) T.ent14 (fun N hN => fun h => agg_le (cs := [fre N (sl 1 strE s.actions), fre N (sl 2 stateE s.states)]) (ds := [sl 1 strE s.actions, sl 2 stateE s.states]) ⟨fun h => nw_le h, fun h => nw_le h, trivial⟩ h) (tbU (ψ := tab) 43 9999 rfl rfl (cal0 (φs := [both (agg [sl 1 strE s.actions, sl 2 stateE s.states]) tab]) (φ := tup [bl (isOf s), int (errOf s)]) ⟨rfl, trivial⟩ (prog13.Is_ok s (by assumption)) T.ent16 (mv (xt rfl rfl (xt rfl rfl (ag (ag (nl (th (sq (sq (rg (mv (no rfl (nl (th ?_))))))))))))))))))))))))))))))))))))))))))))))))))
      refine cd rfl (fun hc3 => ?_) (fun hc3 => ?_)
      · try simp at hc3
        refine sq (rg (mv (bi rfl rfl b_eql (mv ?_))))
        apply gAnd (t := 51) (pd := 54) rfl
        rotate_left
        · intro hg7 fin
          have hg7' := hg7
          try simp at hg7'
          exact gy rfl rfl rfl hg7 (mv (gy rfl rfl rfl hg7 (bi rfl rfl b_eql (pkT rfl hg7 rfl (drp (X := [(53, _), (52, _)]) ⟨rfl, rfl, trivial⟩ (fin))))))
        · intro hg7 fin
          exact gn rfl rfl rfl hg7 rfl rfl (gn rfl rfl rfl hg7 rfl rfl (pkF rfl hg7 rfl (drp (X := [(53, _), (52, _)]) ⟨rfl, rfl, trivial⟩ (fin))))
        refine mv ?_
        apply gAnd (t := 55) (pd := 58) rfl
        rotate_left
        · intro hg8 fin
          have hg8' := hg8
          try simp at hg8'
          exact gy rfl rfl rfl hg8 (mv (gy rfl rfl rfl hg8 (bi rfl rfl b_eql (pkT rfl hg8 rfl (drp (X := [(57, _), (56, _)]) ⟨rfl, rfl, trivial⟩ (fin))))))
        · intro hg8 fin
          exact gn rfl rfl rfl hg8 rfl rfl (gn rfl rfl rfl hg8 rfl rfl (pkF rfl hg8 rfl (drp (X := [(57, _), (56, _)]) ⟨rfl, rfl, trivial⟩ (fin))))
        refine mv ?_
        apply gAnd (t := 59) (pd := 66) rfl
        rotate_left
        · intro hg9 fin
          have hg9' := hg9
          try simp at hg9'
          exact gy rfl rfl rfl hg9 (mv (gy rfl rfl rfl hg9 (fc (slenI 60 rfl) fun hm60 => (lnF rfl T.sl28 (gy rfl rfl rfl hg9 (mv (gy rfl rfl rfl hg9 (fc (slenI 62 rfl) fun hm62 => (lnF rfl T.sl28 (gy rfl rfl rfl hg9 (bi rfl rfl (b_add (by unfold I64; omega)) (gy rfl rfl rfl hg9 (bi rfl rfl b_eql (pkT rfl hg9 rfl (drp (X := [(65, _), (64, _), (63, _), (62, _), (61, _), (60, _)]) ⟨rfl, rfl, rfl, rfl, rfl, rfl, trivial⟩ (fin))))))))))))))))
        · intro hg9 fin
          exact gn rfl rfl rfl hg9 rfl rfl (gn rfl rfl rfl hg9 rfl rfl (gn rfl rfl rfl hg9 rfl rfl (gn rfl rfl rfl hg9 rfl rfl (gn rfl rfl rfl hg9 rfl rfl (gn rfl rfl rfl hg9 rfl rfl (pkF rfl hg9 rfl (drp (X := [(65, _), (64, _), (63, _), (62, _), (61, _), (60, _)]) ⟨rfl, rfl, rfl, rfl, rfl, rfl, trivial⟩ (fin))))))))
        refine mv ?_
        apply gAnd (t := 67) (pd := 70) rfl
        rotate_left
        · intro hg10 fin
          have hg10' := hg10
          try simp at hg10'
          exact gy rfl rfl rfl hg10 (lPA rfl rfl T.agg25 rfl (gy rfl rfl rfl hg10 (cal0 (φs := [agg [sl 1 strE (((lstOf s).1).actions), sl 2 stateE (((lstOf s).1).states)]]) (φ := bl (isNone ((lstOf s).1))) ⟨rfl, trivial⟩ (ref03.None_ok ((lstOf s).1)) T.ent17 (pkT rfl hg10 rfl (drp (X := [(69, _), (68, _)]) ⟨rfl, rfl, trivial⟩ (fin))))))
        · intro hg10 fin
          exact gn rfl rfl rfl hg10 rfl rfl (gn rfl rfl rfl hg10 rfl rfl (pkF rfl hg10 rfl (drp (X := [(69, _), (68, _)]) ⟨rfl, rfl, trivial⟩ (fin))))
        refine mv ?_
        apply gAnd (t := 71) (pd := 74) rfl
        rotate_left
        · intro hg11 fin
          have hg11' := hg11
          try simp at hg11'
          exact gy rfl rfl rfl hg11 (mv (gy rfl rfl rfl hg11 (no rfl (pkT rfl hg11 rfl (drp (X := [(73, _), (72, _)]) ⟨rfl, rfl, trivial⟩ (fin))))))
        · intro hg11 fin
          exact gn rfl rfl rfl hg11 rfl rfl (gn rfl rfl rfl hg11 rfl rfl (pkF rfl hg11 rfl (drp (X := [(73, _), (72, _)]) ⟨rfl, rfl, trivial⟩ (fin))))
        refine mv ?_
        apply gAnd (t := 75) (pd := 77) rfl
        rotate_left
        · intro hg12 fin
          have hg12' := hg12
          try simp at hg12'
          exact gy rfl rfl rfl hg12 (calT (ψ := tab) (φs := []) (φ := bl true) trivial (prog14.awake_ok) T.ent9 9999 rfl rfl (pkT rfl hg12 rfl (drp (X := [(76, _)]) ⟨rfl, trivial⟩ (fin))))
        · intro hg12 fin
          exact gn rfl rfl rfl hg12 rfl rfl (pkF rfl hg12 rfl (drp (X := [(76, _)]) ⟨rfl, trivial⟩ (fin)))
        refine ag (nl (th (rt (rt_ ?_))))
        have hr0 : (((((((decide ((errOf s) = 30)) && (decide ((errOf s) = 30))) && (decide ((errOf s) = 30))) && (decide (((((clsOf s).length) + (((lstOf s).2).length) : Nat) : Int) = 0))) && (isNone ((lstOf s).1))) && (!(isOf s))) && true) = true := by
          obtain ⟨y1, y2, y3, y4⟩ := finds_no hc1
          rw [y1, y2, y3, y4]
          rfl
        have hall : ∀ x0, (((((((decide ((errOf s) = 30)) && (decide ((errOf s) = 30))) && (decide ((errOf s) = 30))) && (decide (((((clsOf s).length) + (((lstOf s).2).length) : Nat) : Int) = 0))) && (isNone ((lstOf s).1))) && (!(isOf s))) && true) = x0 → resAV [bl (((((((decide ((errOf s) = 30)) && (decide ((errOf s) = 30))) && (decide ((errOf s) = 30))) && (decide (((((clsOf s).length) + (((lstOf s).2).length) : Nat) : Int) = 0))) && (isNone ((lstOf s).1))) && (!(isOf s))) && true)] = resAV [bl x0] := by rintro _ rfl; rfl
        exact rE () [.tmp 2] rfl [bl (((((((decide ((errOf s) = 30)) && (decide ((errOf s) = 30))) && (decide ((errOf s) = 30))) && (decide (((((clsOf s).length) + (((lstOf s).2).length) : Nat) : Int) = 0))) && (isNone ((lstOf s).1))) && (!(isOf s))) && true)] ⟨.tmp rfl, trivial⟩ (hall _ hr0) trivial (by first | exact .inr rfl | exact .inl rfl)
      · try simp at hc3
        exact absurd hc3 (by simp [hc1])
end prog14
end Go.Proofs.YtolpjmllmlahfaaDoor
