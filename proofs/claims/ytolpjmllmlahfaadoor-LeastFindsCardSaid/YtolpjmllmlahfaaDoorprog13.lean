/- Walks of the functions of this claim, printed by a program of its own out of annotations. -/
import Derived.Test.YtolpjmllmlahfaaDoorprog12
namespace Go.Proofs.YtolpjmllmlahfaaDoor
open AL Go
set_option maxRecDepth 100000
set_option linter.all false

open ref01 ref03 ref04 ref06 prog prog2 prog3 prog4 prog5 prog6 prog7 prog8 prog9 prog10 prog11 prog12 Part Rungs LeftM TrimM Itoa Keys RoundM MergeM
noncomputable def clsOf (s : SSpec) : List Int := if specOK s = true then classesR s else []
noncomputable def lstOf (s : SSpec) : SSpec × List Int := if specOK s = true then leastR s else (⟨[], []⟩, [])
noncomputable def isOf (s : SSpec) : Bool := specOK s && decide (s = (leastR s).1)
noncomputable def errOf (s : SSpec) : Int := if specOK s = true then 0 else 30

namespace prog13
namespace T
theorem map164 : MapT Tryd.prog 164 9 3 smE smD := mapT_str (by kernel_rfl) (by kernel_rfl)
theorem zv3 : ∀ w F, ∃ u, (zeroValue 3).run Tryd.prog w = .ok u w ∧ (int 0).p w F u := zeroV_of (v := .int .i64 0) (by kernel_rfl) _ (fun _ _ => eqv_rfl)
theorem ent119 : Ent Tryd.prog 119 := ent_of (by kernel_rfl)
theorem ent92 : Ent Tryd.prog 92 := ent_of (by kernel_rfl)
theorem ent94 : Ent Tryd.prog 94 := ent_of (by kernel_rfl)
theorem agg25 : IsAgg Tryd.prog 25 2 := isAgg_of (by kernel_rfl)
theorem ent39 : Ent Tryd.prog 39 := ent_of (by kernel_rfl)
theorem ent40 : Ent Tryd.prog 40 := ent_of (by kernel_rfl)
theorem z25 : ZeroIs Tryd.prog 25 [.slice none 0 0, .slice none 0 0] := zeroIs_of (by kernel_rfl)
theorem st25 : StructT Tryd.prog 25 [(0, 1), (1, 1)] [.slice none 0 0, .slice none 0 0] := structT_of (by kernel_rfl) (by kernel_rfl)
theorem ent41 : Ent Tryd.prog 41 := ent_of (by kernel_rfl)
theorem ent42 : Ent Tryd.prog 42 := ent_of (by kernel_rfl)
end T

theorem Classes_ok (s : SSpec) (hsm : smallSpec s) :
    Fn0 Tryd.prog 13 [tabbed (spec s)] (tup [ints (clsOf s), int (errOf s)]) := by
  refine fnI Tryd.func13 rfl rfl (fun w0 F0 => ?_)
  refine tbI 0 9999 rfl ?_
  refine fcC (inhS 0 rfl) (fun hS0 => ?_)
  obtain ⟨hsa0, hss0, hse0⟩ := spec_lens hS0
  refine sq (rg (bx (key := 1) (cs := [sl 1 strE s.actions, sl 2 stateE s.states]) rfl fun b1 => (ag (ag (nl (th (sq (sq (rg (lPA rfl rfl T.agg25 rfl (cal0 (φs := [agg [sl 1 strE s.actions, sl 2 stateE s.states]]) (φ := bl (specOK s)) ⟨rfl, trivial⟩ (prog2.Valid_ok s (by assumption)) T.ent39 (no rfl (nl (th ?_))))))))))))))
  refine cd rfl (fun hc0 => ?_) (fun hc0 => ?_)
  · try simp at hc0
    refine sq (rg (ag (ag (nl (th (rt (rt_ ?_)))))))
    refine knA 2 (sl 1 intE []) rfl slnil ?_
    have hr0 : [] = (clsOf s) := by
      unfold clsOf; rw [if_neg (by simp [hc0])]
    have hr1 : (30 : Int) = (errOf s) := by
      unfold errOf; rw [if_neg (by simp [hc0])]
    have hall : ∀ x0 x1, [] = x0 → 30 = x1 → resAV [sl 1 intE [], int 30] = resAV [sl 1 intE x0, int x1] := by rintro _ _ rfl rfl; rfl
    exact rE () [.tmp 2, .tmp 3] rfl [sl 1 intE [], int 30] ⟨.tmp rfl, .tmp rfl, trivial⟩ (hall _ _ hr0 hr1) trivial (by first | exact .inr rfl | exact .inl rfl)
  · try simp at hc0
    have hs := okSpec_of hc0
    refine sk (th (sq (rg (lPA rfl rfl T.agg25 rfl (tbU (ψ := tab) 7 9999 rfl rfl (cal0 (φs := [both (agg [sl 1 strE s.actions, sl 2 stateE s.states]) tab]) (φ := sl 1 intE (classesR s)) ⟨rfl, trivial⟩ (prog11.Of_ok s (by assumption)) T.ent40 (ag (ag (nl (th (rt ?_)))))))))))
    have hr0 : (classesR s) = (clsOf s) := by
      unfold clsOf; rw [if_pos hc0]
    have hr1 : (0 : Int) = (errOf s) := by
      unfold errOf; rw [if_pos hc0]
    have hall : ∀ x0 x1, (classesR s) = x0 → 0 = x1 → resAV [sl 1 intE (classesR s), int 0] = resAV [sl 1 intE x0, int x1] := by rintro _ _ rfl rfl; rfl
    exact rE () [.tmp 2, .tmp 3] rfl [sl 1 intE (classesR s), int 0] ⟨.tmp rfl, .tmp rfl, trivial⟩ (hall _ _ hr0 hr1) trivial (by first | exact .inr rfl | exact .inl rfl)

theorem Least_ok (s : SSpec) (hsm : smallSpec s) :
    Fn0 Tryd.prog 15 [tabbed (spec s)] (tup [spec (lstOf s).1, ints (lstOf s).2, int (errOf s)]) := by
  refine fnI Tryd.func15 rfl rfl (fun w0 F0 => ?_)
  refine tbI 0 9999 rfl ?_
  refine fcC (inhS 0 rfl) (fun hS0 => ?_)
  obtain ⟨hsa0, hss0, hse0⟩ := spec_lens hS0
  refine sq (rg (bx (key := 1) (cs := [sl 1 strE s.actions, sl 2 stateE s.states]) rfl fun b1 => (al (key := 2) T.z25 (ex_cons (ex_cons (ex_nil))) fun b2 => (ag (ag (nl (th (sq (sq (rg (lPA rfl rfl T.agg25 rfl (cal0 (φs := [agg [sl 1 strE s.actions, sl 2 stateE s.states]]) (φ := bl (specOK s)) ⟨rfl, trivial⟩ (prog2.Valid_ok s (by assumption)) T.ent39 (no rfl (nl (th ?_)))))))))))))))
  refine cd rfl (fun hc0 => ?_) (fun hc0 => ?_)
  · try simp at hc0
    refine sq (rg (bd (css := []) T.st25 (ex_cons (ex_cons (ex_nil))) trivial (sPA (cs' := [eqv (.slice none 0 0), eqv (.slice none 0 0)]) rfl rfl rfl T.agg25 rfl rfl (ag (ag (nl (th (rt (rt_ ?_)))))))))
    refine kncA 2 0 (sl 1 strE []) rfl rfl slnil ?_
    refine kncA 2 1 (sl 2 stateE []) rfl rfl slnil ?_
    refine knA 3 (sl 1 intE []) rfl slnil ?_
    have hr0 : [] = (((lstOf s).1).actions) := by
      unfold lstOf; rw [if_neg (by simp [hc0])]
    have hr1 : [] = (((lstOf s).1).states) := by
      unfold lstOf; rw [if_neg (by simp [hc0])]
    have hr2 : [] = ((lstOf s).2) := by
      unfold lstOf; rw [if_neg (by simp [hc0])]
    have hr3 : (30 : Int) = (errOf s) := by
      unfold errOf; rw [if_neg (by simp [hc0])]
    have hall : ∀ x0 x1 x2 x3, [] = x0 → [] = x1 → [] = x2 → 30 = x3 → resAV [agg [sl 1 strE [], sl 2 stateE []], sl 1 intE [], int 30] = resAV [agg [sl 1 strE x0, sl 2 stateE x1], sl 1 intE x2, int x3] := by rintro _ _ _ _ rfl rfl rfl rfl; rfl
    exact rE () [.cell 2 25, .tmp 3, .tmp 4] rfl [agg [sl 1 strE [], sl 2 stateE []], sl 1 intE [], int 30] ⟨.agg rfl rfl T.agg25 rfl rfl, .tmp rfl, .tmp rfl, trivial⟩ (hall _ _ _ _ hr0 hr1 hr2 hr3) trivial (by first | exact .inr rfl | exact .inl rfl)
  · try simp at hc0
    have hs := okSpec_of hc0
    refine sk (th (sq (rg (lPA rfl rfl T.agg25 rfl (tbU (ψ := tab) 12 9999 rfl rfl (cal0 (φs := [both (agg [sl 1 strE s.actions, sl 2 stateE s.states]) tab]) (φ := tup [agg [sl 1 strE (((leastR s).1).actions), sl 2 stateE (((leastR s).1).states)], sl 1 intE ((leastR s).2)]) ⟨rfl, trivial⟩ (prog12.Merged_ok s (by assumption)) T.ent41 (mv (xt rfl rfl (xt rfl rfl (al (key := 5) T.z25 (ex_cons (ex_cons (ex_nil))) fun b5 => (sPA (cs' := [sl 1 strE (((leastR s).1).actions), sl 2 stateE (((leastR s).1).states)]) rfl rfl rfl T.agg25 rfl rfl (ag (nl (th (sq (rg (lPA rfl rfl T.agg25 rfl (mv (sPA (cs' := [sl 1 strE (((leastR s).1).actions), sl 2 stateE (((leastR s).1).states)]) rfl rfl rfl T.agg25 rfl rfl (ag (ag (nl (th (rt ?_))))))))))))))))))))))))
    have hr0 : (((leastR s).1).actions) = (((lstOf s).1).actions) := by
      unfold lstOf; rw [if_pos hc0]
    have hr1 : (((leastR s).1).states) = (((lstOf s).1).states) := by
      unfold lstOf; rw [if_pos hc0]
    have hr2 : ((leastR s).2) = ((lstOf s).2) := by
      unfold lstOf; rw [if_pos hc0]
    have hr3 : (0 : Int) = (errOf s) := by
      unfold errOf; rw [if_pos hc0]
    have hall : ∀ x0 x1 x2 x3, (((leastR s).1).actions) = x0 → (((leastR s).1).states) = x1 → ((leastR s).2) = x2 → 0 = x3 → resAV [agg [sl 1 strE (((leastR s).1).actions), sl 2 stateE (((leastR s).1).states)], sl 1 intE ((leastR s).2), int 0] = resAV [agg [sl 1 strE x0, sl 2 stateE x1], sl 1 intE x2, int x3] := by rintro _ _ _ _ rfl rfl rfl rfl; rfl
    exact rE () [.cell 2 25, .tmp 3, .tmp 4] rfl [agg [sl 1 strE (((leastR s).1).actions), sl 2 stateE (((leastR s).1).states)], sl 1 intE ((leastR s).2), int 0] ⟨.agg rfl rfl T.agg25 rfl rfl, .tmp rfl, .tmp rfl, trivial⟩ (hall _ _ _ _ hr0 hr1 hr2 hr3) trivial (by first | exact .inr rfl | exact .inl rfl)

theorem Is_ok (s : SSpec) (hsm : smallSpec s) :
    Fn0 Tryd.prog 16 [tabbed (spec s)] (tup [bl (isOf s), int (errOf s)]) := by
  refine fnI Tryd.func16 rfl rfl (fun w0 F0 => ?_)
  refine tbI 0 9999 rfl ?_
  refine fcC (inhS 0 rfl) (fun hS0 => ?_)
  obtain ⟨hsa0, hss0, hse0⟩ := spec_lens hS0
  refine sq (rg (bx (key := 1) (cs := [sl 1 strE s.actions, sl 2 stateE s.states]) rfl fun b1 => (ag (ag (nl (th (sq (sq (rg (lPA rfl rfl T.agg25 rfl (cal0 (φs := [agg [sl 1 strE s.actions, sl 2 stateE s.states]]) (φ := bl (specOK s)) ⟨rfl, trivial⟩ (prog2.Valid_ok s (by assumption)) T.ent39 (no rfl (nl (th ?_))))))))))))))
  refine cd rfl (fun hc0 => ?_) (fun hc0 => ?_)
  · try simp at hc0
    refine sq (rg (ag (ag (nl (th (rt (rt_ ?_)))))))
    have hr0 : false = (isOf s) := by
      unfold isOf; rw [hc0]; rfl
    have hr1 : (30 : Int) = (errOf s) := by
      unfold errOf; rw [if_neg (by simp [hc0])]
    have hall : ∀ x0 x1, false = x0 → 30 = x1 → resAV [bl false, int 30] = resAV [bl x0, int x1] := by rintro _ _ rfl rfl; rfl
    exact rE () [.tmp 2, .tmp 3] rfl [bl false, int 30] ⟨.tmp rfl, .tmp rfl, trivial⟩ (hall _ _ hr0 hr1) trivial (by first | exact .inr rfl | exact .inl rfl)
  · try simp at hc0
    have hs := okSpec_of hc0
    refine sk (th (sq (rg (lPA rfl rfl T.agg25 rfl (tbU (ψ := tab) 10 9999 rfl rfl (cal0 (φs := [both (agg [sl 1 strE s.actions, sl 2 stateE s.states]) tab]) (φ := tup [agg [sl 1 strE (((leastR s).1).actions), sl 2 stateE (((leastR s).1).states)], sl 1 intE ((leastR s).2)]) ⟨rfl, trivial⟩ (prog12.Merged_ok s (by assumption)) T.ent41 (mv (xt rfl rfl (xt rfl rfl (al (key := 4) T.z25 (ex_cons (ex_cons (ex_nil))) fun b4 => (sPA (cs' := [sl 1 strE (((leastR s).1).actions), sl 2 stateE (((leastR s).1).states)]) rfl rfl rfl T.agg25 rfl rfl (ag (nl (th (sq (rg (lPA rfl rfl T.agg25 rfl (lPA rfl rfl T.agg25 rfl (cal0 (φs := [agg [sl 1 strE s.actions, sl 2 stateE s.states], agg [sl 1 strE (((leastR s).1).actions), sl 2 stateE (((leastR s).1).states)]]) (φ := bl (decide (s = ((leastR s).1)))) ⟨rfl, rfl, trivial⟩ (prog3.Same_ok s ((leastR s).1)) T.ent42 (ag (ag (nl (th (rt ?_))))))))))))))))))))))))
    have hr0 : (decide (s = ((leastR s).1))) = (isOf s) := by
      unfold isOf; rw [hc0]; rfl
    have hr1 : (0 : Int) = (errOf s) := by
      unfold errOf; rw [if_pos hc0]
    have hall : ∀ x0 x1, (decide (s = ((leastR s).1))) = x0 → 0 = x1 → resAV [bl (decide (s = ((leastR s).1))), int 0] = resAV [bl x0, int x1] := by rintro _ _ rfl rfl; rfl
    exact rE () [.tmp 2, .tmp 3] rfl [bl (decide (s = ((leastR s).1))), int 0] ⟨.tmp rfl, .tmp rfl, trivial⟩ (hall _ _ hr0 hr1) trivial (by first | exact .inr rfl | exact .inl rfl)
end prog13
end Go.Proofs.YtolpjmllmlahfaaDoor
