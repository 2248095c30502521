/- Walks of the functions of this claim, printed by a program of its own out of annotations. -/
import Derived.Test.YtolpjmllmlahfaaDoorprog8
import Derived.Test.YtolpjmllmlahfaaDoorTrimM
namespace Go.Proofs.YtolpjmllmlahfaaDoor
open AL Go
set_option maxRecDepth 100000
set_option linter.all false

open ref01 ref03 ref04 ref06 prog prog2 prog3 prog4 prog6 prog7 prog8 Part Rungs LeftM TrimM

namespace prog9
namespace T
theorem ent119 : Ent Tryd.prog 119 := ent_of (by kernel_rfl)
theorem z25 : ZeroIs Tryd.prog 25 [.slice none 0 0, .slice none 0 0] := zeroIs_of (by kernel_rfl)
theorem fld25_0 : FieldAt Tryd.prog 25 0 0 := fieldAt_of (by kernel_rfl)
theorem one22 : IsOne Tryd.prog 22 := isOne_of (by kernel_rfl)
theorem ent97 : Ent Tryd.prog 97 := ent_of (by kernel_rfl)
theorem st25 : StructT Tryd.prog 25 [(0, 1), (1, 1)] [.slice none 0 0, .slice none 0 0] := structT_of (by kernel_rfl) (by kernel_rfl)
theorem agg25 : IsAgg Tryd.prog 25 2 := isAgg_of (by kernel_rfl)
theorem z28 : ZeroIs Tryd.prog 28 [.slice none 0 0] := zeroIs_of (by kernel_rfl)
theorem fld25_1 : FieldAt Tryd.prog 25 1 1 := fieldAt_of (by kernel_rfl)
theorem one23 : IsOne Tryd.prog 23 := isOne_of (by kernel_rfl)
theorem sl23 : IsSlice Tryd.prog 23 69 2 := isSlice_of (by kernel_rfl)
theorem mk28 : MakeT Tryd.prog 28 3 1 8 [.int .i64 0] := makeT_of (by kernel_rfl) (by kernel_rfl)
theorem one28 : IsOne Tryd.prog 28 := isOne_of (by kernel_rfl)
theorem ent98 : Ent Tryd.prog 98 := ent_of (by kernel_rfl)
theorem ent118 : Ent Tryd.prog 118 := ent_of (by kernel_rfl)
theorem sl28 : IsSlice Tryd.prog 28 3 1 := isSlice_of (by kernel_rfl)
theorem one3 : IsOne Tryd.prog 3 := isOne_of (by kernel_rfl)
theorem st69 : StructT Tryd.prog 69 [(0, 1), (1, 1)] [.slice none 0 0, .slice none 0 0] := structT_of (by kernel_rfl) (by kernel_rfl)
theorem mk23 : MakeT Tryd.prog 23 69 2 48 [.slice none 0 0, .slice none 0 0] := makeT_of (by kernel_rfl) (by kernel_rfl)
theorem ent99 : Ent Tryd.prog 99 := ent_of (by kernel_rfl)
theorem z3 : ZeroIs Tryd.prog 3 [.int .i64 0] := zeroIs_of (by kernel_rfl)
theorem fld69_0 : FieldAt Tryd.prog 69 0 0 := fieldAt_of (by kernel_rfl)
theorem sl22 : IsSlice Tryd.prog 22 9 1 := isSlice_of (by kernel_rfl)
theorem ent63 : Ent Tryd.prog 63 := ent_of (by kernel_rfl)
theorem ent95 : Ent Tryd.prog 95 := ent_of (by kernel_rfl)
theorem ent115 : Ent Tryd.prog 115 := ent_of (by kernel_rfl)
theorem mixed : Tryd.prog.follows .mixedOrders = true := by kernel_rfl
theorem fld69_1 : FieldAt Tryd.prog 69 1 1 := fieldAt_of (by kernel_rfl)
end T

theorem Trimmed_ok (s : SSpec) (hs : okSpec s) :
    Fn0 Tryd.prog 64 [spec s] (tup [spec (trimS s).1, ints (trimS s).2]) := by
  refine fnI Tryd.func64 rfl rfl (fun w0 F0 => ?_)
  have hf0 := hs.few0; have hf1 := hs.few1; have hn8 := hs.n8; have hoq : okQ s.states.length (ordS s) := order_okQ hs; have hol : (ordS s).length ≤ s.states.length := hoq.le; have hnd : (ordS s).Nodup := order_nodup _; have hop := ordS_pos s
  refine fcC (inhS 0 rfl) (fun hS0 => ?_)
  obtain ⟨hsa0, hss0, hse0⟩ := spec_lens hS0
  refine sq (rg (bx (key := 1) (cs := [sl 1 strE s.actions, sl 2 stateE s.states]) rfl fun b1 => (al (key := 2) T.z25 (ex_cons (ex_cons (ex_nil))) fun b2 => (ag (nl (th (sq (rg (fP rfl T.fld25_0 (lP rfl rfl rfl T.one22 (cal0 (φs := [sl 1 strE s.actions]) (φ := sl 1 strE s.actions) ⟨rfl, trivial⟩ (prog.sClonestrE_ok _ (by omega)) T.ent97 (bd (css := [(0, _)]) T.st25 (ex_cons (ex_cons (ex_nil))) ⟨rfl, rfl, p1 (φ := sl 1 strE s.actions) rfl, trivial⟩ (al (key := 4) T.z25 (ex_cons (ex_cons (ex_nil))) fun b4 => (sPA (cs' := [sl 1 strE s.actions, eqv (.slice none 0 0)]) rfl rfl rfl T.agg25 rfl rfl (nl (th (sq (rg (al (key := 5) T.z28 (ex_cons (ex_nil)) fun b5 => (nl (th (sq (rg (fP rfl T.fld25_1 (lP rfl rfl rfl T.one23 (fc (slenI 21 rfl) fun hm21 => (lnF rfl T.sl23 (mk (key := 23) (m := s.states.length) (enc := intE) (y := (0 : Int)) rfl rfl T.mk28 (ex_cons ex_nil) (by unfold maxL; omega) (by unfold maxL; omega) fun v23 => (al (key := 6) T.z28 (ex_cons (ex_nil)) fun b6 => (storePO rfl rfl rfl rfl T.one28 rfl (nl (th (sq (sq (rg (nw 50 3 1 intE (knc 5 0 (osl 50 (.slice none 0 0)) rfl rfl eq_osl (nw 40 69 2 stateE (knc 4 1 (osl 40 (.slice none 0 0)) rfl rfl eq_osl (lPA rfl rfl T.agg25 rfl (cal0 (φs := [agg [sl 1 strE s.actions, sl 2 stateE s.states]]) (φ := clo 118 [fp [sl 1 strE s.actions, sl 2 stateE s.states]]) ⟨rfl, trivial⟩ (prog7.Left_ok s) T.ent98 (nl (th (bk ?_))))))))))))))))))))))))))))))))))))))))))))
  have hR0 : (List.replicate s.states.length (0 : Int)) = atL s.states.length ((ordS s).take 0) ∧ ([] : List Int) = (if ix (hollow s) 0 = true then [] else (ordS s).take 0) ∧ ([] : List SState) = ([] : List Int).map (half s) := by
    exact ⟨atL_zero _, by split <;> rfl, rfl⟩
  refine rf (κ := (List Int) × Value × (List Int) × Value × (List SState)) 900 (fun p => [(1, cell b1 [sl 1 strE s.actions, sl 2 stateE s.states]), (2, cell b2 [eqv (.slice none 0 0), eqv (.slice none 0 0)]), (4, cell b4 [sl 1 strE s.actions, osl 40 p.2.2.2.1]), (5, cell b5 [osl 50 p.2.1]), (6, cell b6 [osl 23 v23]), (23, own v23 3 1 intE p.1), (40, own p.2.2.2.1 69 2 stateE p.2.2.2.2), (50, own p.2.1 3 1 intE p.2.2.1)]) (fun iR p => p.1 = atL s.states.length ((ordS s).take iR) ∧ p.2.2.1 = (if ix (hollow s) 0 = true then [] else (ordS s).take iR) ∧ p.2.2.2.2 = p.2.2.1.map (half s)) (fun c p => False) rfl (LeftIt s hs) T.ent118 rfl (fun _ => rfl) (fun _ => rfl) ⟨List.replicate s.states.length (0 : Int), (.slice none 0 0), ([] : List Int), (.slice none 0 0), ([] : List SState)⟩ hR0 ⟨⟨rfl, id⟩, ⟨rfl, id⟩, ⟨rfl, id⟩, ⟨rfl, id⟩, ⟨rfl, id⟩, ⟨rfl, id⟩, ⟨rfl, id⟩, ⟨rfl, id⟩, trivial⟩ ?_ ?_ (fun k h => h.elim) (fun id k h => h.elim) (fun c k h => h.elim)
  · intro m0 ⟨at_, u50, fr, u40, sts⟩ x0 hG0 hx0 l R w1 M1 F1 hRd
    have hR0 : at_ = atL s.states.length ((ordS s).take m0) ∧ fr = (if ix (hollow s) 0 = true then [] else (ordS s).take m0) ∧ sts = fr.map (half s) := hG0
    show Ct _ _ _ _ _ ((900, obj l (.loop R)) :: [(1, cell b1 [sl 1 strE s.actions, sl 2 stateE s.states]), (2, cell b2 [eqv (.slice none 0 0), eqv (.slice none 0 0)]), (4, cell b4 [sl 1 strE s.actions, osl 40 u40]), (5, cell b5 [osl 50 u50]), (6, cell b6 [osl 23 v23]), (23, own v23 3 1 intE at_), (40, own u40 69 2 stateE sts), (50, own u50 3 1 intE fr)]) _
    obtain ⟨h00, hm0, hxa, hxb⟩ := leftL_get hx0
    have hob := hoq.1 m0 hm0
    have hal : at_.length = s.states.length := by rw [hR0.1]; exact atL_len _ _
    have hfl : fr.length = m0 := by rw [hR0.2.1, if_neg (by simp [h00])]; simp; omega
    have hstl : sts.length = m0 := by rw [hR0.2.2]; simp [hfl]
    refine sq (rg (ag (nl (th (rg (ag (nl (aq hRd rfl (bk (sq (rg (lP rfl rfl rfl T.one28 (mv (lP rfl rfl rfl T.one28 (lnO rfl rfl T.sl28 (iO rfl rfl rfl T.sl28 (by omega) (by omega) (sO (φ := int (fr.length : Int)) rfl rfl rfl T.one3 (by first | exact gN (by omega) | exact gI (by omega) (by omega)) rfl (y' := (fr.length : Int)) rfl (nl (th (sq (rg (lP rfl rfl rfl T.one28 (mv (bsE (enc := intE) (xs := [x0.1]) (css := [[int x0.1]]) T.mk28 ⟨rfl, rfl, p1 (φ := int x0.1) rfl, trivial⟩ rfl rfl rfl rfl (ap (key := 50) (zs := [x0.1]) osl_eq rfl rfl rfl T.mk28 (by unfold maxL at *; simp; omega) (by unfold maxL at *; simp; omega) fun v36 => (storePO rfl rfl rfl rfl T.one28 rfl (nl (th (rg (fP rfl T.fld25_1 (lP rfl rfl rfl T.one23 (mv (bd (css := [(0, _)]) T.st69 (ex_cons (ex_cons (ex_nil))) ⟨rfl, rfl, p1 (φ := sl 1 intE x0.2) rfl, trivial⟩ (kn 40 (agg [sl 1 intE x0.2, sl 1 intE []]) rfl (agg_le (cs := [sl 1 intE x0.2, eqv (.slice none 0 0)]) (ds := [sl 1 intE x0.2, sl 1 intE []]) ⟨fun h => h, fun h => slnil h, trivial⟩) (bsE (enc := stateE) (xs := [(⟨x0.2, []⟩)]) (css := [[sl 1 intE x0.2, sl 1 intE []]]) T.mk23 ⟨rfl, rfl, pA (cs := [sl 1 intE x0.2, sl 1 intE []]) rfl, trivial⟩ rfl rfl rfl rfl (ap (key := 40) (zs := [(⟨x0.2, []⟩)]) osl_eq rfl rfl rfl T.mk23 (by unfold maxL at *; simp; omega) (by unfold maxL at *; simp; omega) fun v42 => (fP rfl T.fld25_1 (storePO rfl rfl rfl rfl T.one23 rfl (nl (eb ?_))))))))))))))))))))))))))))))))))))))))
    have hN0 : (at_.set x0.1.toNat (fr.length : Int)) = atL s.states.length ((ordS s).take (m0 + 1)) ∧ (fr ++ [x0.1]) = (if ix (hollow s) 0 = true then [] else (ordS s).take (m0 + 1)) ∧ (sts ++ [(⟨x0.2, []⟩)]) = (fr ++ [x0.1]).map (half s) := by
      have hfl2 : fr.length = ((ordS s).take m0).length := by rw [hfl]; simp; omega
      refine ⟨?_, ?_, ?_⟩
      · rw [hR0.1, hxa, hfl2, take_s hm0, atL_snoc (fresh hnd hm0) hob.1 hob.2]
      · rw [if_neg (by simp [h00]), take_s hm0, hR0.2.1, if_neg (by simp [h00]), hxa]
      · rw [List.map_append, ← hR0.2.2, hxb, hxa]; rfl
    exact rqN ⟨at_.set x0.1.toNat (fr.length : Int), v36, fr ++ [x0.1], v42, sts ++ [(⟨x0.2, []⟩)]⟩ hN0 ⟨⟨rfl, id⟩, ⟨rfl, id⟩, ⟨rfl, id⟩, ⟨rfl, id⟩, ⟨rfl, id⟩, ⟨rfl, id⟩, ⟨rfl, id⟩, ⟨rfl, id⟩, ⟨rfl, id⟩, trivial⟩
  · intro ⟨at_, u50, fr, u40, sts⟩ hG0
    have hR0 : at_ = atL s.states.length ((ordS s).take ((leftL s).length)) ∧ fr = (if ix (hollow s) 0 = true then [] else (ordS s).take ((leftL s).length)) ∧ sts = fr.map (half s) := hG0
    show At _ _ _ _ [(1, cell b1 [sl 1 strE s.actions, sl 2 stateE s.states]), (2, cell b2 [eqv (.slice none 0 0), eqv (.slice none 0 0)]), (4, cell b4 [sl 1 strE s.actions, osl 40 u40]), (5, cell b5 [osl 50 u50]), (6, cell b6 [osl 23 v23]), (23, own v23 3 1 intE at_), (40, own u40 69 2 stateE sts), (50, own u50 3 1 intE fr)]
    refine eb (th (sq (sq (rg (lP rfl rfl rfl T.one28 (lnO rfl rfl T.sl28 (bi rfl rfl b_eql (nl (th ?_)))))))))
    refine cd rfl (fun hc0 => ?_) (fun hc0 => ?_)
    · try simp at hc0
      have hh0 : ix (hollow s) 0 = true := by
        cases h : ix (hollow s) 0 with
        | true => rfl
        | false =>
          exfalso
          have h2 := hR0.2.1
          rw [if_neg (by simp [h]), leftL_len h, List.take_length] at h2
          have h3 := hop
          rw [hc0] at h2
          rw [show ordS s = [] from h2.symm] at h3
          simp at h3
      refine sq (rg (fP rfl T.fld25_0 (lP rfl rfl rfl T.one22 (cal0 (φs := [sl 1 strE s.actions]) (φ := agg [sl 1 strE ((nothing s.actions).actions), sl 2 stateE ((nothing s.actions).states)]) ⟨rfl, trivial⟩ (prog8.Nothing_ok s.actions (by omega)) T.ent99 (sPA (cs' := [sl 1 strE ((nothing s.actions).actions), sl 2 stateE ((nothing s.actions).states)]) rfl rfl rfl T.agg25 rfl rfl (ag (nl (th (rt (rt_ ?_))))))))))
      refine knA 3 (sl 1 intE []) rfl slnil ?_
      have hr0 : ((nothing s.actions).actions) = (((trimS s).1).actions) := by
        rw [trimmed_hol hh0]
      have hr1 : ((nothing s.actions).states) = (((trimS s).1).states) := by
        rw [trimmed_hol hh0]
      have hr2 : [] = ((trimS s).2) := by
        rw [trimmed_hol hh0]
      have hall : ∀ x0 x1 x2, ((nothing s.actions).actions) = x0 → ((nothing s.actions).states) = x1 → [] = x2 → resAV [agg [sl 1 strE ((nothing s.actions).actions), sl 2 stateE ((nothing s.actions).states)], sl 1 intE []] = resAV [agg [sl 1 strE x0, sl 2 stateE x1], sl 1 intE x2] := by rintro _ _ _ rfl rfl rfl; rfl
      exact rE () [.cell 2 25, .tmp 3] rfl [agg [sl 1 strE ((nothing s.actions).actions), sl 2 stateE ((nothing s.actions).states)], sl 1 intE []] ⟨.agg rfl rfl T.agg25 rfl rfl, .tmp rfl, trivial⟩ (hall _ _ _ hr0 hr1 hr2) trivial (by first | exact .inr rfl | exact .inl rfl)
    · try simp at hc0
      have h00 : ix (hollow s) 0 = false := by
        cases h : ix (hollow s) 0 with
        | false => rfl
        | true => exact absurd (by rw [hR0.2.1, if_pos h]) hc0
      have hfr : fr = ordS s := by rw [hR0.2.1, if_neg (by simp [h00]), leftL_len h00, List.take_length]
      have hat : at_ = atL s.states.length (ordS s) := by rw [hR0.1, leftL_len h00, List.take_length]
      have hfl : fr.length = (ordS s).length := by rw [hfr]
      have hal : at_.length = s.states.length := by rw [hat]; exact atL_len _ _
      refine sk (th (sq (sq (rg (lP rfl rfl rfl T.one28 (lnO rfl rfl T.sl28 (mv (nl (th (bk ?_))))))))))
      have hI0_0 : 0 ≤ fr.length := by
        first | omega | simp
      have hI0_1 : sts = outs s 0 := by
        rw [hR0.2.2, hfr, outs_zero]
      refine lp (κ := Nat × (List SState)) (fun p => [(1, ptr 1 b1 0), (2, ptr 2 b2 0), (3, eqv (.slice none 0 0)), (4, ptr 4 b4 0), (5, ptr 5 b5 0), (6, ptr 6 b6 0), (50, osl 50 u50), (51, int (fr.length : Int)), (52, int (p.1 : Int))]) (fun p => [(1, cell b1 [sl 1 strE s.actions, sl 2 stateE s.states]), (2, cell b2 [eqv (.slice none 0 0), eqv (.slice none 0 0)]), (4, cell b4 [sl 1 strE s.actions, osl 40 u40]), (5, cell b5 [osl 50 u50]), (6, cell b6 [osl 23 v23]), (23, own v23 3 1 intE at_), (40, own u40 69 2 stateE p.2), (50, own u50 3 1 intE fr)]) (fun p => (p.1 ≤ fr.length) ∧ (p.2 = outs s p.1)) (fun p => fr.length - p.1) ⟨0, sts⟩ ⟨hI0_0, hI0_1⟩ ⟨id, id, id, id, id, id, id, id, id, trivial⟩ ⟨⟨rfl, id⟩, ⟨rfl, id⟩, ⟨rfl, id⟩, ⟨rfl, id⟩, ⟨rfl, id⟩, ⟨rfl, id⟩, ⟨rfl, id⟩, ⟨rfl, id⟩, trivial⟩ ?_
      intro ⟨k, sts2⟩ hG0
      obtain ⟨hk0, hI0⟩ : (k ≤ fr.length) ∧ (sts2 = outs s k) := hG0
      show Ct _ _ _ _ [(1, ptr 1 b1 0), (2, ptr 2 b2 0), (3, eqv (.slice none 0 0)), (4, ptr 4 b4 0), (5, ptr 5 b5 0), (6, ptr 6 b6 0), (50, osl 50 u50), (51, int (fr.length : Int)), (52, int (k : Int))] [(1, cell b1 [sl 1 strE s.actions, sl 2 stateE s.states]), (2, cell b2 [eqv (.slice none 0 0), eqv (.slice none 0 0)]), (4, cell b4 [sl 1 strE s.actions, osl 40 u40]), (5, cell b5 [osl 50 u50]), (6, cell b6 [osl 23 v23]), (23, own v23 3 1 intE at_), (40, own u40 69 2 stateE sts2), (50, own u50 3 1 intE fr)] _
      have hsl : sts2.length = (ordS s).length := by rw [hI0]; exact outs_len s k
      refine sq (rg (bi rfl rfl b_lss (nl (th (sq ?_)))))
      refine cd rfl (fun hc1 => ?_) (fun hc1 => ?_)
      · try simp at hc1
        have hkl : k < (ordS s).length := by omega
        have hob := hoq.1 k hkl
        rw [← hfr] at hob
        have hxn : (ix fr k).toNat < s.states.length := by omega
        have hox := hs.st _ hxn
        have hacl := hox.acl
        have hxl := hox.len
        have hhf : ix sts2 k = half s (ix fr k) := by rw [hI0, hfr]; exact outs_ix hkl
        have hha : (ix sts2 k).accept = keep s (ix fr k).toNat := by rw [hhf]; rfl
        refine sk (th (sq (bk (sq (rg (mv (iO rfl rfl rfl T.sl28 (by omega) (by omega) (lO rfl rfl (by first | exact gN (by omega) | exact gI (by omega) (by omega)) rfl T.one3 (al (key := 10) T.z3 (ex_cons (ex_nil)) fun b10 => (ag (sP (φ := int (ix fr k)) rfl rfl rfl T.one3 rfl (nl (th (sq (rg (ag (nl (th (sq (sq (rg (fP rfl T.fld25_1 (lP rfl rfl rfl T.one23 (mv (iO rfl rfl rfl T.sl23 (by omega) (by omega) (fO rfl T.fld69_0 (lO rfl rfl (by first | exact gN (by omega) | exact gI (by omega) (by omega)) rfl T.one28 (fc (slenI 62 rfl) fun hm62 => (lnF rfl T.sl28 (mv (nl (th (bk ?_)))))))))))))))))))))))))))))))))
        have hI1_0 : 0 ≤ ((ix sts2 k).accept).length := by
          first | omega | simp
        have hI1_1 : (0 : Int) = orAll ((keep s (ix fr k).toNat).take 0) ∧ 0 ≤ (0 : Int) ∧ (0 : Int) < 256 := by
          exact ⟨rfl, by omega, by omega⟩
        refine lp (κ := Nat × Int) (fun p => [(1, ptr 1 b1 0), (2, ptr 2 b2 0), (3, eqv (.slice none 0 0)), (4, ptr 4 b4 0), (5, ptr 5 b5 0), (6, ptr 6 b6 0), (9, int (k : Int)), (10, ptr 10 b10 0), (11, int p.2), (50, osl 50 u50), (51, int (fr.length : Int)), (52, int (k : Int)), (62, sl 1 intE ((ix sts2 k).accept)), (63, int (((ix sts2 k).accept).length : Int)), (64, int (p.1 : Int))]) (fun p => [(1, cell b1 [sl 1 strE s.actions, sl 2 stateE s.states]), (2, cell b2 [eqv (.slice none 0 0), eqv (.slice none 0 0)]), (4, cell b4 [sl 1 strE s.actions, osl 40 u40]), (5, cell b5 [osl 50 u50]), (6, cell b6 [osl 23 v23]), (10, cell b10 [int (ix fr k)]), (23, own v23 3 1 intE at_), (40, own u40 69 2 stateE sts2), (50, own u50 3 1 intE fr)]) (fun p => (p.1 ≤ ((ix sts2 k).accept).length) ∧ (p.2 = orAll ((keep s (ix fr k).toNat).take p.1) ∧ 0 ≤ p.2 ∧ p.2 < 256)) (fun p => ((ix sts2 k).accept).length - p.1) ⟨0, (0 : Int)⟩ ⟨hI1_0, hI1_1⟩ ⟨id, id, id, id, id, id, id, id, id, id, id, id, id, id, id, trivial⟩ ⟨⟨rfl, id⟩, ⟨rfl, id⟩, ⟨rfl, id⟩, ⟨rfl, id⟩, ⟨rfl, id⟩, ⟨rfl, id⟩, ⟨rfl, id⟩, ⟨rfl, id⟩, ⟨rfl, id⟩, trivial⟩ ?_
        intro ⟨k1, cn⟩ hG1
        obtain ⟨hk1, hI1⟩ : (k1 ≤ ((ix sts2 k).accept).length) ∧ (cn = orAll ((keep s (ix fr k).toNat).take k1) ∧ 0 ≤ cn ∧ cn < 256) := hG1
        show Ct _ _ _ _ [(1, ptr 1 b1 0), (2, ptr 2 b2 0), (3, eqv (.slice none 0 0)), (4, ptr 4 b4 0), (5, ptr 5 b5 0), (6, ptr 6 b6 0), (9, int (k : Int)), (10, ptr 10 b10 0), (11, int cn), (50, osl 50 u50), (51, int (fr.length : Int)), (52, int (k : Int)), (62, sl 1 intE ((ix sts2 k).accept)), (63, int (((ix sts2 k).accept).length : Int)), (64, int (k1 : Int))] [(1, cell b1 [sl 1 strE s.actions, sl 2 stateE s.states]), (2, cell b2 [eqv (.slice none 0 0), eqv (.slice none 0 0)]), (4, cell b4 [sl 1 strE s.actions, osl 40 u40]), (5, cell b5 [osl 50 u50]), (6, cell b6 [osl 23 v23]), (10, cell b10 [int (ix fr k)]), (23, own v23 3 1 intE at_), (40, own u40 69 2 stateE sts2), (50, own u50 3 1 intE fr)] _
        refine sq (rg (bi rfl rfl b_lss (nl (th (sq ?_)))))
        refine cd rfl (fun hc2 => ?_) (fun hc2 => ?_)
        · try simp at hc2
          have hkb : 0 ≤ ix (ix sts2 k).accept k1 ∧ ix (ix sts2 k).accept k1 < 256 := by
            rw [hha] at hc2 ⊢
            exact acc_bd hox (keep_mem (ix_mem hc2)).1
          refine sk (th (sq (bk (sq (rg (iF rfl rfl T.sl28 (by omega) (by first | exact gN (by omega) | exact gI (by omega) (by omega)) (lF rfl rfl T.one3 (ag (nl (th (rg (mv (mv (bi rfl rfl (b_orI (by omega) (by omega) (by omega) (by omega)) (ag (nl (eb (th (rg (bi rfl rfl (b_add (by unfold I64; omega)) (mv (nl ?_))))))))))))))))))))))
          have hN0 : (k1 + 1) ≤ ((ix sts2 k).accept).length := by
            first | omega | simp_all
          have hN1 : ((cn.toNat ||| ((ix ((ix sts2 k).accept) k1).toNat) : Nat) : Int) = orAll ((keep s (ix fr k).toNat).take (k1 + 1)) ∧ 0 ≤ ((cn.toNat ||| ((ix ((ix sts2 k).accept) k1).toNat) : Nat) : Int) ∧ ((cn.toNat ||| ((ix ((ix sts2 k).accept) k1).toNat) : Nat) : Int) < 256 := by
            refine ⟨?_, by omega, or_lt256 hI1.2.2 hkb.2⟩
            rw [take_s (by rw [← hha]; omega), orAll_snoc, ← hI1.1, hha]
          exact ln (⟨k1 + 1, ((cn.toNat ||| ((ix ((ix sts2 k).accept) k1).toNat) : Nat) : Int)⟩ : Nat × Int) ⟨hN0, hN1⟩ (by first | omega | (dsimp only; omega)) ⟨id, id, id, id, id, id, id, id, id, id, id, id, id, id, id, trivial⟩ ⟨⟨rfl, id⟩, ⟨rfl, id⟩, ⟨rfl, id⟩, ⟨rfl, id⟩, ⟨rfl, id⟩, ⟨rfl, id⟩, ⟨rfl, id⟩, ⟨rfl, id⟩, ⟨rfl, id⟩, trivial⟩
        · try simp at hc2
          have hcn : cn = orAll (keep s (ix fr k).toNat) := by rw [hI1.1, show k1 = (keep s (ix fr k).toNat).length by rw [← hha]; omega, List.take_length]
          refine ex (xt_ (xt_ (xb (th (sq (rg (bsE (enc := intE) (xs := [(-1)]) (css := [[int (-1)]]) T.mk28 ⟨rfl, rfl, p1 (φ := int (-1)) rfl, trivial⟩ rfl rfl rfl rfl (fP rfl T.fld25_0 (lP rfl rfl rfl T.one22 (fc (slenI 74 rfl) fun hm74 => (lnF rfl T.sl22 (cl (prog8.Repeat_ok s.actions.length (by omega)) T.ent63 trivial fun N76 v76 => (al (key := 14) T.z28 (ex_cons (ex_nil)) fun b14 => (storePO rfl rfl rfl rfl T.one28 rfl (nl (th (sq (sq (rg (mv (cal0 (φs := [int cn]) (φ := clo 115 [fp [int cn]]) ⟨rfl, trivial⟩ (prog3.In_ok cn) T.ent95 (nl (th (bk ?_))))))))))))))))))))))))
          have hR1 : (List.replicate s.actions.length (-1)) = nxL s (ix fr k) 0 := by
            exact nxL_zero _ _
          refine rf (κ := (List Int)) 901 (fun p => [(1, cell b1 [sl 1 strE s.actions, sl 2 stateE s.states]), (2, cell b2 [eqv (.slice none 0 0), eqv (.slice none 0 0)]), (4, cell b4 [sl 1 strE s.actions, osl 40 u40]), (5, cell b5 [osl 50 u50]), (6, cell b6 [osl 23 v23]), (10, cell b10 [int (ix fr k)]), (14, cell b14 [osl 30 v76]), (23, own v23 3 1 intE at_), (30, own v76 3 1 intE p), (40, own u40 69 2 stateE sts2), (50, own u50 3 1 intE fr)]) (fun iR p => p = nxL s (ix fr k) iR) (fun c p => False) rfl (InIt cn (by omega) (by omega)) T.ent115 rfl (fun _ => rfl) (fun _ => rfl) (List.replicate s.actions.length (-1)) hR1 ⟨⟨rfl, id⟩, ⟨rfl, id⟩, ⟨rfl, id⟩, ⟨rfl, id⟩, ⟨rfl, id⟩, ⟨rfl, id⟩, ⟨rfl, id⟩, ⟨rfl, id⟩, ⟨rfl, id⟩, ⟨rfl, id⟩, ⟨rfl, id⟩, trivial⟩ ?_ ?_ (fun k h => h.elim) (fun id k h => h.elim) (fun c k h => h.elim)
          · intro m1 nx x1 hG1 hx1 l R w1 M1 F1 hRd
            have hR1 : nx = nxL s (ix fr k) m1 := hG1
            obtain ⟨a, rfl, ha63, hha2⟩ := listOf_get hx1
            rw [hcn] at hx1 hha2
            have hgo := can_go hs hxn hha2
            have hnl : nx.length = s.actions.length := by rw [hR1]; simp [nxL]
            refine rg (ag (nl (aq hRd rfl (bk (dr (nh := 15) [0, 0, 0, 0, 8, 0, 56, 120, 248, 0, 1016, 2040, 4092, 8188, 16383, 32767] T.mixed (by kernel_rfl) ?_)))))
            refine st_ rfl (fun _ _ _ gq kq => lP (gq.1.trans rfl) rfl rfl T.one28 kq) ?_
            refine st_ rfl (fun _ _ _ gq kq => mv' (gq.1.trans rfl) kq) ?_
            refine st_ rfl (fun _ _ _ gq kq => lP (gq.1.trans rfl) rfl rfl T.one28 kq) ?_
            refine st_ rfl (fun _ _ _ gq kq => fP (gq.1.trans rfl) T.fld25_1 kq) ?_
            refine st_ rfl (fun _ _ _ gq kq => lP (gq.1.trans rfl) rfl rfl T.one23 kq) ?_
            refine st_ rfl (fun _ _ _ gq kq => lP (gq.1.trans rfl) rfl rfl T.one3 kq) ?_
            refine st_ rfl (fun _ _ _ gq kq => iF (gq.1.trans rfl) (gq.2.1.trans rfl) T.sl23 (by omega) (by first | exact gN (by omega) | exact gI (by omega) (by omega)) kq) ?_
            refine st_ rfl (fun _ _ _ gq kq => fF (gq.1.trans rfl) T.fld69_1 kq) ?_
            refine st_ rfl (fun _ _ _ gq kq => lF (gq.1.trans rfl) rfl T.one28 kq) ?_
            refine st_ rfl (fun _ _ _ gq kq => mv' (gq.1.trans rfl) kq) ?_
            refine st_ rfl (fun _ _ _ gq kq => iF (gq.1.trans rfl) (gq.2.1.trans rfl) T.sl28 (by omega) (by first | exact gN (by omega) | exact gI (by omega) (by omega)) kq) ?_
            refine st_ rfl (fun _ _ _ gq kq => lF (gq.1.trans rfl) rfl T.one3 kq) ?_
            refine st_ rfl (fun _ _ _ gq kq => iO (gq.1.trans rfl) rfl (gq.2.1.trans rfl) T.sl28 (by omega) (by omega) kq) ?_
            refine st_ rfl (fun _ _ _ gq kq => lO (gq.1.trans rfl) rfl (by first | exact gN (by omega) | exact gI (by omega) (by omega)) rfl T.one3 kq) ?_
            refine st_ rfl (fun _ _ _ gq kq => iO (gq.1.trans rfl) rfl (gq.2.1.trans rfl) T.sl28 (by omega) (by omega) kq) ?_
            refine pn (sO (φ := int (ix at_ ((ix ((ix s.states ((ix fr k).toNat)).next) a).toNat))) rfl rfl rfl T.one3 (by first | exact gN (by omega) | exact gI (by omega) (by omega)) rfl (y' := (ix at_ ((ix ((ix s.states ((ix fr k).toNat)).next) a).toNat))) rfl (nl (eb ?_)))
            have hN0 : (nx.set a (ix at_ ((ix ((ix s.states ((ix fr k).toNat)).next) a).toNat))) = nxL s (ix fr k) (m1 + 1) := by
              rw [← nxL_succ hx1 (by omega), ← hR1, hat, atL_ix (by omega), Int.toNat_of_nonneg hgo.2.1]
            exact rqN (nx.set a (ix at_ ((ix ((ix s.states ((ix fr k).toNat)).next) a).toNat))) hN0 ⟨⟨rfl, id⟩, ⟨rfl, id⟩, ⟨rfl, id⟩, ⟨rfl, id⟩, ⟨rfl, id⟩, ⟨rfl, id⟩, ⟨rfl, id⟩, ⟨rfl, id⟩, ⟨rfl, id⟩, ⟨rfl, id⟩, ⟨rfl, id⟩, ⟨rfl, id⟩, trivial⟩
          · intro nx hG1
            have hR1 : nx = nxL s (ix fr k) ((listOf 63 cn).length) := hG1
            refine eb (th (rg (fP rfl T.fld25_1 (lP rfl rfl rfl T.one23 (mv (lP rfl rfl rfl T.one28 (iO rfl rfl rfl T.sl23 (by omega) (by omega) (fO rfl T.fld69_1 (fz 30 98 rfl rfl (sO (φ := sl 1 intE nx) rfl rfl rfl T.one28 (gN (by omega)) rfl (y' := ⟨(ix sts2 k).accept, nx⟩) rfl (nl (eb (th (rg (bi rfl rfl (b_add (by unfold I64; omega)) (mv (nl ?_)))))))))))))))))
            have hN0 : (k + 1) ≤ fr.length := by
              first | omega | simp_all
            have hN1 : (sts2.set k (⟨(ix sts2 k).accept, nx⟩)) = outs s (k + 1) := by
              rw [hcn, nxL_end hs] at hR1
              rw [← outs_succ hkl, ← hI0, hR1, hha]
              rw [show ix fr k = ix (ordS s) k by rw [hfr]]
              rfl
            exact ln (⟨k + 1, sts2.set k (⟨(ix sts2 k).accept, nx⟩)⟩ : Nat × (List SState)) ⟨hN0, hN1⟩ (by first | omega | (dsimp only; omega)) ⟨id, id, id, id, id, id, id, id, id, trivial⟩ ⟨⟨rfl, id⟩, ⟨rfl, id⟩, ⟨rfl, id⟩, ⟨rfl, id⟩, ⟨rfl, id⟩, ⟨rfl, id⟩, ⟨rfl, id⟩, ⟨rfl, id⟩, trivial⟩
      · try simp at hc1
        refine ex (xt_ (xt_ (xb (th (sq (fzcC 4 40 1 rfl rfl rfl rfl (fzcC 5 50 0 rfl rfl rfl rfl ?_)))))))
        refine drH (nh := 4) [0, 0, 1, 7] [(none, [4]), (none, [5]), (some 2, [2]), (none, [])] T.mixed (by kernel_rfl) (by kernel_rfl) ?_
        refine stv (d := 102) (fun β0 => agg [sl 1 strE s.actions, sl 2 stateE sts2]) [4] rfl (fun β β' hb => rfl) (fun β0 _ _ _ _ gq gh kq => lPA (gq.1.trans rfl) (gh.1.trans rfl) T.agg25 rfl kq) ?_
        refine stv (d := 103) (fun β0 => sl 1 intE fr) [5] rfl (fun β β' hb => rfl) (fun β0 _ _ _ _ gq gh kq => lP (gq.1.trans rfl) (gh.1.trans rfl) rfl T.one28 kq) ?_
        refine stw 2 (fun β0 => cell b2 [sl 1 strE s.actions, sl 2 stateE sts2]) [2] rfl (fun β β' hb => rfl) (fun β0 _ _ _ _ gq gh kq => sPA (cs' := [sl 1 strE s.actions, sl 2 stateE sts2]) (gq.1.trans rfl) (gh.1.trans rfl) (gq.2.1.trans rfl) T.agg25 rfl rfl kq) ?_
        refine stv (d := 3) (fun β0 => sl 1 intE fr) [] rfl (fun β β' hb => rfl) (fun β0 _ _ _ _ gq gh kq => ag' (gq.1.trans rfl) kq) ?_
        refine pnH fun β0 => (nl (th (rt ?_)))
        have hr0 : s.actions = (((trimS s).1).actions) := by
          rw [trimmed_not h00]
        have hr1 : sts2 = (((trimS s).1).states) := by
          rw [trimmed_not h00, hI0, show k = (ordS s).length by omega, outs_end]
        have hr2 : fr = ((trimS s).2) := by
          rw [trimmed_not h00, hfr]
        have hall : ∀ x0 x1 x2, s.actions = x0 → sts2 = x1 → fr = x2 → resAV [agg [sl 1 strE s.actions, sl 2 stateE sts2], sl 1 intE fr] = resAV [agg [sl 1 strE x0, sl 2 stateE x1], sl 1 intE x2] := by rintro _ _ _ rfl rfl rfl; rfl
        exact rE () [.cell 2 25, .tmp 3] rfl [agg [sl 1 strE s.actions, sl 2 stateE sts2], sl 1 intE fr] ⟨.agg rfl rfl T.agg25 rfl rfl, .tmp rfl, trivial⟩ (hall _ _ _ hr0 hr1 hr2) trivial (by first | exact .inr rfl | exact .inl rfl)
end prog9
end Go.Proofs.YtolpjmllmlahfaaDoor
