/- Walks of the functions of this claim, printed by a program of its own out of annotations. -/
import Derived.Test.YtolpjmllmlahfaaDoorprog11
import Derived.Test.YtolpjmllmlahfaaDoorMergeM
namespace Go.Proofs.YtolpjmllmlahfaaDoor
open AL Go
set_option maxRecDepth 100000
set_option linter.all false

open ref01 ref03 ref04 ref06 prog prog2 prog3 prog4 prog5 prog6 prog7 prog8 prog9 prog10 prog11 Part Rungs LeftM TrimM Itoa Keys RoundM MergeM

namespace prog12
namespace T
theorem map164 : MapT Tryd.prog 164 9 3 smE smD := mapT_str (by kernel_rfl) (by kernel_rfl)
theorem zv3 : ∀ w F, ∃ u, (zeroValue 3).run Tryd.prog w = .ok u w ∧ (int 0).p w F u := zeroV_of (v := .int .i64 0) (by kernel_rfl) _ (fun _ _ => eqv_rfl)
theorem ent119 : Ent Tryd.prog 119 := ent_of (by kernel_rfl)
theorem ent92 : Ent Tryd.prog 92 := ent_of (by kernel_rfl)
theorem ent94 : Ent Tryd.prog 94 := ent_of (by kernel_rfl)
theorem sl28 : IsSlice Tryd.prog 28 3 1 := isSlice_of (by kernel_rfl)
theorem mk28 : MakeT Tryd.prog 28 3 1 8 [.int .i64 0] := makeT_of (by kernel_rfl) (by kernel_rfl)
theorem z25 : ZeroIs Tryd.prog 25 [.slice none 0 0, .slice none 0 0] := zeroIs_of (by kernel_rfl)
theorem fld25_1 : FieldAt Tryd.prog 25 1 1 := fieldAt_of (by kernel_rfl)
theorem one23 : IsOne Tryd.prog 23 := isOne_of (by kernel_rfl)
theorem sl23 : IsSlice Tryd.prog 23 69 2 := isSlice_of (by kernel_rfl)
theorem ent63 : Ent Tryd.prog 63 := ent_of (by kernel_rfl)
theorem agg25 : IsAgg Tryd.prog 25 2 := isAgg_of (by kernel_rfl)
theorem ent64 : Ent Tryd.prog 64 := ent_of (by kernel_rfl)
theorem ent40 : Ent Tryd.prog 40 := ent_of (by kernel_rfl)
theorem fld25_0 : FieldAt Tryd.prog 25 0 0 := fieldAt_of (by kernel_rfl)
theorem one22 : IsOne Tryd.prog 22 := isOne_of (by kernel_rfl)
theorem st25 : StructT Tryd.prog 25 [(0, 1), (1, 1)] [.slice none 0 0, .slice none 0 0] := structT_of (by kernel_rfl) (by kernel_rfl)
theorem agg69 : IsAgg Tryd.prog 69 2 := isAgg_of (by kernel_rfl)
theorem z69 : ZeroIs Tryd.prog 69 [.slice none 0 0, .slice none 0 0] := zeroIs_of (by kernel_rfl)
theorem mixed : Tryd.prog.follows .mixedOrders = true := by kernel_rfl
theorem one3 : IsOne Tryd.prog 3 := isOne_of (by kernel_rfl)
theorem fld69_0 : FieldAt Tryd.prog 69 0 0 := fieldAt_of (by kernel_rfl)
theorem one28 : IsOne Tryd.prog 28 := isOne_of (by kernel_rfl)
theorem ent65 : Ent Tryd.prog 65 := ent_of (by kernel_rfl)
theorem fld69_1 : FieldAt Tryd.prog 69 1 1 := fieldAt_of (by kernel_rfl)
theorem st69 : StructT Tryd.prog 69 [(0, 1), (1, 1)] [.slice none 0 0, .slice none 0 0] := structT_of (by kernel_rfl) (by kernel_rfl)
theorem mk23 : MakeT Tryd.prog 23 69 2 48 [.slice none 0 0, .slice none 0 0] := makeT_of (by kernel_rfl) (by kernel_rfl)
end T

theorem CloneO_ok (l : List Int) (hl : l.length ≤ 1000000) :
    AL.Fn Tryd.prog 65 [ints l] [] (fun _ v => osl 5 v) (fun v => [(5, own v 3 1 intE l)]) := by
  refine fnI Tryd.func65 rfl rfl (fun w0 F0 => ?_)
  refine fcC (slenI 0 rfl) (fun hm0 => ?_)
  refine sq (rg (ag (nl (th (sq (sq (rg (mv (nilF rfl T.sl28.und fun nb4 hnb4 => (nl (th ?_)))))))))))
  refine cd rfl (fun hc0 => ?_) (fun hc0 => ?_)
  · try simp at hc0
    refine sq (rg (ag (nl (th (rt (rt_ ?_))))))
    refine nwA 5 3 1 intE ?_
    refine knA 2 (osl 5 (.slice none 0 0)) rfl eq_osl ?_
    have hl0 : l = [] := hnb4 hc0
    subst hl0
    exact rE (.slice none 0 0) [.tmp 2] rfl [osl 5 (.slice none 0 0)] ⟨.tmp rfl, trivial⟩ rfl ⟨⟨rfl, id⟩, trivial⟩ (.inr rfl)
  · try simp at hc0
    refine sk (th (sq (rg (bs0 5 intE T.mk28 fun v5 => (mv (ap (key := 5) (zs := l) osl_eq rfl rfl rfl T.mk28 (by unfold maxL at *; simp; omega) (by unfold maxL at *; simp; omega) fun v7 => (ag (nl (th (rt ?_))))))))))
    exact rE v7 [.tmp 2] rfl [osl 5 v7] ⟨.tmp rfl, trivial⟩ (rfl) ⟨⟨rfl, id⟩, trivial⟩ (by first | exact .inr rfl | exact .inl rfl)

theorem Merged_ok (s : SSpec) (hs : okSpec s) :
    Fn0 Tryd.prog 41 [tabbed (spec s)] (tup [spec (leastR s).1, ints (leastR s).2]) := by
  refine fnI Tryd.func41 rfl rfl (fun w0 F0 => ?_)
  have hf0 := hs.few0; have hf1 := hs.few1; have hn8 := hs.n8; have hop := ordS_pos s; have hol := ord_le hs
  refine tbI 0 9999 rfl ?_
  refine fcC (inhS 0 rfl) (fun hS0 => ?_)
  obtain ⟨hsa0, hss0, hse0⟩ := spec_lens hS0
  refine sq (rg (bx (key := 1) (cs := [sl 1 strE s.actions, sl 2 stateE s.states]) rfl fun b1 => (al (key := 2) T.z25 (ex_cons (ex_cons (ex_nil))) fun b2 => (ag (nl (th (sq (rg (bsE (enc := intE) (xs := [(-1)]) (css := [[int (-1)]]) T.mk28 ⟨rfl, rfl, p1 (φ := int (-1)) rfl, trivial⟩ rfl rfl rfl rfl (fP rfl T.fld25_1 (lP rfl rfl rfl T.one23 (fc (slenI 18 rfl) fun hm18 => (lnF rfl T.sl23 (cl (prog8.Repeat_ok s.states.length (by omega)) T.ent63 trivial fun N20 v20 => (ag (nl (th (sq (rg (lPA rfl rfl T.agg25 rfl (cal0 (φs := [agg [sl 1 strE s.actions, sl 2 stateE s.states]]) (φ := tup [agg [sl 1 strE (((trimS s).1).actions), sl 2 stateE (((trimS s).1).states)], sl 1 intE ((trimS s).2)]) ⟨rfl, trivial⟩ (prog9.Trimmed_ok s (by assumption)) T.ent64 (mv (xt rfl rfl (xt rfl rfl (al (key := 5) T.z25 (ex_cons (ex_cons (ex_nil))) fun b5 => (sPA (cs' := [sl 1 strE (((trimS s).1).actions), sl 2 stateE (((trimS s).1).states)]) rfl rfl rfl T.agg25 rfl rfl (ag (nl (th (sq (sq (rg (mv (fc (slenI 26 rfl) fun hm26 => (lnF rfl T.sl28 (bi rfl rfl b_eql (nl (th ?_))))))))))))))))))))))))))))))))))))))
  refine cd rfl (fun hc0 => ?_) (fun hc0 => ?_)
  · try simp at hc0
    have hh0 : ix (hollow s) 0 = true := by
      cases h : ix (hollow s) 0 with
      | true => rfl
      | false =>
        exfalso
        rw [trimmed_not h] at hc0
        have h3 := hop
        rw [show ordS s = [] from hc0] at h3
        simp at h3
    refine sq (rg (lPA rfl rfl T.agg25 rfl (mv (sPA (cs' := [sl 1 strE (((trimS s).1).actions), sl 2 stateE (((trimS s).1).states)]) rfl rfl rfl T.agg25 rfl rfl (ag (nl (th (rt (rt_ ?_)))))))))
    refine fzA 30 3 rfl rfl ?_
    have hr0 : (((trimS s).1).actions) = (((leastR s).1).actions) := by
      rw [← merged_eq hs, merged_hol hh0, trimmed_hol hh0]
    have hr1 : (((trimS s).1).states) = (((leastR s).1).states) := by
      rw [← merged_eq hs, merged_hol hh0, trimmed_hol hh0]
    have hr2 : (List.replicate s.states.length (-1)) = ((leastR s).2) := by
      rw [← merged_eq hs, merged_hol hh0]
    have hall : ∀ x0 x1 x2, (((trimS s).1).actions) = x0 → (((trimS s).1).states) = x1 → (List.replicate s.states.length (-1)) = x2 → resAV [agg [sl 1 strE (((trimS s).1).actions), sl 2 stateE (((trimS s).1).states)], sl 1 intE (List.replicate s.states.length (-1))] = resAV [agg [sl 1 strE x0, sl 2 stateE x1], sl 1 intE x2] := by rintro _ _ _ rfl rfl rfl; rfl
    exact rE () [.cell 2 25, .tmp 3] rfl [agg [sl 1 strE (((trimS s).1).actions), sl 2 stateE (((trimS s).1).states)], sl 1 intE (List.replicate s.states.length (-1))] ⟨.agg rfl rfl T.agg25 rfl rfl, .tmp rfl, trivial⟩ (hall _ _ _ hr0 hr1 hr2) trivial (by first | exact .inr rfl | exact .inl rfl)
  · try simp at hc0
    have h00 : ix (hollow s) 0 = false := by
      cases h : ix (hollow s) 0 with
      | false => rfl
      | true => exact absurd (by rw [trimmed_hol h]) hc0
    have hts : (trimS s).1 = tS s := by rw [trimmed_not h00]
    have htf : (trimS s).2 = ordS s := by rw [trimmed_not h00]
    have hto : okSpec (trimS s).1 := by rw [hts]; exact tS_ok hs
    have hN : (trimS s).1.states.length = (ordS s).length := by rw [hts]; exact tS_len s
    have hNf : (trimS s).2.length = (ordS s).length := by rw [htf]
    have hcll := classes_len (trimS s).1
    refine sk (th (sq (rg (lPA rfl rfl T.agg25 rfl (tbU (ψ := tab) 31 9999 rfl rfl (cal0 (φs := [both (agg [sl 1 strE (((trimS s).1).actions), sl 2 stateE (((trimS s).1).states)]) tab]) (φ := sl 1 intE (classesR ((trimS s).1))) ⟨rfl, trivial⟩ (prog11.Of_ok ((trimS s).1) (by assumption)) T.ent40 (ag (nl (th (sq (rg (fP rfl T.fld25_0 (lP rfl rfl rfl T.one22 (bd (css := [(0, _)]) T.st25 (ex_cons (ex_cons (ex_nil))) ⟨rfl, rfl, p1 (φ := sl 1 strE (((trimS s).1).actions)) rfl, trivial⟩ (al (key := 8) T.z25 (ex_cons (ex_cons (ex_nil))) fun b8 => (sPA (cs' := [sl 1 strE (((trimS s).1).actions), eqv (.slice none 0 0)]) rfl rfl rfl T.agg25 rfl rfl (nl (th (sq (sq (rg (nw 80 69 2 stateE (knc 8 1 (osl 80 (.slice none 0 0)) rfl rfl eq_osl (fP rfl T.fld25_1 (lP rfl rfl rfl T.one23 (fc (slenI 37 rfl) fun hm37 => (lnF rfl T.sl23 (mv (nl (th (bk ?_)))))))))))))))))))))))))))))))
    have hI0_0 : 0 ≤ (((trimS s).1).states).length := by
      first | omega | simp
    have hI0_1 : ([] : List SState) = mout (classesR (trimS s).1) (trimS s).1.states 0 := by
      rfl
    refine lp (κ := Nat × Value × (List SState)) (fun p => [(2, ptr 2 b2 0), (3, eqv (.slice none 0 0)), (4, osl 30 v20), (6, sl 1 intE ((trimS s).2)), (7, sl 1 intE (classesR ((trimS s).1))), (8, ptr 8 b8 0), (37, sl 2 stateE (((trimS s).1).states)), (38, int ((((trimS s).1).states).length : Int)), (39, int (p.1 : Int)), (9999, tab)]) (fun p => [(1, cell b1 [sl 1 strE s.actions, sl 2 stateE s.states]), (2, cell b2 [eqv (.slice none 0 0), eqv (.slice none 0 0)]), (5, cell b5 [sl 1 strE (((trimS s).1).actions), sl 2 stateE (((trimS s).1).states)]), (8, cell b8 [sl 1 strE ((trimS s).1.actions), osl 80 p.2.1]), (30, own v20 3 1 intE (List.replicate s.states.length (-1))), (80, own p.2.1 69 2 stateE p.2.2)]) (fun p => (p.1 ≤ (((trimS s).1).states).length) ∧ (p.2.2 = mout (classesR (trimS s).1) (trimS s).1.states p.1)) (fun p => (((trimS s).1).states).length - p.1) ⟨0, (.slice none 0 0), ([] : List SState)⟩ ⟨hI0_0, hI0_1⟩ ⟨id, id, id, id, id, id, id, id, id, id, trivial⟩ ⟨⟨rfl, id⟩, ⟨rfl, id⟩, ⟨rfl, id⟩, ⟨rfl, id⟩, ⟨rfl, id⟩, ⟨rfl, id⟩, trivial⟩ ?_
    intro ⟨k, u8, acc⟩ hG0
    obtain ⟨hk0, hI0⟩ : (k ≤ (((trimS s).1).states).length) ∧ (acc = mout (classesR (trimS s).1) (trimS s).1.states k) := hG0
    show Ct _ _ _ _ [(2, ptr 2 b2 0), (3, eqv (.slice none 0 0)), (4, osl 30 v20), (6, sl 1 intE ((trimS s).2)), (7, sl 1 intE (classesR ((trimS s).1))), (8, ptr 8 b8 0), (37, sl 2 stateE (((trimS s).1).states)), (38, int ((((trimS s).1).states).length : Int)), (39, int (k : Int)), (9999, tab)] [(1, cell b1 [sl 1 strE s.actions, sl 2 stateE s.states]), (2, cell b2 [eqv (.slice none 0 0), eqv (.slice none 0 0)]), (5, cell b5 [sl 1 strE (((trimS s).1).actions), sl 2 stateE (((trimS s).1).states)]), (8, cell b8 [sl 1 strE ((trimS s).1.actions), osl 80 u8]), (30, own v20 3 1 intE (List.replicate s.states.length (-1))), (80, own u8 69 2 stateE acc)] _
    have hacl : acc.length ≤ k := by rw [hI0]; exact mout_len _ _ _
    refine sq (rg (bi rfl rfl b_lss (nl (th (sq ?_)))))
    refine cd rfl (fun hc1 => ?_) (fun hc1 => ?_)
    · try simp at hc1
      have hkN : k < (trimS s).1.states.length := by omega
      have hst := hto.st k hkN
      have hstl := hst.len
      have hsta := hst.acl
      have ht8 := hto.n8
      refine sk (th (sq (bk (sq (rg (mv (iF rfl rfl T.sl23 (by omega) (by first | exact gN (by omega) | exact gI (by omega) (by omega)) (lFA rfl T.agg69 (Nat.le_of_ble_eq_true rfl) (al (key := 10) T.z69 (ex_cons (ex_cons (ex_nil))) fun b10 => (ag (sPA (cs' := [sl 1 intE ((ix (((trimS s).1).states) k).accept), sl 1 intE ((ix (((trimS s).1).states) k).next)]) rfl rfl rfl T.agg69 rfl rfl (nl (th (sq (dr (nh := 8) [0, 0, 3, 7, 0, 16, 48, 127] T.mixed (by kernel_rfl) ?_)))))))))))))))
      refine st_ rfl (fun _ _ _ gq kq => mv' (gq.1.trans rfl) kq) ?_
      refine st_ rfl (fun _ _ _ gq kq => mv' (gq.1.trans rfl) kq) ?_
      refine st_ rfl (fun _ _ _ gq kq => iF (gq.1.trans rfl) (gq.2.1.trans rfl) T.sl28 (by omega) (gN (by omega)) kq) ?_
      refine st_ rfl (fun _ _ _ gq kq => lF (gq.1.trans rfl) rfl T.one3 kq) ?_
      refine st_ rfl (fun _ _ _ gq kq => fP (gq.1.trans rfl) T.fld25_1 kq) ?_
      refine st_ rfl (fun _ _ _ gq kq => lP (gq.1.trans rfl) rfl rfl T.one23 kq) ?_
      refine st_ rfl (fun _ _ _ gq kq => lnO (gq.1.trans rfl) rfl T.sl23 kq) ?_
      refine st_ rfl (fun _ _ _ gq kq => bi (gq.1.trans rfl) (gq.2.1.trans rfl) b_eql kq) ?_
      refine pn (nl (th ?_))
      refine cd rfl (fun hc2 => ?_) (fun hc2 => ?_)
      · try simp at hc2
        refine sq ?_
        refine drH (nh := 9) [0, 1, 3, 0, 8, 31, 63, 0, 255] [(none, []), (none, [10]), (none, []), (none, []), (none, [10]), (some 57, []), (none, []), (some 11, []), (some 11, [11])] T.mixed (by kernel_rfl) (by kernel_rfl) ?_
        refine stv (d := 52) (fun β0 => ptr 10 b10 0) [] rfl (fun β β' hb => rfl) (fun β0 _ _ _ _ gq gh kq => fP (gq.1.trans rfl) T.fld69_0 kq) ?_
        refine stv (d := 53) (fun β0 => sl 1 intE ((ix (((trimS s).1).states) k).accept)) [10] rfl (fun β β' hb => rfl) (fun β0 _ _ _ _ gq gh kq => lP (gq.1.trans rfl) (gh.1.trans rfl) rfl T.one28 kq) ?_
        refine stv (d := 54) (fun β0 => sl 1 intE ((ix (((trimS s).1).states) k).accept)) [] rfl (fun β β' hb => rfl) (fun β0 _ _ _ _ gq gh kq => cal0 (φs := [sl 1 intE ((ix (((trimS s).1).states) k).accept)]) (φ := sl 1 intE ((ix (((trimS s).1).states) k).accept)) ⟨(gq.1.trans rfl), trivial⟩ (prog.sCloneintE_ok _ (by omega)) T.ent65 kq) ?_
        refine stv (d := 55) (fun β0 => ptr 10 b10 1) [] rfl (fun β β' hb => rfl) (fun β0 _ _ _ _ gq gh kq => fP (gq.1.trans rfl) T.fld69_1 kq) ?_
        refine stv (d := 56) (fun β0 => sl 1 intE ((ix (((trimS s).1).states) k).next)) [10] rfl (fun β β' hb => rfl) (fun β0 _ _ _ _ gq gh kq => lP (gq.1.trans rfl) (gh.1.trans rfl) rfl T.one28 kq) ?_
        refine stc (d := 57) (e := 3) (n := 1) (enc := intE) (xs := (ix (trimS s).1.states k).next) 57 [] rfl (fun β0 _ _ _ _ gq gh kq => cal (φs := [sl 1 intE ((ix (((trimS s).1).states) k).next)]) (Hi := []) ⟨(gq.1.trans rfl), trivial⟩ (rekey 57 (CloneO_ok (ix (trimS s).1.states k).next (by omega))) T.ent65 trivial fun N v => kq v) ?_
        refine stv (d := 58) (fun β0 => agg [sl 1 intE ((ix (((trimS s).1).states) k).accept), osl 57 (sv (β0 5))]) [] rfl (fun β β' hb => by first | rw [hb 5 rfl] | (dsimp only; rw [hb 5 rfl])) (fun β0 _ _ _ _ gq gh kq => bd (css := [(0, _), (1, _)]) T.st69 (ex_cons (ex_cons (ex_nil))) ⟨rfl, rfl, p1 (φ := sl 1 intE ((ix (((trimS s).1).states) k).accept)) (by exact (gq.1.trans rfl)), ⟨rfl, rfl, p1 (φ := osl 57 (sv (β0 5))) (by exact (gq.2.1.trans rfl)), trivial⟩⟩ kq) ?_
        refine sta 11 T.z69 (ex_cons (ex_cons (ex_nil))) ?_
        refine stw 11 (fun β0 => cell (gbk (β0 7)) [sl 1 intE ((ix (((trimS s).1).states) k).accept), osl 57 (sv (β0 5))]) [11] rfl (fun β β' hb => by first | rw [hb 5 rfl, hb 7 rfl] | (dsimp only; rw [hb 5 rfl, hb 7 rfl])) (fun β0 _ _ _ _ gq gh kq => sPA (cs' := [sl 1 intE ((ix (((trimS s).1).states) k).accept), osl 57 (sv (β0 5))]) (gq.1.trans rfl) (gh.1.trans rfl) (gq.2.1.trans rfl) T.agg69 rfl rfl kq) ?_
        refine pnH fun β0 => (nl (th (sq (sq (rg (fP rfl T.fld69_1 (lP rfl rfl rfl T.one28 (lnO rfl rfl T.sl28 (mv (nl (th (bk ?_))))))))))))
        have hI1_0 : 0 ≤ (ix (trimS s).1.states k).next.length := by
          first | omega | simp
        have hI1_1 : ((ix (trimS s).1.states k).next) = ((ix (trimS s).1.states k).next.take 0).map (mapK (classesR (trimS s).1)) ++ (ix (trimS s).1.states k).next.drop 0 := by
          simp
        refine lp (κ := Nat × (List Int)) (fun p => [(2, ptr 2 b2 0), (3, eqv (.slice none 0 0)), (4, osl 30 v20), (6, sl 1 intE ((trimS s).2)), (7, sl 1 intE (classesR ((trimS s).1))), (8, ptr 8 b8 0), (11, ptr 11 (gbk (β0 7)) 0), (37, sl 2 stateE (((trimS s).1).states)), (38, int ((((trimS s).1).states).length : Int)), (39, int (k : Int)), (60, osl 57 (sv (β0 5))), (61, int (((ix (trimS s).1.states k).next).length : Int)), (62, int (p.1 : Int)), (9999, tab)]) (fun p => [(1, cell b1 [sl 1 strE s.actions, sl 2 stateE s.states]), (2, cell b2 [eqv (.slice none 0 0), eqv (.slice none 0 0)]), (5, cell b5 [sl 1 strE (((trimS s).1).actions), sl 2 stateE (((trimS s).1).states)]), (8, cell b8 [sl 1 strE ((trimS s).1.actions), osl 80 u8]), (10, cell b10 [sl 1 intE ((ix (((trimS s).1).states) k).accept), sl 1 intE ((ix (((trimS s).1).states) k).next)]), (11, cell (gbk (β0 7)) [sl 1 intE ((ix (((trimS s).1).states) k).accept), osl 57 (sv (β0 5))]), (30, own v20 3 1 intE (List.replicate s.states.length (-1))), (57, own (sv (β0 5)) 3 1 intE p.2), (80, own u8 69 2 stateE acc)]) (fun p => (p.1 ≤ (ix (trimS s).1.states k).next.length) ∧ (p.2 = ((ix (trimS s).1.states k).next.take p.1).map (mapK (classesR (trimS s).1)) ++ (ix (trimS s).1.states k).next.drop p.1)) (fun p => (ix (trimS s).1.states k).next.length - p.1) ⟨0, (ix (trimS s).1.states k).next⟩ ⟨hI1_0, hI1_1⟩ ⟨id, id, id, id, id, id, id, id, id, id, id, id, id, id, trivial⟩ ⟨⟨rfl, id⟩, ⟨rfl, id⟩, ⟨rfl, id⟩, ⟨rfl, id⟩, ⟨rfl, id⟩, ⟨rfl, id⟩, ⟨rfl, id⟩, ⟨rfl, id⟩, ⟨rfl, id⟩, trivial⟩ ?_
        intro ⟨k1, nx⟩ hG1
        obtain ⟨hk1, hI1⟩ : (k1 ≤ (ix (trimS s).1.states k).next.length) ∧ (nx = ((ix (trimS s).1.states k).next.take k1).map (mapK (classesR (trimS s).1)) ++ (ix (trimS s).1.states k).next.drop k1) := hG1
        show Ct _ _ _ _ [(2, ptr 2 b2 0), (3, eqv (.slice none 0 0)), (4, osl 30 v20), (6, sl 1 intE ((trimS s).2)), (7, sl 1 intE (classesR ((trimS s).1))), (8, ptr 8 b8 0), (11, ptr 11 (gbk (β0 7)) 0), (37, sl 2 stateE (((trimS s).1).states)), (38, int ((((trimS s).1).states).length : Int)), (39, int (k : Int)), (60, osl 57 (sv (β0 5))), (61, int (((ix (trimS s).1.states k).next).length : Int)), (62, int (k1 : Int)), (9999, tab)] [(1, cell b1 [sl 1 strE s.actions, sl 2 stateE s.states]), (2, cell b2 [eqv (.slice none 0 0), eqv (.slice none 0 0)]), (5, cell b5 [sl 1 strE (((trimS s).1).actions), sl 2 stateE (((trimS s).1).states)]), (8, cell b8 [sl 1 strE ((trimS s).1.actions), osl 80 u8]), (10, cell b10 [sl 1 intE ((ix (((trimS s).1).states) k).accept), sl 1 intE ((ix (((trimS s).1).states) k).next)]), (11, cell (gbk (β0 7)) [sl 1 intE ((ix (((trimS s).1).states) k).accept), osl 57 (sv (β0 5))]), (30, own v20 3 1 intE (List.replicate s.states.length (-1))), (57, own (sv (β0 5)) 3 1 intE nx), (80, own u8 69 2 stateE acc)] _
        have hnl : nx.length = (ix (trimS s).1.states k).next.length := by rw [hI1]; simp; omega
        refine sq (rg (bi rfl rfl b_lss (nl (th (sq ?_)))))
        refine cd rfl (fun hc3 => ?_) (fun hc3 => ?_)
        · try simp at hc3
          have hv : ix nx k1 = ix (ix (trimS s).1.states k).next k1 := by rw [hI1]; exact mapdrop_ix (by omega)
          have hnb := hst.nx k1 (by omega)
          refine sk (th (sq (bk (sq (rg (mv (iO rfl rfl rfl T.sl28 (by omega) (by omega) (lO rfl rfl (by first | exact gN (by omega) | exact gI (by omega) (by omega)) rfl T.one3 (ag (ag (nl (th (sq (rg (mv (bi rfl rfl b_geq (nl (th ?_))))))))))))))))))
          refine cd rfl (fun hc4 => ?_) (fun hc4 => ?_)
          · try simp at hc4
            refine dr (nh := 8) [0, 1, 0, 0, 0, 24, 56, 127, 255] T.mixed (by kernel_rfl) ?_
            refine st_ rfl (fun _ _ _ gq kq => fP (gq.1.trans rfl) T.fld69_1 kq) ?_
            refine st_ rfl (fun _ _ _ gq kq => lP (gq.1.trans rfl) rfl rfl T.one28 kq) ?_
            refine st_ rfl (fun _ _ _ gq kq => mv' (gq.1.trans rfl) kq) ?_
            refine st_ rfl (fun _ _ _ gq kq => mv' (gq.1.trans rfl) kq) ?_
            refine st_ rfl (fun _ _ _ gq kq => mv' (gq.1.trans rfl) kq) ?_
            refine st_ rfl (fun _ _ _ gq kq => iF (gq.1.trans rfl) (gq.2.1.trans rfl) T.sl28 (by omega) (by first | exact gN (by omega) | exact gI (by omega) (by omega)) kq) ?_
            refine st_ rfl (fun _ _ _ gq kq => lF (gq.1.trans rfl) rfl T.one3 kq) ?_
            refine st_ rfl (fun _ _ _ gq kq => iO (gq.1.trans rfl) rfl (gq.2.1.trans rfl) T.sl28 (by omega) (by omega) kq) ?_
            refine pn (sO (φ := int (ix (classesR ((trimS s).1)) ((ix nx k1).toNat))) rfl rfl rfl T.one3 (gN (by omega)) rfl (y' := (ix (classesR ((trimS s).1)) ((ix nx k1).toNat))) rfl (nl (eb (th (rg (bi rfl rfl (b_add (by unfold I64; omega)) (mv (nl ?_))))))))
            have hN0 : (k1 + 1) ≤ (ix (trimS s).1.states k).next.length := by
              first | omega | simp_all
            have hN1 : (nx.set k1 (ix (classesR ((trimS s).1)) ((ix nx k1).toNat))) = ((ix (trimS s).1.states k).next.take (k1 + 1)).map (mapK (classesR (trimS s).1)) ++ (ix (trimS s).1.states k).next.drop (k1 + 1) := by
              rw [hI1, mapdrop_ix (by omega)]
              rw [← mapdrop_set (by omega)]
              congr 1
              unfold mapK
              rw [hv] at hc4
              rw [if_pos hc4]
            exact ln (⟨k1 + 1, nx.set k1 (ix (classesR ((trimS s).1)) ((ix nx k1).toNat))⟩ : Nat × (List Int)) ⟨hN0, hN1⟩ (by first | omega | (dsimp only; omega)) ⟨id, id, id, id, id, id, id, id, id, id, id, id, id, id, trivial⟩ ⟨⟨rfl, id⟩, ⟨rfl, id⟩, ⟨rfl, id⟩, ⟨rfl, id⟩, ⟨rfl, id⟩, ⟨rfl, id⟩, ⟨rfl, id⟩, ⟨rfl, id⟩, ⟨rfl, id⟩, trivial⟩
          · try simp at hc4
            refine sk (eb (th (rg (bi rfl rfl (b_add (by unfold I64; omega)) (mv (nl ?_))))))
            have hN0 : (k1 + 1) ≤ (ix (trimS s).1.states k).next.length := by
              first | omega | simp_all
            have hN1 : nx = ((ix (trimS s).1.states k).next.take (k1 + 1)).map (mapK (classesR (trimS s).1)) ++ (ix (trimS s).1.states k).next.drop (k1 + 1) := by
              rw [hI1]
              exact mapdrop_keep (by omega) (by unfold mapK; rw [hv] at hc4; rw [if_neg (by omega)])
            exact ln (⟨k1 + 1, nx⟩ : Nat × (List Int)) ⟨hN0, hN1⟩ (by first | omega | (dsimp only; omega)) ⟨id, id, id, id, id, id, id, id, id, id, id, id, id, id, trivial⟩ ⟨⟨rfl, id⟩, ⟨rfl, id⟩, ⟨rfl, id⟩, ⟨rfl, id⟩, ⟨rfl, id⟩, ⟨rfl, id⟩, ⟨rfl, id⟩, ⟨rfl, id⟩, ⟨rfl, id⟩, trivial⟩
        · try simp at hc3
          refine ex (xt_ (xt_ (xb (th (rg (fP rfl T.fld25_1 (lP rfl rfl rfl T.one23 (fzc 11 57 1 rfl rfl rfl rfl (lPA rfl rfl T.agg69 rfl (bsE (enc := stateE) (xs := [(⟨(ix (((trimS s).1).states) k).accept, nx⟩)]) (css := [[sl 1 intE ((ix (((trimS s).1).states) k).accept), sl 1 intE nx]]) T.mk23 ⟨rfl, rfl, pA (cs := [sl 1 intE ((ix (((trimS s).1).states) k).accept), sl 1 intE nx]) rfl, trivial⟩ rfl rfl rfl rfl (ap (key := 80) (zs := [(⟨(ix (((trimS s).1).states) k).accept, nx⟩)]) osl_eq rfl rfl rfl T.mk23 (by unfold maxL at *; simp; omega) (by unfold maxL at *; simp; omega) fun v82 => (fP rfl T.fld25_1 (storePO rfl rfl rfl rfl T.one23 rfl (nl (eb (th (rg (bi rfl rfl (b_add (by unfold I64; omega)) (mv (nl ?_))))))))))))))))))))
          have hN0 : (k + 1) ≤ (((trimS s).1).states).length := by
            first | omega | simp_all
          have hN1 : (acc ++ [(⟨(ix (((trimS s).1).states) k).accept, nx⟩)]) = mout (classesR (trimS s).1) (trimS s).1.states (k + 1) := by
            have hk1 : k1 = (ix (trimS s).1.states k).next.length := by omega
            rw [hk1, List.take_length, List.drop_length, List.append_nil] at hI1
            show _ = (if _ then _ else _ : List SState)
            rw [← hI0, if_pos hc2]
            unfold mst
            rw [hI1]
          exact ln (⟨k + 1, v82, acc ++ [(⟨(ix (((trimS s).1).states) k).accept, nx⟩)]⟩ : Nat × Value × (List SState)) ⟨hN0, hN1⟩ (by first | omega | (dsimp only; omega)) ⟨id, id, id, id, id, id, id, id, id, id, trivial⟩ ⟨⟨rfl, id⟩, ⟨rfl, id⟩, ⟨rfl, id⟩, ⟨rfl, id⟩, ⟨rfl, id⟩, ⟨rfl, id⟩, trivial⟩
      · try simp at hc2
        refine sk (eb (th (rg (bi rfl rfl (b_add (by unfold I64; omega)) (mv (nl ?_))))))
        have hN0 : (k + 1) ≤ (((trimS s).1).states).length := by
          first | omega | simp_all
        have hN1 : acc = mout (classesR (trimS s).1) (trimS s).1.states (k + 1) := by
          show _ = (if _ then _ else _ : List SState)
          rw [← hI0, if_neg hc2]
        exact ln (⟨k + 1, u8, acc⟩ : Nat × Value × (List SState)) ⟨hN0, hN1⟩ (by first | omega | (dsimp only; omega)) ⟨id, id, id, id, id, id, id, id, id, id, trivial⟩ ⟨⟨rfl, id⟩, ⟨rfl, id⟩, ⟨rfl, id⟩, ⟨rfl, id⟩, ⟨rfl, id⟩, ⟨rfl, id⟩, trivial⟩
    · try simp at hc1
      refine ex (xt_ (xt_ (xb (th (sq (sq (rg (mv (lnF rfl T.sl28 (mv (nl (th (bk ?_)))))))))))))
      have hI2_0 : 0 ≤ ((trimS s).2).length := by
        first | omega | simp
      have hI2_1 : (List.replicate s.states.length (-1)) = mat (classesR (trimS s).1) (trimS s).2 s.states.length 0 := by
        rfl
      refine lp (κ := Nat × (List Int)) (fun p => [(2, ptr 2 b2 0), (3, eqv (.slice none 0 0)), (4, osl 30 v20), (7, sl 1 intE (classesR ((trimS s).1))), (8, ptr 8 b8 0), (85, sl 1 intE ((trimS s).2)), (86, int (((trimS s).2).length : Int)), (87, int (p.1 : Int)), (9999, tab)]) (fun p => [(1, cell b1 [sl 1 strE s.actions, sl 2 stateE s.states]), (2, cell b2 [eqv (.slice none 0 0), eqv (.slice none 0 0)]), (5, cell b5 [sl 1 strE (((trimS s).1).actions), sl 2 stateE (((trimS s).1).states)]), (8, cell b8 [sl 1 strE ((trimS s).1.actions), osl 80 u8]), (30, own v20 3 1 intE p.2), (80, own u8 69 2 stateE acc)]) (fun p => (p.1 ≤ ((trimS s).2).length) ∧ (p.2 = mat (classesR (trimS s).1) (trimS s).2 s.states.length p.1)) (fun p => ((trimS s).2).length - p.1) ⟨0, List.replicate s.states.length (-1)⟩ ⟨hI2_0, hI2_1⟩ ⟨id, id, id, id, id, id, id, id, id, trivial⟩ ⟨⟨rfl, id⟩, ⟨rfl, id⟩, ⟨rfl, id⟩, ⟨rfl, id⟩, ⟨rfl, id⟩, ⟨rfl, id⟩, trivial⟩ ?_
      intro ⟨k2, tl⟩ hG2
      obtain ⟨hk2, hI2⟩ : (k2 ≤ ((trimS s).2).length) ∧ (tl = mat (classesR (trimS s).1) (trimS s).2 s.states.length k2) := hG2
      show Ct _ _ _ _ [(2, ptr 2 b2 0), (3, eqv (.slice none 0 0)), (4, osl 30 v20), (7, sl 1 intE (classesR ((trimS s).1))), (8, ptr 8 b8 0), (85, sl 1 intE ((trimS s).2)), (86, int (((trimS s).2).length : Int)), (87, int (k2 : Int)), (9999, tab)] [(1, cell b1 [sl 1 strE s.actions, sl 2 stateE s.states]), (2, cell b2 [eqv (.slice none 0 0), eqv (.slice none 0 0)]), (5, cell b5 [sl 1 strE (((trimS s).1).actions), sl 2 stateE (((trimS s).1).states)]), (8, cell b8 [sl 1 strE ((trimS s).1.actions), osl 80 u8]), (30, own v20 3 1 intE tl), (80, own u8 69 2 stateE acc)] _
      have htl : tl.length = s.states.length := by rw [hI2]; exact mat_len _ _ _ _
      refine sq (rg (bi rfl rfl b_lss (nl (th (sq ?_)))))
      refine cd rfl (fun hc5 => ?_) (fun hc5 => ?_)
      · try simp at hc5
        have hob : 0 ≤ ix (trimS s).2 k2 ∧ ix (trimS s).2 k2 < (s.states.length : Int) := by rw [htf]; exact ord_bd hs (by omega)
        refine sk (th (sq (bk (sq (rg (mv (iF rfl rfl T.sl28 (by omega) (by first | exact gN (by omega) | exact gI (by omega) (by omega)) (lF rfl rfl T.one3 (ag (ag (nl (th (rg (mv (mv (mv (mv (iF rfl rfl T.sl28 (by omega) (gN (by omega)) (lF rfl rfl T.one3 (iO rfl rfl rfl T.sl28 (by omega) (by omega) (sO (φ := int (ix (classesR ((trimS s).1)) k2)) rfl rfl rfl T.one3 (by first | exact gN (by omega) | exact gI (by omega) (by omega)) rfl (y' := (ix (classesR ((trimS s).1)) k2)) rfl (nl (eb (th (rg (bi rfl rfl (b_add (by unfold I64; omega)) (mv (nl ?_))))))))))))))))))))))))))))
        have hN0 : (k2 + 1) ≤ ((trimS s).2).length := by
          first | omega | simp_all
        have hN1 : (tl.set ((ix ((trimS s).2) k2).toNat) (ix (classesR ((trimS s).1)) k2)) = mat (classesR (trimS s).1) (trimS s).2 s.states.length (k2 + 1) := by
          rw [hI2]; rfl
        exact ln (⟨k2 + 1, tl.set ((ix ((trimS s).2) k2).toNat) (ix (classesR ((trimS s).1)) k2)⟩ : Nat × (List Int)) ⟨hN0, hN1⟩ (by first | omega | (dsimp only; omega)) ⟨id, id, id, id, id, id, id, id, id, trivial⟩ ⟨⟨rfl, id⟩, ⟨rfl, id⟩, ⟨rfl, id⟩, ⟨rfl, id⟩, ⟨rfl, id⟩, ⟨rfl, id⟩, trivial⟩
      · try simp at hc5
        refine ex (xt_ (xt_ (xb (th (sq (rg (fzc 8 80 1 rfl rfl rfl rfl (lPA rfl rfl T.agg25 rfl (mv (sPA (cs' := [sl 1 strE ((trimS s).1.actions), sl 2 stateE acc]) rfl rfl rfl T.agg25 rfl rfl (ag (nl (th (rt ?_))))))))))))))
        refine fzA 30 3 rfl rfl ?_
        have hr0 : ((trimS s).1.actions) = (((leastR s).1).actions) := by
          rw [← merged_eq hs, merged_not h00, hts]
        have hr1 : acc = (((leastR s).1).states) := by
          rw [← merged_eq hs, merged_not h00, hI0, hts, show k = (ordS s).length by omega]
        have hr2 : tl = ((leastR s).2) := by
          rw [← merged_eq hs, merged_not h00, hI2, hts, htf, show k2 = (ordS s).length by omega]
        have hall : ∀ x0 x1 x2, ((trimS s).1.actions) = x0 → acc = x1 → tl = x2 → resAV [agg [sl 1 strE ((trimS s).1.actions), sl 2 stateE acc], sl 1 intE tl] = resAV [agg [sl 1 strE x0, sl 2 stateE x1], sl 1 intE x2] := by rintro _ _ _ rfl rfl rfl; rfl
        exact rE () [.cell 2 25, .tmp 3] rfl [agg [sl 1 strE ((trimS s).1.actions), sl 2 stateE acc], sl 1 intE tl] ⟨.agg rfl rfl T.agg25 rfl rfl, .tmp rfl, trivial⟩ (hall _ _ _ hr0 hr1 hr2) trivial (by first | exact .inr rfl | exact .inl rfl)
end prog12
end Go.Proofs.YtolpjmllmlahfaaDoor
