/- Walks of the functions of this claim, printed by a program of its own out of annotations. -/
import Derived.Test.YtolpjmllmlahfaaDoorprog7
namespace Go.Proofs.YtolpjmllmlahfaaDoor
open AL Go
set_option maxRecDepth 100000
set_option linter.all false

open ref01 ref03 ref04 ref06 prog prog2 prog3 prog4 prog6 prog7 Part Rungs LeftM
theorem rep_step {n cp : Nat} (h : cp ≤ n) : (List.replicate cp (-1 : Int) ++ List.replicate (n - cp) 0).take cp ++ (List.replicate cp (-1 : Int) ++ List.replicate (n - cp) 0).take (min cp (n - cp)) ++ (List.replicate cp (-1 : Int) ++ List.replicate (n - cp) 0).drop (cp + min cp (n - cp)) = List.replicate (cp + min cp (n - cp)) (-1) ++ List.replicate (n - (cp + min cp (n - cp))) 0 := by
  have h1 : (List.replicate cp (-1 : Int) ++ List.replicate (n - cp) 0).take cp = List.replicate cp (-1) := by
    rw [List.take_append_of_le_length (by simp)]; simp
  have h2 : (List.replicate cp (-1 : Int) ++ List.replicate (n - cp) 0).take (min cp (n - cp)) = List.replicate (min cp (n - cp)) (-1) := by
    rw [List.take_append_of_le_length (by simp; omega)]; simp [List.take_replicate]
  have h3 : (List.replicate cp (-1 : Int) ++ List.replicate (n - cp) 0).drop (cp + min cp (n - cp)) = List.replicate (n - (cp + min cp (n - cp))) 0 := by
    rw [List.drop_append]; simp; omega
  rw [h1, h2, h3, List.replicate_append_replicate]
theorem rep_first (n : Nat) : (List.replicate n (0 : Int)).take 0 ++ ([-1] : List Int).take (min 1 n) ++ (List.replicate n (0 : Int)).drop (0 + min 1 n) = List.replicate (min 1 n) (-1) ++ List.replicate (n - min 1 n) 0 := by
  cases n with
  | zero => rfl
  | succ n => simp [show min 1 (n + 1) = 1 by omega, List.replicate_succ]

namespace prog8
namespace T
theorem ent119 : Ent Tryd.prog 119 := ent_of (by kernel_rfl)
theorem ent117 : Ent Tryd.prog 117 := ent_of (by kernel_rfl)
theorem sl28 : IsSlice Tryd.prog 28 3 1 := isSlice_of (by kernel_rfl)
theorem kd3 : Tryd.prog.underlying 3 = some (.int .i64) := by kernel_rfl
theorem kd143 : Tryd.prog.underlying 143 = some (.int .u64) := by kernel_rfl
theorem ent96 : Ent Tryd.prog 96 := ent_of (by kernel_rfl)
theorem mk28 : MakeT Tryd.prog 28 3 1 8 [.int .i64 0] := makeT_of (by kernel_rfl) (by kernel_rfl)
theorem mixed : Tryd.prog.follows .mixedOrders = true := by kernel_rfl
theorem z25 : ZeroIs Tryd.prog 25 [.slice none 0 0, .slice none 0 0] := zeroIs_of (by kernel_rfl)
theorem ent97 : Ent Tryd.prog 97 := ent_of (by kernel_rfl)
theorem sl22 : IsSlice Tryd.prog 22 9 1 := isSlice_of (by kernel_rfl)
theorem ent63 : Ent Tryd.prog 63 := ent_of (by kernel_rfl)
theorem st69 : StructT Tryd.prog 69 [(0, 1), (1, 1)] [.slice none 0 0, .slice none 0 0] := structT_of (by kernel_rfl) (by kernel_rfl)
theorem mk23 : MakeT Tryd.prog 23 69 2 48 [.slice none 0 0, .slice none 0 0] := makeT_of (by kernel_rfl) (by kernel_rfl)
theorem st25 : StructT Tryd.prog 25 [(0, 1), (1, 1)] [.slice none 0 0, .slice none 0 0] := structT_of (by kernel_rfl) (by kernel_rfl)
theorem agg25 : IsAgg Tryd.prog 25 2 := isAgg_of (by kernel_rfl)
end T

theorem Mul64_ok (n : Int) (h0 : 0 ≤ n) (h1 : n < 4294967296) :
    Fn0 Tryd.prog 117 [u64 1, u64 n] (tup [u64 0, u64 n]) := by
  refine fnI Tryd.func117 rfl rfl (fun w0 F0 => ?_)
  refine sq (rg (ag (ag (nl (th (sq (rg (mv (bi rfl rfl (b_and32U (by omega) (by omega)) (ag (nl (th (sq (rg (mv (bi rfl rfl (b_shr32U (by omega) (by omega)) (ag (nl (th (sq (rg (mv (bi rfl rfl (b_and32U (by omega) (by omega)) (ag (nl (th (sq (rg (mv (bi rfl rfl (b_shr32U (by omega) (by omega)) (ag (nl (th (sq (rg (mv (mv (bi rfl rfl (b_mulU (by unfold U64; omega)) (ag (nl (th (sq (rg (mv (mv (bi rfl rfl (b_mulU (by unfold U64; omega)) (mv (bi rfl rfl (b_shr32U (by omega) (by omega)) (bi rfl rfl (b_addU (by unfold U64; omega)) (ag (nl (th (sq (rg (mv (bi rfl rfl (b_and32U (by omega) (by omega)) (ag (nl (th (sq (rg (mv (bi rfl rfl (b_shr32U (by omega) (by omega)) (ag (nl (th (sq (rg (mv (mv (mv (bi rfl rfl (b_mulU (by unfold U64; omega)) (bi rfl rfl (b_addU (by unfold U64; omega)) (ag (nl (th (sq (rg (mv (mv (bi rfl rfl (b_mulU (by unfold U64; omega)) (mv (bi rfl rfl (b_addU (by unfold U64; omega)) (mv (bi rfl rfl (b_shr32U (by omega) (by omega)) (bi rfl rfl (b_addU (by unfold U64; omega)) (ag (nl (th (sq (rg (mv (mv (bi rfl rfl (b_mulU (by unfold U64; omega)) (ag (nl (th (rt ?_))))))))))))))))))))))))))))))))))))))))))))))))))))))))))))))))))))))))))))))))))))))))))))))))))
  have hr0 : (((0 * 0) + 0) + 0 : Int) = 0 := by
    omega
  have hr1 : (1 * n : Int) = n := by
    omega
  have hall : ∀ x0 x1, (((0 * 0) + 0) + 0) = x0 → (1 * n) = x1 → resAV [u64 (((0 * 0) + 0) + 0), u64 (1 * n)] = resAV [u64 x0, u64 x1] := by rintro _ _ rfl rfl; rfl
  exact rE () [.tmp 4, .tmp 5] rfl [u64 (((0 * 0) + 0) + 0), u64 (1 * n)] ⟨.tmp rfl, .tmp rfl, trivial⟩ (hall _ _ hr0 hr1) trivial (by first | exact .inr rfl | exact .inl rfl)

theorem Mul_ok (n : Int) (h0 : 0 ≤ n) (h1 : n < 4294967296) :
    Fn0 Tryd.prog 96 [u64 1, u64 n] (tup [u64 0, u64 n]) := by
  refine fnI Tryd.func96 rfl rfl (fun w0 F0 => ?_)
  refine sq (rg (ag (ag (nl (th (sq ?_))))))
  refine cd rfl (fun hc0 => ?_) (fun hc0 => ?_)
  · try simp at hc0
    skip
  · try simp at hc0
    refine sk (th (sq (rg (mv (mv (cal0 (φs := [u64 1, u64 n]) (φ := tup [u64 0, u64 n]) ⟨rfl, rfl, trivial⟩ (prog8.Mul64_ok n (by omega) (by omega)) T.ent117 (mv (xt rfl rfl (xt rfl rfl (ag (ag (nl (th (sq (rg (mv (mv (ag (ag (nl (th (rt ?_))))))))))))))))))))))
    exact rE () [.tmp 4, .tmp 5] rfl [u64 0, u64 n] ⟨.tmp rfl, .tmp rfl, trivial⟩ (rfl) trivial (by first | exact .inr rfl | exact .inl rfl)

theorem Repeat_ok (n : Nat) (hn : n ≤ 1000000) :
    AL.Fn Tryd.prog 63 [ints [-1], int (n : Int)] [] (fun _ v => osl 30 v) (fun v => [(30, own v 3 1 intE (List.replicate n (-1)))]) := by
  refine fnI Tryd.func63 rfl rfl (fun w0 F0 => ?_)
  refine fcC (slenI 0 rfl) (fun hm0 => ?_)
  refine sq (rg (ag (nl (th (sq (sq (rg (mv (bi rfl rfl b_lss (nl (th ?_)))))))))))
  refine cd rfl (fun hc0 => ?_) (fun hc0 => ?_)
  · try simp at hc0
    exfalso; omega
  · try simp at hc0
    refine sk (th (sq (rg (mv (lnF rfl T.sl28 (cv rfl T.kd3 T.kd143 (wrap_U64 ⟨by simp, by simp⟩) (mv (cv rfl T.kd3 T.kd143 (wrap_U64 ⟨by omega, by omega⟩) (cal0 (φs := [u64 ([-1].length : Int), u64 (n : Int)]) (φ := tup [u64 0, u64 (n : Int)]) ⟨rfl, rfl, trivial⟩ (prog8.Mul_ok (n : Int) (by omega) (by omega)) T.ent96 (mv (xt rfl rfl (xt rfl rfl (ag (ag (nl (th (sq (sq (rg (mv (bi rfl rfl b_gtr (mv ?_))))))))))))))))))))))
    apply gOr (t := 23) (pd := 26) rfl
    rotate_left
    · intro hg0 fin
      have hg0' := hg0
      try simp at hg0'
      exact gy rfl rfl rfl hg0 (mv (gy rfl rfl rfl hg0 (bi rfl rfl b_gtr (pkF rfl hg0 rfl (drp (X := [(25, _), (24, _)]) ⟨rfl, rfl, trivial⟩ (fin))))))
    · intro hg0 fin
      exact gn rfl rfl rfl hg0 rfl rfl (gn rfl rfl rfl hg0 rfl rfl (pkT rfl hg0 rfl (drp (X := [(25, _), (24, _)]) ⟨rfl, rfl, trivial⟩ (fin))))
    refine nl (th ?_)
    refine cd rfl (fun hc1 => ?_) (fun hc1 => ?_)
    · try simp at hc1
      exfalso; omega
    · try simp at hc1
      refine sk (th (sq (rg (mv (cv rfl T.kd143 T.kd3 (wrap_I64 ⟨by omega, by omega⟩) (mkB (key := 30) (m := n) (enc := intE) (y := (0 : Int)) rfl rfl T.mk28 (ex_cons ex_nil) (by unfold maxL; omega) (by unfold maxL; omega) fun b30 => (ag (nl (th (sq (rg (mv (mv (cpF (key := 30) (i := 0) (l := n) (c := n) (b := b30) (n := min 1 n) (ys := ([-1] : List Int)) (xs := List.replicate n (0 : Int)) osl_is rfl rfl T.mk28 (fun y => inferInstance) rfl (by rw [List.length_replicate]; omega) (ag (nl (th (sq (bk ?_)))))))))))))))))))
      have hI0_0 : ((List.replicate n (0 : Int)).take 0 ++ ([-1] : List Int).take (min 1 n) ++ (List.replicate n (0 : Int)).drop (0 + min 1 n)) = List.replicate (min 1 n) (-1) ++ List.replicate (n - (min 1 n)) 0 ∧ (min 1 n) ≤ n ∧ (n = 0 ∨ 1 ≤ (min 1 n)) := by
        exact ⟨rep_first n, by omega, by omega⟩
      refine lp (κ := Nat × (List Int)) (fun p => [(4, eqv (.slice none 0 0)), (7, osl 30 (.slice (some ⟨b30, 0, none⟩) n n)), (8, int (p.1 : Int))]) (fun p => [(30, own (.slice (some ⟨b30, 0, none⟩) n n) 3 1 intE p.2)]) (fun p => p.2 = List.replicate p.1 (-1) ++ List.replicate (n - p.1) 0 ∧ p.1 ≤ n ∧ (n = 0 ∨ 1 ≤ p.1)) (fun p => n - p.1) ⟨min 1 n, (List.replicate n (0 : Int)).take 0 ++ ([-1] : List Int).take (min 1 n) ++ (List.replicate n (0 : Int)).drop (0 + min 1 n)⟩ hI0_0 ⟨id, id, id, trivial⟩ ⟨⟨rfl, id⟩, trivial⟩ ?_
      intro ⟨cp, xs⟩ hG0
      have hI0 : xs = List.replicate cp (-1) ++ List.replicate (n - cp) 0 ∧ cp ≤ n ∧ (n = 0 ∨ 1 ≤ cp) := hG0
      show Ct _ _ _ _ [(4, eqv (.slice none 0 0)), (7, osl 30 (.slice (some ⟨b30, 0, none⟩) n n)), (8, int (cp : Int))] [(30, own (.slice (some ⟨b30, 0, none⟩) n n) 3 1 intE xs)] _
      have hxl : xs.length = n := by rw [hI0.1]; simp; omega
      refine sq (sq (rg (mv (mv (lnO rfl rfl T.sl28 (bi rfl rfl b_lss (nl (th ?_))))))))
      refine cd rfl (fun hc2 => ?_) (fun hc2 => ?_)
      · try simp at hc2
        refine sk (th (bk ?_))
        refine drH (nh := 10) [0, 0, 0, 6, 0, 0, 48, 126, 255, 511] [(none, []), (none, []), (none, []), (none, []), (none, []), (none, []), (none, []), (some 30, [30]), (none, []), (none, [])] T.mixed (by kernel_rfl) (by kernel_rfl) ?_
        refine stv (d := 38) (fun β0 => int (cp : Int)) [] rfl (fun β β' hb => rfl) (fun β0 _ _ _ _ gq gh kq => mv' (gq.1.trans rfl) kq) ?_
        refine stv (d := 39) (fun β0 => osl 30 (.slice (some ⟨b30, 0, none⟩) n n)) [] rfl (fun β β' hb => rfl) (fun β0 _ _ _ _ gq gh kq => mv' (gq.1.trans rfl) kq) ?_
        refine stv (d := 40) (fun β0 => int (cp : Int)) [] rfl (fun β β' hb => rfl) (fun β0 _ _ _ _ gq gh kq => mv' (gq.1.trans rfl) kq) ?_
        refine stv (d := 41) (fun β0 => eqv (.slice (some ⟨b30, cp, none⟩) (n - cp) (n - cp))) [] rfl (fun β β' hb => rfl) (fun β0 _ _ _ _ gq gh kq => sliceV (l := cp) (m := n) ((gq.1.trans rfl).trans rfl) T.sl28 (gq.2.1.trans rfl) rfl (by omega) (by omega) (by omega) (by omega) kq) ?_
        refine stv (d := 42) (fun β0 => osl 30 (.slice (some ⟨b30, 0, none⟩) n n)) [] rfl (fun β β' hb => rfl) (fun β0 _ _ _ _ gq gh kq => mv' (gq.1.trans rfl) kq) ?_
        refine stv (d := 43) (fun β0 => int (cp : Int)) [] rfl (fun β β' hb => rfl) (fun β0 _ _ _ _ gq gh kq => mv' (gq.1.trans rfl) kq) ?_
        refine stv (d := 44) (fun β0 => eqv (.slice (some ⟨b30, 0, none⟩) (cp - 0) (n - 0))) [] rfl (fun β β' hb => rfl) (fun β0 _ _ _ _ gq gh kq => sliceV (l := 0) (m := cp) ((gq.1.trans rfl).trans rfl) T.sl28 rfl (gq.2.1.trans rfl) (by omega) (by omega) (by omega) (by omega) kq) ?_
        refine stb (d := 45) 30 (fun β0 => int ((min cp (n - cp) : Nat) : Int)) (fun β0 => own (.slice (some ⟨b30, 0, none⟩) n n) 3 1 intE (xs.take cp ++ xs.take (min cp (n - cp)) ++ xs.drop (cp + min cp (n - cp)))) [30] rfl (fun β β' hb => rfl) (fun β β' hb => rfl) (fun β0 _ _ _ _ gq gh kq => cpO (key := 30) (i := cp) (l := n - cp) (c := n - cp) (l2 := cp) (c2 := n) (b := b30) (n := min cp (n - cp)) (gq.1.trans rfl) (gh.1.trans rfl) (gq.2.1.trans rfl) T.mk28 (fun y => inferInstance) rfl (by rw [hI0.1]; simp) (by rw [hI0.1]; simp; omega) kq) ?_
        refine stv (d := 46) (fun β0 => int ((cp + (min cp (n - cp)) : Nat) : Int)) [] rfl (fun β β' hb => rfl) (fun β0 _ _ _ _ gq gh kq => bi (gq.1.trans rfl) (gq.2.1.trans rfl) (b_add (by unfold I64; omega)) kq) ?_
        refine stv (d := 8) (fun β0 => int ((cp + (min cp (n - cp)) : Nat) : Int)) [] rfl (fun β β' hb => rfl) (fun β0 _ _ _ _ gq gh kq => ag' (gq.1.trans rfl) kq) ?_
        refine pnH fun β0 => (nl (eb ?_))
        have hN0 : (xs.take cp ++ xs.take (min cp (n - cp)) ++ xs.drop (cp + min cp (n - cp))) = List.replicate (cp + (min cp (n - cp))) (-1) ++ List.replicate (n - (cp + (min cp (n - cp)))) 0 ∧ (cp + (min cp (n - cp))) ≤ n ∧ (n = 0 ∨ 1 ≤ (cp + (min cp (n - cp)))) := by
          refine ⟨?_, by omega, by omega⟩
          rw [hI0.1]; exact rep_step hI0.2.1
        exact ln (⟨cp + (min cp (n - cp)), xs.take cp ++ xs.take (min cp (n - cp)) ++ xs.drop (cp + min cp (n - cp))⟩ : Nat × (List Int)) hN0 (by first | omega | (dsimp only; omega)) ⟨id, id, id, trivial⟩ ⟨⟨rfl, id⟩, trivial⟩
      · try simp at hc2
        refine ex (xt_ (xt_ (xb (th (sq (rg (mv (ag (nl (th (rt ?_)))))))))))
        have hcp : cp = n := by omega
        have hxs : xs = List.replicate n (-1) := by rw [hI0.1, hcp]; simp
        subst hxs
        exact rE (.slice (some ⟨b30, 0, none⟩) n n) [.tmp 4] rfl [osl 30 (.slice (some ⟨b30, 0, none⟩) n n)] ⟨.tmp rfl, trivial⟩ (rfl) ⟨⟨rfl, id⟩, trivial⟩ (by first | exact .inr rfl | exact .inl rfl)

theorem Nothing_ok (l : List ByteArray) (hl : l.length ≤ 1000) :
    Fn0 Tryd.prog 99 [strs l] (spec (nothing l)) := by
  refine fnI Tryd.func99 rfl rfl (fun w0 F0 => ?_)
  refine fcC (slenI 0 rfl) (fun hm0 => ?_)
  refine sq (rg (al (key := 2) T.z25 (ex_cons (ex_cons (ex_nil))) fun b2 => (nl (th (sq (rg (mv (cal0 (φs := [sl 1 strE l]) (φ := sl 1 strE l) ⟨rfl, trivial⟩ (prog.sClonestrE_ok _ (by omega)) T.ent97 (bsE (enc := intE) (xs := [(-1)]) (css := [[int (-1)]]) T.mk28 ⟨rfl, rfl, p1 (φ := int (-1)) rfl, trivial⟩ rfl rfl rfl rfl (mv (lnF rfl T.sl22 (cl (prog8.Repeat_ok l.length (by omega)) T.ent63 trivial fun N8 v8 => (fz 30 8 rfl rfl (bd (css := [(1, _)]) T.st69 (ex_cons (ex_cons (ex_nil))) ⟨rfl, rfl, p1 (φ := sl 1 intE (List.replicate l.length (-1))) rfl, trivial⟩ (kn 9 (agg [sl 1 intE [], sl 1 intE (List.replicate l.length (-1))]) rfl (agg_le (cs := [eqv (.slice none 0 0), sl 1 intE (List.replicate l.length (-1))]) (ds := [sl 1 intE [], sl 1 intE (List.replicate l.length (-1))]) ⟨fun h => slnil h, fun h => h, trivial⟩) (bsE (enc := stateE) (xs := [(⟨[], List.replicate l.length (-1)⟩)]) (css := [[sl 1 intE [], sl 1 intE (List.replicate l.length (-1))]]) T.mk23 ⟨rfl, rfl, pA (cs := [sl 1 intE [], sl 1 intE (List.replicate l.length (-1))]) rfl, trivial⟩ rfl rfl rfl rfl (bd (css := [(0, _), (1, _)]) T.st25 (ex_cons (ex_cons (ex_nil))) ⟨rfl, rfl, p1 (φ := sl 1 strE l) rfl, ⟨rfl, rfl, p1 (φ := sl 2 stateE [(⟨[], List.replicate l.length (-1)⟩)]) rfl, trivial⟩⟩ (sPA (cs' := [sl 1 strE l, sl 2 stateE [(⟨[], List.replicate l.length (-1)⟩)]]) rfl rfl rfl T.agg25 rfl rfl (nl (th (rt ?_)))))))))))))))))))))
  have hr0 : l = ((nothing l).actions) := by
    first | rfl | simp_all | omega
  have hr1 : [(⟨[], List.replicate l.length (-1)⟩)] = ((nothing l).states) := by
    first | rfl | simp_all | omega
  have hall : ∀ x0 x1, l = x0 → [(⟨[], List.replicate l.length (-1)⟩)] = x1 → resAV [agg [sl 1 strE l, sl 2 stateE [(⟨[], List.replicate l.length (-1)⟩)]]] = resAV [agg [sl 1 strE x0, sl 2 stateE x1]] := by rintro _ _ rfl rfl; rfl
  exact rE () [.cell 2 25] rfl [agg [sl 1 strE l, sl 2 stateE [(⟨[], List.replicate l.length (-1)⟩)]]] ⟨.agg rfl rfl T.agg25 rfl rfl, trivial⟩ (hall _ _ hr0 hr1) trivial (by first | exact .inr rfl | exact .inl rfl)
end prog8
end Go.Proofs.YtolpjmllmlahfaaDoor
