/- The walks of the functions and the plain laws. Own texts of this claim, packed: sortE, wit, JudgM, JudgM2, refj, spoil, OwnM, prog17, ValidM, lstu. -/
import Derived.Test.YtolpjmllmlahfaaDoorX05
import Derived.Test.YtolpjmllmlahfaaDoorX15
import Derived.Test.YtolpjmllmlahfaaDoorX12
import Derived.Test.YtolpjmllmlahfaaDoorX14
import Derived.Test.YtolpjmllmlahfaaDoorX11
import Derived.Test.YtolpjmllmlahfaaDoorX03
import Derived.Test.YtolpjmllmlahfaaDoorX06
import Derived.Test.YtolpjmllmlahfaaDoorX10
set_option linter.all false
namespace Go.Proofs.YtolpjmllmlahfaaDoor
open AL Go Go.Sort
set_option maxRecDepth 100000
set_option linter.all false
namespace sortE
def lays105_ren : Go.Shelf.Ren := ⟨fun | 6 => 105 | 15 => 110 | 14 => 122 | 28 => 133 | 29 => 134 | 20 => 137 | 21 => 138 | 22 => 139 | 23 => 140 | 24 => 141 | 25 => 142 | 26 => 143 | 27 => 144 | 46 => 154 | 47 => 146 | 48 => 147 | 49 => 155 | 50 => 156 | 57 => 162 | n => n, fun | 22 => 85 | 24 => 128 | 25 => 159 | 3 => 3 | 39 => 143 | 0 => 0 | 53 => 165 | 55 => 168 | 4 => 4 | 46 => 178 | 45 => 177 | 50 => 77 | 5 => 5 | 9 => 9 | 66 => 191 | 70 => 195 | 76 => 204 | 77 => 205 | n => n, fun n => n⟩
theorem lays105 : SlLaysF0.n6 Tryd.prog lays105_ren where
  mixed := by kernel_rfl
  f6 := ⟨"slices.SortFunc[[]makeweight/api.Edge,makeweight/api.Edge]", by decide, Tryd.func105.trans (congrArg some (by kernel_rfl))⟩
  f14 := ⟨"slices.pdqsortCmpFunc[makeweight/api.Edge]", by decide, Tryd.func122.trans (congrArg some (by kernel_rfl))⟩
  f15 := Tryd.func110.trans (congrArg some (by kernel_rfl))
  f20 := ⟨"slices.insertionSortCmpFunc[makeweight/api.Edge]", by decide, Tryd.func137.trans (congrArg some (by kernel_rfl))⟩
  f21 := ⟨"slices.heapSortCmpFunc[makeweight/api.Edge]", by decide, Tryd.func138.trans (congrArg some (by kernel_rfl))⟩
  f22 := ⟨"slices.breakPatternsCmpFunc[makeweight/api.Edge]", by decide, Tryd.func139.trans (congrArg some (by kernel_rfl))⟩
  f23 := ⟨"slices.choosePivotCmpFunc[makeweight/api.Edge]", by decide, Tryd.func140.trans (congrArg some (by kernel_rfl))⟩
  f24 := ⟨"slices.reverseRangeCmpFunc[makeweight/api.Edge]", by decide, Tryd.func141.trans (congrArg some (by kernel_rfl))⟩
  f25 := ⟨"slices.partialInsertionSortCmpFunc[makeweight/api.Edge]", by decide, Tryd.func142.trans (congrArg some (by kernel_rfl))⟩
  f26 := ⟨"slices.partitionEqualCmpFunc[makeweight/api.Edge]", by decide, Tryd.func143.trans (congrArg some (by kernel_rfl))⟩
  f27 := ⟨"slices.partitionCmpFunc[makeweight/api.Edge]", by decide, Tryd.func144.trans (congrArg some (by kernel_rfl))⟩
  f28 := Tryd.func133.trans (congrArg some (by kernel_rfl))
  f29 := Tryd.func134.trans (congrArg some (by kernel_rfl))
  f46 := ⟨"slices.siftDownCmpFunc[makeweight/api.Edge]", by decide, Tryd.func154.trans (congrArg some (by kernel_rfl))⟩
  f47 := Tryd.func146.trans (congrArg some (by kernel_rfl))
  f48 := Tryd.func147.trans (congrArg some (by kernel_rfl))
  f49 := ⟨"slices.medianAdjacentCmpFunc[makeweight/api.Edge]", by decide, Tryd.func155.trans (congrArg some (by kernel_rfl))⟩
  f50 := ⟨"slices.medianCmpFunc[makeweight/api.Edge]", by decide, Tryd.func156.trans (congrArg some (by kernel_rfl))⟩
  f57 := ⟨"slices.order2CmpFunc[makeweight/api.Edge]", by decide, Tryd.func162.trans (congrArg some (by kernel_rfl))⟩
  t0 := Tryd.underlying0
  a0 := Tryd.isAgg0
  z0 := Tryd.sizeOf0
  v0 := Tryd.zeroValue0
  t3 := Tryd.underlying3
  a3 := Tryd.isAgg3
  z3 := Tryd.sizeOf3
  v3 := Tryd.zeroValue3
  t4 := Tryd.underlying4
  a4 := Tryd.isAgg4
  z4 := Tryd.sizeOf4
  v4 := Tryd.zeroValue4
  t5 := Tryd.underlying5
  a5 := Tryd.isAgg5
  z5 := Tryd.sizeOf5
  v5 := Tryd.zeroValue5
  t9 := Tryd.underlying9
  a9 := Tryd.isAgg9
  z9 := Tryd.sizeOf9
  v9 := Tryd.zeroValue9
  t22 := Tryd.underlying85
  a22 := Tryd.isAgg85
  z22 := Tryd.sizeOf85
  v22 := Tryd.zeroValue85
  t25 := Tryd.underlying159
  a25 := Tryd.isAgg159
  z25 := Tryd.sizeOf159
  v25 := Tryd.zeroValue159
  t39 := Tryd.underlying143
  a39 := Tryd.isAgg143
  z39 := Tryd.sizeOf143
  v39 := Tryd.zeroValue143
  t45 := Tryd.underlying177
  a45 := Tryd.isAgg177
  z45 := Tryd.sizeOf177
  v45 := Tryd.zeroValue177
  t46 := Tryd.underlying178
  a46 := Tryd.isAgg178
  z46 := Tryd.sizeOf178
  v46 := Tryd.zeroValue178
  t50 := Tryd.underlying77
  a50 := Tryd.isAgg77
  z50 := Tryd.sizeOf77
  v50 := Tryd.zeroValue77
  t53 := Tryd.underlying165
  a53 := Tryd.isAgg165
  z53 := Tryd.sizeOf165
  v53 := Tryd.zeroValue165
  t55 := Tryd.underlying168
  a55 := Tryd.isAgg168
  z55 := Tryd.sizeOf168
  v55 := Tryd.zeroValue168
  t66 := Tryd.underlying191
  a66 := Tryd.isAgg191
  z66 := Tryd.sizeOf191
  v66 := Tryd.zeroValue191
  t70 := Tryd.underlying195
  a70 := Tryd.isAgg195
  z70 := Tryd.sizeOf195
  v70 := Tryd.zeroValue195
  t76 := Tryd.underlying204
  a76 := Tryd.isAgg204
  z76 := Tryd.sizeOf204
  v76 := Tryd.zeroValue204
  t77 := Tryd.underlying205
  a77 := Tryd.isAgg205
  z77 := Tryd.sizeOf205
  v77 := Tryd.zeroValue205
def cfE (p q : BP) : Int := if p.1.1 = q.1.1 then p.1.2 - q.1.2 else p.1.1 - q.1.1
theorem cfE_lex (p q : BP) : decide (cfE p q < 0) = lexB p.1 q.1 := by
  obtain ⟨⟨p1, p2⟩, hp⟩ := p
  obtain ⟨⟨q1, q2⟩, hq⟩ := q
  unfold cfE lexB
  dsimp only
  split
  · next h => subst h; simp; omega
  · next h => simp [h]; omega
theorem cmpW_ok (p q : BP) (W : World) : Calls Tryd.prog 106 #[.agg #[.int .i64 p.1.1, .int .i64 p.1.2], .agg #[.int .i64 q.1.1, .int .i64 q.1.2]] W fun en W' => en = .returned (.int .i64 (cfE p q)) ∧ ∃ n os, W' = grow (W.drewN n) os := by
  obtain ⟨⟨p1, p2⟩, hp⟩ := p
  obtain ⟨⟨q1, q2⟩, hq⟩ := q
  unfold bdP at hp hq
  dsimp only at hp hq ⊢
  go_enter Tryd.func106, Tryd.ntmps106
  go_wp2
  · rename_i h
    go_ret
    refine ⟨?_, 0, #[Obj.cells #[Value.int IntKind.i64 p1, Value.int IntKind.i64 p2] 128, Obj.cells #[Value.int IntKind.i64 q1, Value.int IntKind.i64 q2] 128], rfl⟩
    unfold cfE; rw [if_neg (by simpa using h)]; rfl
  · rename_i h
    go_ret
    refine ⟨?_, 0, #[Obj.cells #[Value.int IntKind.i64 p1, Value.int IntKind.i64 p2] 128, Obj.cells #[Value.int IntKind.i64 q1, Value.int IntKind.i64 q2] 128], rfl⟩
    unfold cfE; rw [if_pos (by simpa using h)]; rfl
theorem SortcmpW_ok (v : Value) (xs : List (Int × Int)) (hb : ∀ p ∈ xs, bdP p) : AL.Fn Tryd.prog 105 [osl 5 v, eqv (.func (.func 106) #[] #[])] [(5, own v 128 2 pairE xs)] (ι := Unit) (fun _ _ => tup []) (fun _ => [(5, own v 128 2 pairE (sortP xs))]) :=
  sort_ok lays105 rfl (isAgg_of (by kernel_rfl)) (ent_of (by kernel_rfl)) cfE cfE_lex cmpW_ok v xs hb
end sortE
end Go.Proofs.YtolpjmllmlahfaaDoor
namespace Go.Proofs.YtolpjmllmlahfaaDoor
open AL Go
set_option maxRecDepth 100000
set_option linter.all false
open ref01 ref03 ref04 ref06 prog prog2 prog3 prog4 prog5 prog6 prog13 prog15 starts search Part Rungs LeftM TrimM RoundM BisM BisM5 WalkM StepM WitM refw judg
def edgesE : List (Int × Int) → List AV := fun l => [sl 2 pairE l]
def edgesN (N : Nat) : List (Int × Int) → List AV := fun l => [fre N (sl 2 pairE l)]
instance (l : List (Int × Int)) : OneAll (edgesE l) := inferInstanceAs (OneAll [sl 2 pairE l])
instance (N : Nat) (l : List (Int × Int)) : OneAll (edgesN N l) := inferInstanceAs (OneAll [fre N (sl 2 pairE l)])
abbrev nsys (N : Nat) (m : SSys) : AV := agg [fre N (strs m.actions), fre N (sl 1 edgesE m.states)]
instance : FlatE pairE := flat2 (f := fun p : Int × Int => .int .i64 p.1) (g := fun p => .int .i64 p.2)
def intV (x : Int) : AV := int x
def halfS (T : SSpec) (k : Nat) : List (List Int) := (sets0 T).take k ++ List.replicate (T.states.length - k) []
theorem half_len {T : SSpec} {k : Nat} (h : k ≤ T.states.length) : (halfS T k).length = T.states.length := by simp [halfS, sets0]; omega
theorem half_zero (T : SSpec) : List.replicate T.states.length [] = halfS T 0 := by simp [halfS]
theorem half_end {T : SSpec} {k : Nat} (h : k = T.states.length) : halfS T k = sets0 T := by
  subst h; unfold halfS
  rw [Nat.sub_self, List.replicate_zero, List.append_nil, List.take_of_length_le (by simp [sets0])]
theorem half_step {T : SSpec} {k : Nat} (h : k < T.states.length) : (halfS T k).set k [ix (ix T.states k).accept 0] = halfS T (k + 1) := by
  have hl : (sets0 T).length = T.states.length := by simp [sets0]
  have e : ix (sets0 T) k = [ix (ix T.states k).accept 0] := by unfold sets0; rw [TurnM.ix_mapS h]
  unfold halfS
  rw [take_s (by omega), e, List.set_append_right _ _ (by simp; omega), List.append_assoc]
  congr 1
  have : T.states.length - k = (T.states.length - (k + 1)) + 1 := by omega
  rw [this, List.replicate_succ, show k - ((sets0 T).take k).length = 0 by simp; omega]; rfl
namespace T
theorem map157 : MapT Tryd.prog 157 154 3 pairV pairD := mapT_pair Tryd.underlying157 Tryd.underlying154 (by kernel_rfl) (by decide +kernel) (by kernel_rfl) (by kernel_rfl) ⟨rfl, rfl, by kernel_rfl, by kernel_rfl⟩ ⟨rfl, rfl, by kernel_rfl, by kernel_rfl⟩ (by kernel_rfl) (by kernel_rfl)
theorem zvi3 : ∀ w F, ∃ u, (zeroValue 3).run Tryd.prog w = .ok u w ∧ (intV 0).p w F u := zeroV_of (v := .int .i64 0) (by kernel_rfl) _ (fun _ _ => eqv_rfl)
theorem z55 : ZeroIs Tryd.prog 55 [.slice none 0 0, .slice none 0 0] := zeroIs_of (by kernel_rfl)
theorem sl108 : IsSlice Tryd.prog 108 154 2 := isSlice_of (by kernel_rfl)
theorem agg154 : IsAgg Tryd.prog 154 2 := isAgg_of (by kernel_rfl)
theorem z154 : ZeroIs Tryd.prog 154 [.int .i64 0, .int .i64 0] := zeroIs_of (by kernel_rfl)
theorem fld154_0 : FieldAt Tryd.prog 154 0 0 := fieldAt_of (by kernel_rfl)
theorem fld154_1 : FieldAt Tryd.prog 154 1 1 := fieldAt_of (by kernel_rfl)
theorem ent104 : Ent Tryd.prog 104 := ent_of (by kernel_rfl)
theorem z157 : ZeroIs Tryd.prog 157 [.map none] := zeroIs_of (by kernel_rfl)
theorem one157 : IsOne Tryd.prog 157 := isOne_of (by kernel_rfl)
theorem z108 : ZeroIs Tryd.prog 108 [.slice none 0 0] := zeroIs_of (by kernel_rfl)
theorem one108 : IsOne Tryd.prog 108 := isOne_of (by kernel_rfl)
theorem st55 : StructT Tryd.prog 55 [(0, 1), (1, 1)] [.slice none 0 0, .slice none 0 0] := structT_of (by kernel_rfl) (by kernel_rfl)
theorem agg55 : IsAgg Tryd.prog 55 2 := isAgg_of (by kernel_rfl)
theorem z85 : ZeroIs Tryd.prog 85 [.slice none 0 0] := zeroIs_of (by kernel_rfl)
theorem one85 : IsOne Tryd.prog 85 := isOne_of (by kernel_rfl)
theorem st128 : StructT Tryd.prog 128 [(0, 1), (1, 1)] [.int .i64 0, .int .i64 0] := structT_of (by kernel_rfl) (by kernel_rfl)
theorem mk85 : MakeT Tryd.prog 85 128 2 16 [.int .i64 0, .int .i64 0] := makeT_of (by kernel_rfl) (by kernel_rfl)
theorem ent105 : Ent Tryd.prog 105 := ent_of (by kernel_rfl)
theorem fld55_1 : FieldAt Tryd.prog 55 1 1 := fieldAt_of (by kernel_rfl)
theorem one53 : IsOne Tryd.prog 53 := isOne_of (by kernel_rfl)
theorem mk53 : MakeT Tryd.prog 53 85 1 24 [.slice none 0 0] := makeT_of (by kernel_rfl) (by kernel_rfl)
end T
namespace wit
theorem Witness_ok (s : SSpec) (hT : okSpec s) (want : List (Int × Int)) (hw : Wants s want) :
    AL.Fn Tryd.prog 77 [spec s, sl 2 pairE want] [] (ι := { m : SSys // WitOK s want m }) (fun N i => nsys N i.1) (fun _ => []) := by
  refine fnI Tryd.func77 rfl rfl (fun w0 F0 => ?_)
  have hf0 := hT.few0; have hf1 := hT.few1; have hn8 := hT.n8; have hwl := hw.few
  refine fcC (inhS 0 rfl) (fun hS0 => ?_)
  obtain ⟨hsa0, hss0, hse0⟩ := spec_lens hS0
  refine fcC (slenI 1 rfl) (fun hm1 => ?_)
  refine sq (rg (bx (key := 2) (cs := [sl 1 strE s.actions, sl 2 stateE s.states]) rfl fun b2 => (al (key := 4) T.z55 (ex_cons (ex_cons (ex_nil))) fun b4 => (nl (th (sq (rg (fP rfl T.fld25_1 (lP rfl rfl rfl T.one23 (fc (slenI 23 rfl) fun hm23 => (lnF rfl T.sl23 (mk (key := 25) (m := s.states.length) (enc := eqvE) (y := (.slice none 0 0 : Value)) rfl rfl T.mk134 (ex_cons ex_nil) (by unfold maxL; omega) (by unfold maxL; omega) fun v25 => (al (key := 5) T.z134 (ex_cons (ex_nil)) fun b5 => (storePO rfl rfl rfl rfl T.one134 rfl (nl (th (sq (sq (rg (nbB 251 s.states.length 3 1 intE (fP rfl T.fld25_1 (lP rfl rfl rfl T.one23 (lnF rfl T.sl23 (mv (nl (th (bk ?_)))))))))))))))))))))))))))
  have hI0_0 : 0 ≤ s.states.length := by
    first | omega | simp
  have hI0_1 : (List.replicate s.states.length (.slice none 0 0 : Value)).length = s.states.length ∧ (List.replicate s.states.length []) = halfS s 0 := by
    exact ⟨by simp, half_zero s⟩
  refine lp (κ := Nat × (List Value) × (List (List Int))) (fun p => [(1, sl 2 pairE want), (2, ptr 2 b2 0), (4, ptr 4 b4 0), (5, ptr 5 b5 0), (27, sl 2 stateE s.states), (28, int (s.states.length : Int)), (29, int (p.1 : Int))]) (fun p => [(2, cell b2 [sl 1 strE s.actions, sl 2 stateE s.states]), (4, cell b4 [eqv (.slice none 0 0), eqv (.slice none 0 0)]), (5, cell b5 [osl 25 v25]), (25, own v25 28 1 eqvE p.2.1), (251, bigown p.2.1 3 1 intE p.2.2 none)]) (fun p => (p.1 ≤ s.states.length) ∧ (p.2.1.length = s.states.length ∧ p.2.2 = halfS s p.1)) (fun p => s.states.length - p.1) ⟨0, List.replicate s.states.length (.slice none 0 0 : Value), List.replicate s.states.length []⟩ ⟨hI0_0, hI0_1⟩ ⟨id, id, id, id, id, id, id, trivial⟩ ⟨⟨rfl, id⟩, ⟨rfl, id⟩, ⟨rfl, id⟩, ⟨rfl, id⟩, ⟨rfl, id⟩, trivial⟩ ?_
  intro ⟨k, us, xss⟩ hG0
  obtain ⟨hk0, ⟨hul, hxs⟩⟩ : (k ≤ s.states.length) ∧ (us.length = s.states.length ∧ xss = halfS s k) := hG0
  show Ct _ _ _ _ [(1, sl 2 pairE want), (2, ptr 2 b2 0), (4, ptr 4 b4 0), (5, ptr 5 b5 0), (27, sl 2 stateE s.states), (28, int (s.states.length : Int)), (29, int (k : Int))] [(2, cell b2 [sl 1 strE s.actions, sl 2 stateE s.states]), (4, cell b4 [eqv (.slice none 0 0), eqv (.slice none 0 0)]), (5, cell b5 [osl 25 v25]), (25, own v25 28 1 eqvE us), (251, bigown us 3 1 intE xss none)] _
  have hxl : xss.length = s.states.length := by rw [hxs]; exact half_len (by omega)
  refine sq (rg (bi rfl rfl b_lss (nl (th (sq ?_)))))
  refine cd rfl (fun hc0 => ?_) (fun hc0 => ?_)
  · try simp at hc0
    have hne : 0 < (ix s.states k).accept.length := hw.ne k (by omega)
    refine sk (th (sq (bk (sq (rg (mv (iF rfl rfl T.sl23 (by omega) (by first | exact gN (by omega) | exact gI (by omega) (by omega)) (lFA rfl T.agg69 (Nat.le_of_ble_eq_true rfl) (al (key := 7) T.z69 (ex_cons (ex_cons (ex_nil))) fun b7 => (ag (sPA (cs' := [sl 1 intE ((ix s.states k).accept), sl 1 intE ((ix s.states k).next)]) rfl rfl rfl T.agg69 rfl rfl (nl (th (tkBC 251 99 k rfl rfl (by decide) (gK (by omega)) (gK (by omega)) ?_))))))))))))))
    refine drH (nh := 9) [0, 0, 0, 4, 12, 28, 60, 127, 255] [(none, [5]), (none, []), (none, []), (none, [7]), (none, []), (none, []), (some 40, []), (none, [25]), (some 25, [25])] T.mixed (by kernel_rfl) (by kernel_rfl) ?_
    refine stv (d := 34) (fun β0 => osl 25 v25) [5] rfl (fun β β' hb => rfl) (fun β0 _ _ _ _ gq gh kq => lP (gq.1.trans rfl) (gh.1.trans rfl) rfl T.one134 kq) ?_
    refine stv (d := 35) (fun β0 => int (k : Int)) [] rfl (fun β β' hb => rfl) (fun β0 _ _ _ _ gq gh kq => mv' (gq.1.trans rfl) kq) ?_
    refine stv (d := 36) (fun β0 => ptr 7 b7 0) [] rfl (fun β β' hb => rfl) (fun β0 _ _ _ _ gq gh kq => fP (gq.1.trans rfl) T.fld69_0 kq) ?_
    refine stv (d := 37) (fun β0 => sl 1 intE ((ix s.states k).accept)) [7] rfl (fun β β' hb => rfl) (fun β0 _ _ _ _ gq gh kq => lP (gq.1.trans rfl) (gh.1.trans rfl) rfl T.one28 kq) ?_
    refine stv (d := 38) (fun β0 => fp [int (ix ((ix s.states k).accept) 0)]) [] rfl (fun β β' hb => rfl) (fun β0 _ _ _ _ gq gh kq => iF (gq.1.trans rfl) rfl T.sl28 (by omega) (gI (by omega) (by omega)) kq) ?_
    refine stv (d := 39) (fun β0 => int (ix ((ix s.states k).accept) 0)) [] rfl (fun β β' hb => rfl) (fun β0 _ _ _ _ gq gh kq => lF (gq.1.trans rfl) rfl T.one3 kq) ?_
    refine stc (d := 40) (e := 3) (n := 1) (enc := intE) (xs := [(ix ((ix s.states k).accept) 0)]) 40 [] rfl (fun β0 _ _ _ _ gq gh kq => bsO 40 (enc := intE) (xs := [(ix ((ix s.states k).accept) 0)]) (css := [[int (ix ((ix s.states k).accept) 0)]]) T.mk28 ⟨rfl, rfl, p1 (φ := int (ix ((ix s.states k).accept) 0)) (by exact (gq.1.trans rfl)), trivial⟩ rfl rfl rfl rfl fun v => kq v) ?_
    refine stv (d := 41) (fun β0 => eptr 25 v25 1 k 0) [25] rfl (fun β β' hb => rfl) (fun β0 _ _ _ _ gq gh kq => iO (gq.1.trans rfl) (gh.1.trans rfl) (gq.2.1.trans rfl) T.sl134 (by omega) (by omega) kq) ?_
    refine stw 25 (fun β0 => own v25 28 1 eqvE (us.set k (sv (β0 6)))) [25] rfl (fun β β' hb => by first | rw [hb 6 rfl] | (dsimp only; rw [hb 6 rfl])) (fun β0 _ _ _ _ gq gh kq => sO (φ := eqv (sv (β0 6))) (gq.1.trans rfl) (gh.1.trans rfl) ((gq.2.1.trans rfl).trans osl_is) T.one28 (by first | exact gN (by omega) | exact gI (by omega) (by omega)) rfl (y' := (sv (β0 6))) rfl kq) ?_
    refine pnH fun β0 => (nl (eb (th (rg (gvB (us := us) 251 40 k rfl rfl (by decide) (by omega) (bi rfl rfl (b_add (by unfold I64; omega)) (mv (nl ?_))))))))
    have hN0 : (k + 1) ≤ s.states.length := by
      first | omega | simp_all
    have hN1 : (us.set k (sv (β0 6))).length = s.states.length ∧ (xss.set k [(ix ((ix s.states k).accept) 0)]) = halfS s (k + 1) := by
      exact ⟨by simpa using hul, by rw [hxs]; exact half_step hc0⟩
    exact ln (⟨k + 1, us.set k (sv (β0 6)), xss.set k [(ix ((ix s.states k).accept) 0)]⟩ : Nat × (List Value) × (List (List Int))) ⟨hN0, hN1⟩ (by first | omega | (dsimp only; omega)) ⟨id, id, id, id, id, id, id, trivial⟩ ⟨⟨rfl, id⟩, ⟨rfl, id⟩, ⟨rfl, id⟩, ⟨rfl, id⟩, ⟨rfl, id⟩, trivial⟩
  · try simp at hc0
    refine ex (xt_ (xt_ (xb (th (sq (sq (rg (mv (lnF rfl T.sl108 (mv (nl (th (bk ?_)))))))))))))
    have hI1_0 : 0 ≤ want.length := by
      first | omega | simp
    have hI1_1 : us.length = s.states.length ∧ SetsOK s (want.take 0) xss := by
      exact ⟨hul, by rw [hxs, half_end (by omega)]; exact sets_zero s⟩
    refine lp (κ := Nat × (List Value) × (List (List Int))) (fun p => [(1, sl 2 pairE want), (2, ptr 2 b2 0), (4, ptr 4 b4 0), (5, ptr 5 b5 0), (43, sl 2 pairE want), (44, int (want.length : Int)), (45, int (p.1 : Int))]) (fun p => [(2, cell b2 [sl 1 strE s.actions, sl 2 stateE s.states]), (4, cell b4 [eqv (.slice none 0 0), eqv (.slice none 0 0)]), (5, cell b5 [osl 25 v25]), (25, own v25 28 1 eqvE p.2.1), (251, bigown p.2.1 3 1 intE p.2.2 none)]) (fun p => (p.1 ≤ want.length) ∧ (p.2.1.length = s.states.length ∧ SetsOK s (want.take p.1) p.2.2)) (fun p => want.length - p.1) ⟨0, us, xss⟩ ⟨hI1_0, hI1_1⟩ ⟨id, id, id, id, id, id, id, trivial⟩ ⟨⟨rfl, id⟩, ⟨rfl, id⟩, ⟨rfl, id⟩, ⟨rfl, id⟩, ⟨rfl, id⟩, trivial⟩ ?_
    intro ⟨k1, us2, xss2⟩ hG1
    obtain ⟨hk1, ⟨hul2, hS⟩⟩ : (k1 ≤ want.length) ∧ (us2.length = s.states.length ∧ SetsOK s (want.take k1) xss2) := hG1
    show Ct _ _ _ _ [(1, sl 2 pairE want), (2, ptr 2 b2 0), (4, ptr 4 b4 0), (5, ptr 5 b5 0), (43, sl 2 pairE want), (44, int (want.length : Int)), (45, int (k1 : Int))] [(2, cell b2 [sl 1 strE s.actions, sl 2 stateE s.states]), (4, cell b4 [eqv (.slice none 0 0), eqv (.slice none 0 0)]), (5, cell b5 [osl 25 v25]), (25, own v25 28 1 eqvE us2), (251, bigown us2 3 1 intE xss2 none)] _
    have hxl2 := hS.len
    refine sq (rg (bi rfl rfl b_lss (nl (th (sq ?_)))))
    refine cd rfl (fun hc1 => ?_) (fun hc1 => ?_)
    · try simp at hc1
      obtain ⟨hw0, hw1, hw2⟩ := hw.ok _ (ix_memS hc1)
      refine sk (th (sq (bk (sq (rg (iF rfl rfl T.sl108 (by omega) (by first | exact gN (by omega) | exact gI (by omega) (by omega)) (lFA rfl T.agg154 (Nat.le_of_ble_eq_true rfl) (al (key := 9) T.z154 (ex_cons (ex_cons (ex_nil))) fun b9 => (sPA (cs' := [int ((ix want k1).1), int ((ix want k1).2)]) rfl rfl rfl T.agg154 rfl rfl (nl (th (sq (tkBC 251 99 (((ix want k1).1).toNat) rfl rfl (by decide) (gK (by omega)) (gK (by omega)) (dr (nh := 9) [0, 0, 2, 7, 15, 0, 32, 127, 255] T.mixed (by kernel_rfl) ?_))))))))))))))
      refine st_ rfl (fun _ _ _ gq kq => lP (gq.1.trans rfl) rfl rfl T.one134 kq) ?_
      refine st_ rfl (fun _ _ _ gq kq => fP (gq.1.trans rfl) T.fld154_0 kq) ?_
      refine st_ rfl (fun _ _ _ gq kq => lP (gq.1.trans rfl) rfl rfl T.one3 kq) ?_
      refine st_ rfl (fun _ _ _ gq kq => iO (gq.1.trans rfl) rfl (gq.2.1.trans rfl) T.sl134 (by omega) (by omega) kq) ?_
      refine st_ rfl (fun _ _ _ gq kq => lO (gq.1.trans rfl) rfl (by first | exact gN (by omega) | exact gI (by omega) (by omega)) rfl T.one28 kq) ?_
      refine st_ rfl (fun _ _ _ gq kq => fP (gq.1.trans rfl) T.fld154_1 kq) ?_
      refine st_ rfl (fun _ _ _ gq kq => lP (gq.1.trans rfl) rfl rfl T.one3 kq) ?_
      refine st_ rfl (fun _ _ _ gq kq => calB (φs := [sl 1 intE (ix xss2 (((ix want k1).1).toNat)), int ((ix want k1).2)]) ⟨.own 99 (((gq.1.trans rfl)).trans osl_is.symm) rfl, .here (gq.2.1.trans rfl), trivial⟩ (judg.Contains_ok _ _) T.ent104 kq) ?_
      refine st_ rfl (fun _ _ _ gq kq => no (gq.1.trans rfl) kq) ?_
      refine pn (nl (th ?_))
      refine cd rfl (fun hc2 => ?_) (fun hc2 => ?_)
      · try simp at hc2
        have hsl := sets_len hT hw hS (fun p hp => List.mem_of_mem_take hp) (x := ((ix want k1).1).toNat) (by omega)
        refine drH (nh := 14) [0, 0, 2, 0, 0, 16, 56, 120, 0, 256, 768, 2040, 4095, 8191] [(none, [5]), (none, []), (none, [9]), (none, [5]), (none, []), (none, [9]), (none, [25]), (none, [25]), (none, []), (none, [9]), (none, []), (some 99, [99]), (none, [25]), (some 25, [25])] T.mixed (by kernel_rfl) (by kernel_rfl) ?_
        refine stv (d := 58) (fun β1 => osl 25 v25) [5] rfl (fun β β' hb => rfl) (fun β1 _ _ _ _ gq gh kq => lP (gq.1.trans rfl) (gh.1.trans rfl) rfl T.one134 kq) ?_
        refine stv (d := 59) (fun β1 => ptr 9 b9 0) [] rfl (fun β β' hb => rfl) (fun β1 _ _ _ _ gq gh kq => fP (gq.1.trans rfl) T.fld154_0 kq) ?_
        refine stv (d := 60) (fun β1 => int ((ix want k1).1)) [9] rfl (fun β β' hb => rfl) (fun β1 _ _ _ _ gq gh kq => lP (gq.1.trans rfl) (gh.1.trans rfl) rfl T.one3 kq) ?_
        refine stv (d := 61) (fun β1 => osl 25 v25) [5] rfl (fun β β' hb => rfl) (fun β1 _ _ _ _ gq gh kq => lP (gq.1.trans rfl) (gh.1.trans rfl) rfl T.one134 kq) ?_
        refine stv (d := 62) (fun β1 => ptr 9 b9 0) [] rfl (fun β β' hb => rfl) (fun β1 _ _ _ _ gq gh kq => fP (gq.1.trans rfl) T.fld154_0 kq) ?_
        refine stv (d := 63) (fun β1 => int ((ix want k1).1)) [9] rfl (fun β β' hb => rfl) (fun β1 _ _ _ _ gq gh kq => lP (gq.1.trans rfl) (gh.1.trans rfl) rfl T.one3 kq) ?_
        refine stv (d := 64) (fun β1 => eptr 25 v25 1 (((ix want k1).1).toNat) 0) [25] rfl (fun β β' hb => rfl) (fun β1 _ _ _ _ gq gh kq => iO (gq.1.trans rfl) (gh.1.trans rfl) (gq.2.1.trans rfl) T.sl134 (by omega) (by omega) kq) ?_
        refine stv (d := 65) (fun β1 => eqv (ix us2 (((ix want k1).1).toNat))) [25] rfl (fun β β' hb => rfl) (fun β1 _ _ _ _ gq gh kq => lO (gq.1.trans rfl) (gh.1.trans rfl) (by first | exact gN (by omega) | exact gI (by omega) (by omega)) rfl T.one28 kq) ?_
        refine stv (d := 66) (fun β1 => ptr 9 b9 1) [] rfl (fun β β' hb => rfl) (fun β1 _ _ _ _ gq gh kq => fP (gq.1.trans rfl) T.fld154_1 kq) ?_
        refine stv (d := 67) (fun β1 => int ((ix want k1).2)) [9] rfl (fun β β' hb => rfl) (fun β1 _ _ _ _ gq gh kq => lP (gq.1.trans rfl) (gh.1.trans rfl) rfl T.one3 kq) ?_
        refine stv (d := 68) (fun β1 => sl 1 intE [((ix want k1).2)]) [] rfl (fun β β' hb => rfl) (fun β1 _ _ _ _ gq gh kq => bsE (enc := intE) (xs := [((ix want k1).2)]) (css := [[int ((ix want k1).2)]]) T.mk28 ⟨rfl, rfl, p1 (φ := int ((ix want k1).2)) (by exact (gq.1.trans rfl)), trivial⟩ rfl rfl rfl rfl kq) ?_
        refine stc (d := 69) (e := 3) (n := 1) (enc := intE) (xs := (ix xss2 (((ix want k1).1).toNat)) ++ [((ix want k1).2)]) 99 [99] rfl (fun β1 _ _ _ _ gq gh kq => ap (key := 99) (zs := [((ix want k1).2)]) (fun h => eqv_of (gq.1.trans rfl) h) (gh.1.trans rfl) (gq.2.1.trans rfl) rfl T.mk28 (by unfold maxL at *; simp; omega) (by unfold maxL at *; simp; omega) fun v => kq v) ?_
        refine stv (d := 70) (fun β1 => eptr 25 v25 1 (((ix want k1).1).toNat) 0) [25] rfl (fun β β' hb => rfl) (fun β1 _ _ _ _ gq gh kq => iO (gq.1.trans rfl) (gh.1.trans rfl) (gq.2.1.trans rfl) T.sl134 (by omega) (by omega) kq) ?_
        refine stw 25 (fun β1 => own v25 28 1 eqvE (us2.set (((ix want k1).1).toNat) (sv (β1 11)))) [25] rfl (fun β β' hb => by first | rw [hb 11 rfl] | (dsimp only; rw [hb 11 rfl])) (fun β1 _ _ _ _ gq gh kq => sO (φ := eqv (sv (β1 11))) (gq.1.trans rfl) (gh.1.trans rfl) ((gq.2.1.trans rfl).trans osl_is) T.one28 (by first | exact gN (by omega) | exact gI (by omega) (by omega)) rfl (y' := (sv (β1 11))) rfl kq) ?_
        refine pnH fun β1 => (nl (eb (th (rg (gvB (us := us2) 251 99 (((ix want k1).1).toNat) rfl rfl (by decide) (by omega) (bi rfl rfl (b_add (by unfold I64; omega)) (mv (nl ?_))))))))
        have hN0 : (k1 + 1) ≤ want.length := by
          first | omega | simp_all
        have hN1 : (us2.set (((ix want k1).1).toNat) (sv (β1 11))).length = s.states.length ∧ SetsOK s (want.take (k1 + 1)) (xss2.set (((ix want k1).1).toNat) ((ix xss2 (((ix want k1).1).toNat)) ++ [((ix want k1).2)])) := by
          refine ⟨by simpa using hul2, ?_⟩
          rw [take_s hc1]
          have := sets_add hS hw0 hw1
          unfold setsAdd at this
          rw [if_neg hc2] at this
          exact this
        exact ln (⟨k1 + 1, us2.set (((ix want k1).1).toNat) (sv (β1 11)), xss2.set (((ix want k1).1).toNat) ((ix xss2 (((ix want k1).1).toNat)) ++ [((ix want k1).2)])⟩ : Nat × (List Value) × (List (List Int))) ⟨hN0, hN1⟩ (by first | omega | (dsimp only; omega)) ⟨id, id, id, id, id, id, id, trivial⟩ ⟨⟨rfl, id⟩, ⟨rfl, id⟩, ⟨rfl, id⟩, ⟨rfl, id⟩, ⟨rfl, id⟩, trivial⟩
      · try simp at hc2
        refine gvSC 251 99 (((ix want k1).1).toNat) rfl rfl (by decide) (gK (by omega)) (gK (by omega)) (sk (eb (th (rg (bi rfl rfl (b_add (by unfold I64; omega)) (mv (nl ?_)))))))
        have hN0 : (k1 + 1) ≤ want.length := by
          first | omega | simp_all
        have hN1 : us2.length = s.states.length ∧ SetsOK s (want.take (k1 + 1)) xss2 := by
          refine ⟨hul2, ?_⟩
          rw [take_s hc1]
          have := sets_add hS hw0 hw1
          unfold setsAdd at this
          rw [if_pos hc2] at this
          exact this
        exact ln (⟨k1 + 1, us2, xss2⟩ : Nat × (List Value) × (List (List Int))) ⟨hN0, hN1⟩ (by first | omega | (dsimp only; omega)) ⟨id, id, id, id, id, id, id, trivial⟩ ⟨⟨rfl, id⟩, ⟨rfl, id⟩, ⟨rfl, id⟩, ⟨rfl, id⟩, ⟨rfl, id⟩, trivial⟩
    · try simp at hc1
      have hSE : SetsOK s want xss2 := by rw [show k1 = want.length by omega, List.take_length] at hS; exact hS
      have hne0 : 0 < (ix s.states 0).accept.length := hw.ne 0 (by omega)
      refine ex (xt_ (xt_ (xb (th (sq (rg (fP rfl T.fld25_1 (lP rfl rfl rfl T.one23 (iF rfl rfl T.sl23 (by omega) (gK (k := 0) (by omega)) (fF rfl T.fld69_0 (lF rfl rfl T.one28 (iF rfl rfl T.sl28 (by omega) (gK (k := 0) (by omega)) (lF rfl rfl T.one3 (bd (css := [(0, _), (1, _)]) T.st154 (ex_cons (ex_cons (ex_nil))) ⟨rfl, rfl, p1 (φ := int 0) rfl, ⟨rfl, rfl, p1 (φ := int (ix ((ix s.states 0).accept) 0)) rfl, trivial⟩⟩ (al (key := 10) T.z154 (ex_cons (ex_cons (ex_nil))) fun b10 => (sPA (cs' := [int 0, int (ix ((ix s.states 0).accept) 0)]) rfl rfl rfl T.agg154 rfl rfl (nl (th (sq (sq (rg (mv (lnF rfl T.sl108 (bi rfl rfl b_gtr (nl (th ?_))))))))))))))))))))))))))
      refine jn (κ := Int × Int) (fun p => [(2, ptr 2 b2 0), (4, ptr 4 b4 0), (5, ptr 5 b5 0), (10, ptr 10 b10 0)]) (fun p => [(2, cell b2 [sl 1 strE s.actions, sl 2 stateE s.states]), (4, cell b4 [eqv (.slice none 0 0), eqv (.slice none 0 0)]), (5, cell b5 [osl 25 v25]), (10, cell b10 [int p.1, int p.2]), (25, own v25 28 1 eqvE us2), (251, bigown us2 3 1 intE xss2 none)]) (fun p => (p.1, p.2) = firstW s want) ?_ ?_
      ·
        refine cd rfl (fun hc3 => ?_) (fun hc3 => ?_)
        · try simp at hc3
          refine rg (mv (iF rfl rfl T.sl108 (by omega) (gK (k := 0) (by omega)) (lFA rfl T.agg154 (Nat.le_of_ble_eq_true rfl) (sPA (cs' := [int ((ix want 0).1), int ((ix want 0).2)]) rfl rfl rfl T.agg154 rfl rfl (nl ?_)))))
          have hN0 : (((ix want 0).1), ((ix want 0).2)) = firstW s want := by
            unfold firstW; rw [if_pos (by omega)]
          exact jx ⟨(ix want 0).1, (ix want 0).2⟩ hN0 ⟨id, id, id, id, trivial⟩ ⟨⟨rfl, id⟩, ⟨rfl, id⟩, ⟨rfl, id⟩, ⟨rfl, id⟩, ⟨rfl, id⟩, ⟨rfl, id⟩, trivial⟩
        · try simp at hc3
          refine sk ?_
          have hN0 : ((0 : Int), (ix ((ix s.states 0).accept) 0)) = firstW s want := by
            unfold firstW; rw [if_neg (by simp [hc3])]
          exact jx ⟨(0 : Int), ix ((ix s.states 0).accept) 0⟩ hN0 ⟨id, id, id, id, trivial⟩ ⟨⟨rfl, id⟩, ⟨rfl, id⟩, ⟨rfl, id⟩, ⟨rfl, id⟩, ⟨rfl, id⟩, ⟨rfl, id⟩, trivial⟩
      · intro ⟨f1, f2⟩ hG
        have hJ3 : (f1, f2) = firstW s want := hG
        have hfo := first_ok hT hw hSE
        rw [← hJ3] at hfo
        obtain ⟨hfo0, hfo1, hfo2⟩ := hfo
        dsimp only at hfo0 hfo1 hfo2
        have hfb := acc_bd (hT.st f1.toNat (by omega)) (sets_acc hw hSE (fun _ h => h) (by omega) hfo2)
        skip
        show At _ _ _ [(2, ptr 2 b2 0), (4, ptr 4 b4 0), (5, ptr 5 b5 0), (10, ptr 10 b10 0)] [(2, cell b2 [sl 1 strE s.actions, sl 2 stateE s.states]), (4, cell b4 [eqv (.slice none 0 0), eqv (.slice none 0 0)]), (5, cell b5 [osl 25 v25]), (10, cell b10 [int f1, int f2]), (25, own v25 28 1 eqvE us2), (251, bigown us2 3 1 intE xss2 none)]
        refine th (sq (rg (mkm (key := 86) (kE := pairV) (dom := pairD) (vE := intV) fun b86 => (lPA rfl rfl T.agg154 rfl (AL.insert (q := (f1, f2)) (u := 0) rfl rfl agg_pair rfl T.map157 ⟨⟨by omega, by omega⟩, ⟨by omega, by omega⟩⟩ (mv (al (key := 11) T.z157 (ex_cons (ex_nil)) fun b11 => (sP (φ := mpv 86 b86) rfl rfl rfl T.one157 rfl (nl (th (sq (rg (lPA rfl rfl T.agg154 rfl (bsO 90 (enc := pairE) (xs := [(f1, f2)]) (css := [[int f1, int f2]]) T.mk108 ⟨rfl, rfl, pA (cs := [int f1, int f2]) rfl, trivial⟩ rfl rfl rfl rfl fun v90 => (al (key := 12) T.z108 (ex_cons (ex_nil)) fun b12 => (storePO rfl rfl rfl rfl T.one108 rfl (nl (th (sq (rg (fP rfl T.fld25_0 (lP rfl rfl rfl T.one22 (calW (φs := [sl 1 strE s.actions]) (φ := fre w0.heap.size (sl 1 strE s.actions)) ⟨rfl, trivial⟩ (prog.sClonestrE_ok _ (by omega)) T.ent97 (fun N hN => fun h => nw_mono (hN) h) (bd (css := [(0, _)]) T.st55 (ex_cons (ex_cons (ex_nil))) ⟨rfl, rfl, p1 (φ := fre w0.heap.size (sl 1 strE s.actions)) rfl, trivial⟩ (al (key := 13) T.z55 (ex_cons (ex_cons (ex_nil))) fun b13 => (sPA (cs' := [fre w0.heap.size (sl 1 strE s.actions), eqv (.slice none 0 0)]) rfl rfl rfl T.agg55 rfl rfl (nl (th (sq (sq (rg (al (key := 14) T.z3 (ex_cons (ex_nil)) fun b14 => (sP (φ := int 0) rfl rfl rfl T.one3 rfl (nl (th (bk ?_))))))))))))))))))))))))))))))))))))
        refine nwC 130 85 1 (edgesN w0.heap.size) (kncC 13 1 (osl 130 (.slice none 0 0)) rfl rfl eq_osl ?_)
        have hI2_0 : WI s xss2 (f1, f2) 0 ([(f1, f2)] : List (Int × Int)) (mset ([] : List ((Int × Int) × Int)) (f1, f2) 0) ([] : List (List (Int × Int))) := by
          exact wi_zero ⟨hfo0, hfo1, hfo2⟩
        refine lp (κ := Nat × Nat × Value × (List (Int × Int)) × (List ((Int × Int) × Int)) × Value × (List (List (Int × Int)))) (fun p => [(2, ptr 2 b2 0), (4, ptr 4 b4 0), (5, ptr 5 b5 0), (11, ptr 11 b11 0), (12, ptr 12 b12 0), (13, ptr 13 b13 0), (14, ptr 14 p.2.1 0)]) (fun p => [(2, cell b2 [sl 1 strE s.actions, sl 2 stateE s.states]), (4, cell b4 [eqv (.slice none 0 0), eqv (.slice none 0 0)]), (5, cell b5 [osl 25 v25]), (10, cell b10 [int f1, int f2]), (11, cell b11 [mpv 86 b86]), (12, cell b12 [osl 90 p.2.2.1]), (13, cell b13 [fre w0.heap.size (sl 1 strE s.actions), osl 130 p.2.2.2.2.2.1]), (14, cell p.2.1 [int (p.1 : Int)]), (25, own v25 28 1 eqvE us2), (86, mp b86 pairV pairD intV p.2.2.2.2.1), (90, own p.2.2.1 154 2 pairE p.2.2.2.1), (130, own p.2.2.2.2.2.1 85 1 (edgesN w0.heap.size) p.2.2.2.2.2.2), (251, bigown us2 3 1 intE xss2 none)]) (fun p => WI s xss2 (f1, f2) p.1 p.2.2.2.1 p.2.2.2.2.1 p.2.2.2.2.2.2) (fun p => s.states.length + want.length - p.1) ⟨0, b14, v90, ([(f1, f2)] : List (Int × Int)), mset ([] : List ((Int × Int) × Int)) (f1, f2) 0, (.slice none 0 0), ([] : List (List (Int × Int)))⟩ hI2_0 ⟨id, id, id, id, id, id, id, trivial⟩ ⟨⟨rfl, id⟩, ⟨rfl, id⟩, ⟨rfl, id⟩, ⟨rfl, id⟩, ⟨rfl, id⟩, ⟨rfl, id⟩, ⟨rfl, id⟩, ⟨rfl, id⟩, ⟨rfl, id⟩, ⟨rfl, id⟩, ⟨rfl, id⟩, ⟨rfl, id⟩, ⟨rfl, id⟩, trivial⟩ ?_
        intro ⟨i, c14, v, q, mm, u130, outs⟩ hG2
        have hWI : WI s xss2 (f1, f2) i q mm outs := hG2
        show Ct _ _ _ _ [(2, ptr 2 b2 0), (4, ptr 4 b4 0), (5, ptr 5 b5 0), (11, ptr 11 b11 0), (12, ptr 12 b12 0), (13, ptr 13 b13 0), (14, ptr 14 c14 0)] [(2, cell b2 [sl 1 strE s.actions, sl 2 stateE s.states]), (4, cell b4 [eqv (.slice none 0 0), eqv (.slice none 0 0)]), (5, cell b5 [osl 25 v25]), (10, cell b10 [int f1, int f2]), (11, cell b11 [mpv 86 b86]), (12, cell b12 [osl 90 v]), (13, cell b13 [fre w0.heap.size (sl 1 strE s.actions), osl 130 u130]), (14, cell c14 [int (i : Int)]), (25, own v25 28 1 eqvE us2), (86, mp b86 pairV pairD intV mm), (90, own v 154 2 pairE q), (130, own u130 85 1 (edgesN w0.heap.size) outs), (251, bigown us2 3 1 intE xss2 none)] _
        have hql := wq_len hWI.wq hSE
        have hoi := hWI.il
        have hol : outs.length = i := by rw [hWI.out]; simp
        refine sq (sq (rg (lP rfl rfl rfl T.one3 (lP rfl rfl rfl T.one108 (lnO rfl rfl T.sl108 (bi rfl rfl b_lss (nl (th ?_))))))))
        refine cd rfl (fun hc4 => ?_) (fun hc4 => ?_)
        · try simp at hc4
          obtain ⟨hq0, hq1, hq2⟩ := hWI.wq.bd _ (ix_memS hc4)
          have hqb := acc_bd (hT.st ((ix q i).1).toNat (by omega)) (sets_acc hw hSE (fun _ h => h) (by omega) hq2)
          refine sk (th (sq (bk (sq (rg (al (key := 15) T.z85 (ex_cons (ex_nil)) fun b15 => (nl (th (sq (sq (rg (nw 150 128 2 pairE (knc 15 0 (osl 150 (.slice none 0 0)) rfl rfl eq_osl (lP rfl rfl rfl T.one108 (lP rfl rfl rfl T.one3 (iO rfl rfl rfl T.sl108 (by omega) (by omega) (fO rfl T.fld154_1 (lO rfl rfl (by first | exact gN (by omega) | exact gI (by omega) (by omega)) rfl T.one3 (cal0 (φs := [int ((ix q i).2)]) (φ := clo 115 [fp [int ((ix q i).2)]]) ⟨rfl, trivial⟩ (prog3.In_ok ((ix q i).2)) T.ent95 (nl (th (bk ?_))))))))))))))))))))))
          have hR0 : WN s xss2 (f1, f2) i (ix q i) q mm outs 0 ([] : List (Int × Int)) := by
            exact wn_zero hWI (by omega)
          refine rf (κ := Value × (List (Int × Int)) × (List ((Int × Int) × Int)) × Value × (List (Int × Int))) 900 (fun p => [(2, cell b2 [sl 1 strE s.actions, sl 2 stateE s.states]), (4, cell b4 [eqv (.slice none 0 0), eqv (.slice none 0 0)]), (5, cell b5 [osl 25 v25]), (10, cell b10 [int f1, int f2]), (11, cell b11 [mpv 86 b86]), (12, cell b12 [osl 90 p.1]), (13, cell b13 [fre w0.heap.size (sl 1 strE s.actions), osl 130 u130]), (14, cell c14 [int (i : Int)]), (15, cell b15 [osl 150 p.2.2.2.1]), (25, own v25 28 1 eqvE us2), (86, mp b86 pairV pairD intV p.2.2.1), (90, own p.1 154 2 pairE p.2.1), (130, own u130 85 1 (edgesN w0.heap.size) outs), (150, own p.2.2.2.1 128 2 pairE p.2.2.2.2), (251, bigown us2 3 1 intE xss2 none)]) (fun iR p => WN s xss2 (f1, f2) i (ix q i) p.2.1 p.2.2.1 outs iR p.2.2.2.2) (fun c p => False) rfl (InIt (ix q i).2 (by omega) (by omega)) T.ent115 rfl (fun _ => rfl) (fun _ => rfl) ⟨v, q, mm, (.slice none 0 0), ([] : List (Int × Int))⟩ hR0 ⟨⟨rfl, id⟩, ⟨rfl, id⟩, ⟨rfl, id⟩, ⟨rfl, id⟩, ⟨rfl, id⟩, ⟨rfl, id⟩, ⟨rfl, id⟩, ⟨rfl, id⟩, ⟨rfl, id⟩, ⟨rfl, id⟩, ⟨rfl, id⟩, ⟨rfl, id⟩, ⟨rfl, id⟩, ⟨rfl, id⟩, ⟨rfl, id⟩, trivial⟩ ?_ ?_ (fun k h => h.elim) (fun id k h => h.elim) (fun c k h => h.elim)
          · intro m0 ⟨v2, q2, mm2, v150, es⟩ x0 hG0 hx0 l R w1 M1 F1 hRd
            have hR0 : WN s xss2 (f1, f2) i (ix q i) q2 mm2 outs m0 es := hG0
            show Ct _ _ _ _ _ ((900, obj l (.loop R)) :: [(2, cell b2 [sl 1 strE s.actions, sl 2 stateE s.states]), (4, cell b4 [eqv (.slice none 0 0), eqv (.slice none 0 0)]), (5, cell b5 [osl 25 v25]), (10, cell b10 [int f1, int f2]), (11, cell b11 [mpv 86 b86]), (12, cell b12 [osl 90 v2]), (13, cell b13 [fre w0.heap.size (sl 1 strE s.actions), osl 130 u130]), (14, cell c14 [int (i : Int)]), (15, cell b15 [osl 150 v150]), (25, own v25 28 1 eqvE us2), (86, mp b86 pairV pairD intV mm2), (90, own v2 154 2 pairE q2), (130, own u130 85 1 (edgesN w0.heap.size) outs), (150, own v150 128 2 pairE es), (251, bigown us2 3 1 intE xss2 none)]) _
            obtain ⟨a, rfl, ha63, hha⟩ := listOf_get hx0
            have hql2 := wq_len hR0.wi.wq hSE
            have hi2 := hR0.hi
            have hpe1 : (ix q2 i).1 = (ix q i).1 := by rw [hR0.pe]
            have hix := hT.st ((ix q i).1).toNat (by omega)
            have hxl := hix.len
            have hxl2 : (ix s.states ((ix q2 i).1).toNat).next.length = s.actions.length := by rw [hpe1]; exact hxl
            have hgo := or_go hT (x := ((ix q i).1).toNat) (by omega) ((orAll_has _ _).2 ⟨_, sets_acc hw hSE (fun _ h => h) (by omega) hq2, hha⟩)
            have hto : tgt s (ix q i) (a : Int) = ix (ix s.states ((ix q2 i).1).toNat).next a := by unfold tgt; rw [hpe1]; rfl
            have htg : tgt s (ix q i) (a : Int) = ix (nxt s ((ix q i).1).toNat) a := rfl
            have hg0 : 0 ≤ tgt s (ix q i) (a : Int) := by omega
            have hg1 : tgt s (ix q i) (a : Int) < (s.states.length : Int) := by omega
            have hxs2 := hSE.len
            have hS2 := sets_len hT hw hSE (fun _ h => h) (x := (tgt s (ix q i) (a : Int)).toNat) (by omega)
            refine rg (ag (nl (aq hRd rfl (bk (sq (dr (nh := 14) [0, 1, 0, 0, 12, 28, 60, 127, 255, 511, 0, 2047, 4095, 8191] T.mixed (by kernel_rfl) ?_))))))
            refine st_ rfl (fun _ _ _ gq kq => fP (gq.1.trans rfl) T.fld25_1 kq) ?_
            refine st_ rfl (fun _ _ _ gq kq => lP (gq.1.trans rfl) rfl rfl T.one23 kq) ?_
            refine st_ rfl (fun _ _ _ gq kq => lP (gq.1.trans rfl) rfl rfl T.one108 kq) ?_
            refine st_ rfl (fun _ _ _ gq kq => lP (gq.1.trans rfl) rfl rfl T.one3 kq) ?_
            refine st_ rfl (fun _ _ _ gq kq => iO (gq.1.trans rfl) rfl (gq.2.1.trans rfl) T.sl108 (by omega) (by omega) kq) ?_
            refine st_ rfl (fun _ _ _ gq kq => fO (gq.1.trans rfl) T.fld154_0 kq) ?_
            refine st_ rfl (fun _ _ _ gq kq => lO (gq.1.trans rfl) rfl (by first | exact gN (by omega) | exact gI (by omega) (by omega)) rfl T.one3 kq) ?_
            refine st_ rfl (fun _ _ _ gq kq => iF (gq.1.trans rfl) (gq.2.1.trans rfl) T.sl23 (by omega) (by first | exact gN (by omega) | exact gI (by omega) (by omega)) kq) ?_
            refine st_ rfl (fun _ _ _ gq kq => fF (gq.1.trans rfl) T.fld69_1 kq) ?_
            refine st_ rfl (fun _ _ _ gq kq => lF (gq.1.trans rfl) rfl T.one28 kq) ?_
            refine st_ rfl (fun _ _ _ gq kq => mv' (gq.1.trans rfl) kq) ?_
            refine st_ rfl (fun _ _ _ gq kq => iF (gq.1.trans rfl) (gq.2.1.trans rfl) T.sl28 (by omega) (by first | exact gN (by omega) | exact gI (by omega) (by omega)) kq) ?_
            refine st_ rfl (fun _ _ _ gq kq => lF (gq.1.trans rfl) rfl T.one3 kq) ?_
            refine st_ rfl (fun _ _ _ gq kq => ag' (gq.1.trans rfl) kq) ?_
            refine pn (nl (th (sq (rg (kn 17 (int (tgt s (ix q i) (a : Int))) rfl (by rw [hto]; exact fun h => h) (lP rfl rfl rfl T.one134 (mv (iO rfl rfl rfl T.sl134 (by omega) (by omega) (lO rfl rfl (by first | exact gN (by omega) | exact gI (by omega) (by omega)) rfl T.one28 (tkB 251 98 ((tgt s (ix q i) (a : Int)).toNat) rfl rfl (by decide) (gK (by omega)) (gK (by omega)) (kn 124 (osl 98 (ix us2 ((tgt s (ix q i) (a : Int)).toNat))) rfl eq_osl (lnO rfl rfl T.sl28 (mv (nl (th (bk ?_))))))))))))))))
            have hI3_0 : 0 ≤ (ix xss2 ((tgt s (ix q i) (a : Int)).toNat)).length := by
              first | omega | simp
            have hI3_1 : WK s xss2 (f1, f2) i (ix q i) q2 mm2 outs m0 (a : Int) 0 es := by
              exact wk_zero hR0 (a : Int)
            refine lp (κ := Nat × Value × (List (Int × Int)) × (List ((Int × Int) × Int)) × Value × (List (Int × Int))) (fun p => [(4, ptr 4 b4 0), (11, ptr 11 b11 0), (12, ptr 12 b12 0), (15, ptr 15 b15 0), (16, int (a : Int)), (17, int (tgt s (ix q i) (a : Int))), (124, osl 98 (ix us2 ((tgt s (ix q i) (a : Int)).toNat))), (125, int ((ix xss2 ((tgt s (ix q i) (a : Int)).toNat)).length : Int)), (126, int (p.1 : Int))]) (fun p => [(2, cell b2 [sl 1 strE s.actions, sl 2 stateE s.states]), (4, cell b4 [eqv (.slice none 0 0), eqv (.slice none 0 0)]), (5, cell b5 [osl 25 v25]), (10, cell b10 [int f1, int f2]), (11, cell b11 [mpv 86 b86]), (12, cell b12 [osl 90 p.2.1]), (13, cell b13 [fre w0.heap.size (sl 1 strE s.actions), osl 130 u130]), (14, cell c14 [int (i : Int)]), (15, cell b15 [osl 150 p.2.2.2.2.1]), (25, own v25 28 1 eqvE us2), (86, mp b86 pairV pairD intV p.2.2.2.1), (90, own p.2.1 154 2 pairE p.2.2.1), (98, own (ix us2 ((tgt s (ix q i) (a : Int)).toNat)) 3 1 intE (ix xss2 ((tgt s (ix q i) (a : Int)).toNat))), (130, own u130 85 1 (edgesN w0.heap.size) outs), (150, own p.2.2.2.2.1 128 2 pairE p.2.2.2.2.2), (251, bigown us2 3 1 intE xss2 (some ((tgt s (ix q i) (a : Int)).toNat))), (900, obj l (.loop { R with state := .busy }))]) (fun p => (p.1 ≤ (ix xss2 ((tgt s (ix q i) (a : Int)).toNat)).length) ∧ (WK s xss2 (f1, f2) i (ix q i) p.2.2.1 p.2.2.2.1 outs m0 (a : Int) p.1 p.2.2.2.2.2)) (fun p => (ix xss2 ((tgt s (ix q i) (a : Int)).toNat)).length - p.1) ⟨0, v2, q2, mm2, v150, es⟩ ⟨hI3_0, hI3_1⟩ ⟨id, id, id, id, id, id, id, id, id, trivial⟩ ⟨⟨rfl, id⟩, ⟨rfl, id⟩, ⟨rfl, id⟩, ⟨rfl, id⟩, ⟨rfl, id⟩, ⟨rfl, id⟩, ⟨rfl, id⟩, ⟨rfl, id⟩, ⟨rfl, id⟩, ⟨rfl, id⟩, ⟨rfl, id⟩, ⟨rfl, id⟩, ⟨rfl, id⟩, ⟨rfl, id⟩, ⟨rfl, id⟩, ⟨rfl, id⟩, ⟨rfl, id⟩, trivial⟩ ?_
            intro ⟨k3, v3, q3, mm3, v153, es3⟩ hG3
            obtain ⟨hk3, hWK⟩ : (k3 ≤ (ix xss2 ((tgt s (ix q i) (a : Int)).toNat)).length) ∧ (WK s xss2 (f1, f2) i (ix q i) q3 mm3 outs m0 (a : Int) k3 es3) := hG3
            show Ct _ _ _ _ [(4, ptr 4 b4 0), (11, ptr 11 b11 0), (12, ptr 12 b12 0), (15, ptr 15 b15 0), (16, int (a : Int)), (17, int (tgt s (ix q i) (a : Int))), (124, osl 98 (ix us2 ((tgt s (ix q i) (a : Int)).toNat))), (125, int ((ix xss2 ((tgt s (ix q i) (a : Int)).toNat)).length : Int)), (126, int (k3 : Int))] [(2, cell b2 [sl 1 strE s.actions, sl 2 stateE s.states]), (4, cell b4 [eqv (.slice none 0 0), eqv (.slice none 0 0)]), (5, cell b5 [osl 25 v25]), (10, cell b10 [int f1, int f2]), (11, cell b11 [mpv 86 b86]), (12, cell b12 [osl 90 v3]), (13, cell b13 [fre w0.heap.size (sl 1 strE s.actions), osl 130 u130]), (14, cell c14 [int (i : Int)]), (15, cell b15 [osl 150 v153]), (25, own v25 28 1 eqvE us2), (86, mp b86 pairV pairD intV mm3), (90, own v3 154 2 pairE q3), (98, own (ix us2 ((tgt s (ix q i) (a : Int)).toNat)) 3 1 intE (ix xss2 ((tgt s (ix q i) (a : Int)).toNat))), (130, own u130 85 1 (edgesN w0.heap.size) outs), (150, own v153 128 2 pairE es3), (251, bigown us2 3 1 intE xss2 (some ((tgt s (ix q i) (a : Int)).toNat))), (900, obj l (.loop { R with state := .busy }))] _
            refine sq (rg (bi rfl rfl b_lss (nl (th (sq ?_)))))
            refine cd rfl (fun hc5 => ?_) (fun hc5 => ?_)
            · try simp at hc5
              have hub := acc_bd (hT.st (tgt s (ix q i) (a : Int)).toNat (by omega)) (sets_acc hw hSE (fun _ h => h) (by omega) (ix_mem hc5))
              have hq3l := wq_len hWK.wi.wq hSE
              have hesl := wk_len hT hw hSE hWK
              refine sk (th (sq (bk (sq (rg (iO rfl rfl rfl T.sl28 (by omega) (by omega) (lO rfl rfl (by first | exact gN (by omega) | exact gI (by omega) (by omega)) rfl T.one3 (ag (nl (th (sq (rg (lP rfl rfl rfl T.one157 (mv (mv (bd (css := [(0, _), (1, _)]) T.st154 (ex_cons (ex_cons (ex_nil))) ⟨rfl, rfl, p1 (φ := int (tgt s (ix q i) (a : Int))) rfl, ⟨rfl, rfl, p1 (φ := int (ix (ix xss2 ((tgt s (ix q i) (a : Int)).toNat)) k3)) rfl, trivial⟩⟩ (lookup2 (z := (0 : Int)) (q := (tgt s (ix q i) (a : Int), ix (ix xss2 ((tgt s (ix q i) (a : Int)).toNat)) k3)) rfl rfl agg_pair T.map157 ⟨⟨by omega, by omega⟩, ⟨by omega, by omega⟩⟩ T.zvi3 (mv (xt rfl rfl (xt rfl rfl (ag (ag (nl (th (sq (sq (rg (mv (no rfl (nl (th ?_)))))))))))))))))))))))))))))))
              refine cd rfl (fun hc6 => ?_) (fun hc6 => ?_)
              · try simp at hc6
                refine sq (rg (lP rfl rfl rfl T.one108 (lnO rfl rfl T.sl108 (ag (nl (th (sq (rg (lP rfl rfl rfl T.one157 (mv (mv (bd (css := [(0, _), (1, _)]) T.st154 (ex_cons (ex_cons (ex_nil))) ⟨rfl, rfl, p1 (φ := int (tgt s (ix q i) (a : Int))) rfl, ⟨rfl, rfl, p1 (φ := int (ix (ix xss2 ((tgt s (ix q i) (a : Int)).toNat)) k3)) rfl, trivial⟩⟩ (mv (mapUpdate (q := (tgt s (ix q i) (a : Int), ix (ix xss2 ((tgt s (ix q i) (a : Int)).toNat)) k3)) (u := (q3.length : Int)) rfl rfl agg_pair rfl T.map157 ⟨⟨by omega, by omega⟩, ⟨by omega, by omega⟩⟩ (nl (th (rg (lP rfl rfl rfl T.one108 (mv (mv (bd (css := [(0, _), (1, _)]) T.st154 (ex_cons (ex_cons (ex_nil))) ⟨rfl, rfl, p1 (φ := int (tgt s (ix q i) (a : Int))) rfl, ⟨rfl, rfl, p1 (φ := int (ix (ix xss2 ((tgt s (ix q i) (a : Int)).toNat)) k3)) rfl, trivial⟩⟩ (bsE (enc := pairE) (xs := [(tgt s (ix q i) (a : Int), ix (ix xss2 ((tgt s (ix q i) (a : Int)).toNat)) k3)]) (css := [[int (tgt s (ix q i) (a : Int)), int (ix (ix xss2 ((tgt s (ix q i) (a : Int)).toNat)) k3)]]) T.mk108 ⟨rfl, rfl, pA (cs := [int (tgt s (ix q i) (a : Int)), int (ix (ix xss2 ((tgt s (ix q i) (a : Int)).toNat)) k3)]) rfl, trivial⟩ rfl rfl rfl rfl (ap (key := 90) (zs := [(tgt s (ix q i) (a : Int), ix (ix xss2 ((tgt s (ix q i) (a : Int)).toNat)) k3)]) osl_eq rfl rfl rfl T.mk108 (by unfold maxL at *; simp; omega) (by unfold maxL at *; simp; omega) fun v152 => (storePO rfl rfl rfl rfl T.one108 rfl (nl (th (rg (lP rfl rfl rfl T.one85 (mv (mv (bd (css := [(0, _), (1, _)]) T.st128 (ex_cons (ex_cons (ex_nil))) ⟨rfl, rfl, p1 (φ := int (a : Int)) rfl, ⟨rfl, rfl, p1 (φ := int (q3.length : Int)) rfl, trivial⟩⟩ (bsE (enc := pairE) (xs := [((a : Int), (q3.length : Int))]) (css := [[int (a : Int), int (q3.length : Int)]]) T.mk85 ⟨rfl, rfl, pA (cs := [int (a : Int), int (q3.length : Int)]) rfl, trivial⟩ rfl rfl rfl rfl (ap (key := 150) (zs := [((a : Int), (q3.length : Int))]) osl_eq rfl rfl rfl T.mk85 (by unfold maxL at *; simp; omega) (by unfold maxL at *; simp; omega) fun v158 => (storePO rfl rfl rfl rfl T.one85 rfl (nl (eb (th (rg (bi rfl rfl (b_add (by unfold I64; omega)) (mv (nl ?_)))))))))))))))))))))))))))))))))))))))))
                have hN0 : (k3 + 1) ≤ (ix xss2 ((tgt s (ix q i) (a : Int)).toNat)).length := by
                  first | omega | simp_all
                have hN1 : WK s xss2 (f1, f2) i (ix q i) (q3 ++ [(tgt s (ix q i) (a : Int), ix (ix xss2 ((tgt s (ix q i) (a : Int)).toNat)) k3)]) (mset mm3 (tgt s (ix q i) (a : Int), ix (ix xss2 ((tgt s (ix q i) (a : Int)).toNat)) k3) (q3.length : Int)) outs m0 (a : Int) (k3 + 1) (es3 ++ [((a : Int), (q3.length : Int))]) := by
                  exact wk_new hWK hc5 hg0 hg1 (by simpa using hc6)
                exact ln (⟨k3 + 1, v152, q3 ++ [(tgt s (ix q i) (a : Int), ix (ix xss2 ((tgt s (ix q i) (a : Int)).toNat)) k3)], mset mm3 (tgt s (ix q i) (a : Int), ix (ix xss2 ((tgt s (ix q i) (a : Int)).toNat)) k3) (q3.length : Int), v158, es3 ++ [((a : Int), (q3.length : Int))]⟩ : Nat × Value × (List (Int × Int)) × (List ((Int × Int) × Int)) × Value × (List (Int × Int))) ⟨hN0, hN1⟩ (by first | omega | (dsimp only; omega)) ⟨id, id, id, id, id, id, id, id, id, trivial⟩ ⟨⟨rfl, id⟩, ⟨rfl, id⟩, ⟨rfl, id⟩, ⟨rfl, id⟩, ⟨rfl, id⟩, ⟨rfl, id⟩, ⟨rfl, id⟩, ⟨rfl, id⟩, ⟨rfl, id⟩, ⟨rfl, id⟩, ⟨rfl, id⟩, ⟨rfl, id⟩, ⟨rfl, id⟩, ⟨rfl, id⟩, ⟨rfl, id⟩, ⟨rfl, id⟩, ⟨rfl, id⟩, trivial⟩
              · try simp at hc6
                refine sk (th (rg (lP rfl rfl rfl T.one85 (mv (mv (bd (css := [(0, _), (1, _)]) T.st128 (ex_cons (ex_cons (ex_nil))) ⟨rfl, rfl, p1 (φ := int (a : Int)) rfl, ⟨rfl, rfl, p1 (φ := int ((mget mm3 (tgt s (ix q i) (a : Int), ix (ix xss2 ((tgt s (ix q i) (a : Int)).toNat)) k3)).getD (0 : Int))) rfl, trivial⟩⟩ (bsE (enc := pairE) (xs := [((a : Int), (mget mm3 (tgt s (ix q i) (a : Int), ix (ix xss2 ((tgt s (ix q i) (a : Int)).toNat)) k3)).getD (0 : Int))]) (css := [[int (a : Int), int ((mget mm3 (tgt s (ix q i) (a : Int), ix (ix xss2 ((tgt s (ix q i) (a : Int)).toNat)) k3)).getD (0 : Int))]]) T.mk85 ⟨rfl, rfl, pA (cs := [int (a : Int), int ((mget mm3 (tgt s (ix q i) (a : Int), ix (ix xss2 ((tgt s (ix q i) (a : Int)).toNat)) k3)).getD (0 : Int))]) rfl, trivial⟩ rfl rfl rfl rfl (ap (key := 150) (zs := [((a : Int), (mget mm3 (tgt s (ix q i) (a : Int), ix (ix xss2 ((tgt s (ix q i) (a : Int)).toNat)) k3)).getD (0 : Int))]) osl_eq rfl rfl rfl T.mk85 (by unfold maxL at *; simp; omega) (by unfold maxL at *; simp; omega) fun v158 => (storePO rfl rfl rfl rfl T.one85 rfl (nl (eb (th (rg (bi rfl rfl (b_add (by unfold I64; omega)) (mv (nl ?_))))))))))))))))
                have hN0 : (k3 + 1) ≤ (ix xss2 ((tgt s (ix q i) (a : Int)).toNat)).length := by
                  first | omega | simp_all
                have hN1 : WK s xss2 (f1, f2) i (ix q i) q3 mm3 outs m0 (a : Int) (k3 + 1) (es3 ++ [((a : Int), (mget mm3 (tgt s (ix q i) (a : Int), ix (ix xss2 ((tgt s (ix q i) (a : Int)).toNat)) k3)).getD (0 : Int))]) := by
                  exact wk_old hWK hc5 (by simpa using hc6)
                exact ln (⟨k3 + 1, v3, q3, mm3, v158, es3 ++ [((a : Int), (mget mm3 (tgt s (ix q i) (a : Int), ix (ix xss2 ((tgt s (ix q i) (a : Int)).toNat)) k3)).getD (0 : Int))]⟩ : Nat × Value × (List (Int × Int)) × (List ((Int × Int) × Int)) × Value × (List (Int × Int))) ⟨hN0, hN1⟩ (by first | omega | (dsimp only; omega)) ⟨id, id, id, id, id, id, id, id, id, trivial⟩ ⟨⟨rfl, id⟩, ⟨rfl, id⟩, ⟨rfl, id⟩, ⟨rfl, id⟩, ⟨rfl, id⟩, ⟨rfl, id⟩, ⟨rfl, id⟩, ⟨rfl, id⟩, ⟨rfl, id⟩, ⟨rfl, id⟩, ⟨rfl, id⟩, ⟨rfl, id⟩, ⟨rfl, id⟩, ⟨rfl, id⟩, ⟨rfl, id⟩, ⟨rfl, id⟩, ⟨rfl, id⟩, trivial⟩
            · try simp at hc5
              refine ex (xt_ (xt_ (xb (eb (gvSA 251 98 ((tgt s (ix q i) (a : Int)).toNat) rfl rfl (by decide) (gK (by omega)) (gK (by omega)) ?_)))))
              have hN0 : WN s xss2 (f1, f2) i (ix q i) q3 mm3 outs (m0 + 1) es3 := by
                exact wk_end hWK (by omega) hx0
              exact rqN ⟨v3, q3, mm3, v153, es3⟩ hN0 ⟨⟨rfl, id⟩, ⟨rfl, id⟩, ⟨rfl, id⟩, ⟨rfl, id⟩, ⟨rfl, id⟩, ⟨rfl, id⟩, ⟨rfl, id⟩, ⟨rfl, id⟩, ⟨rfl, id⟩, ⟨rfl, id⟩, ⟨rfl, id⟩, ⟨rfl, id⟩, ⟨rfl, id⟩, ⟨rfl, id⟩, ⟨rfl, id⟩, ⟨rfl, id⟩, trivial⟩
          · intro ⟨v2, q2, mm2, v150, es⟩ hG0
            have hR0 : WN s xss2 (f1, f2) i (ix q i) q2 mm2 outs ((listOf 63 (ix q i).2).length) es := hG0
            show At _ _ _ _ [(2, cell b2 [sl 1 strE s.actions, sl 2 stateE s.states]), (4, cell b4 [eqv (.slice none 0 0), eqv (.slice none 0 0)]), (5, cell b5 [osl 25 v25]), (10, cell b10 [int f1, int f2]), (11, cell b11 [mpv 86 b86]), (12, cell b12 [osl 90 v2]), (13, cell b13 [fre w0.heap.size (sl 1 strE s.actions), osl 130 u130]), (14, cell c14 [int (i : Int)]), (15, cell b15 [osl 150 v150]), (25, own v25 28 1 eqvE us2), (86, mp b86 pairV pairD intV mm2), (90, own v2 154 2 pairE q2), (130, own u130 85 1 (edgesN w0.heap.size) outs), (150, own v150 128 2 pairE es), (251, bigown us2 3 1 intE xss2 none)]
            refine eb (th (sq (rg (lP rfl rfl rfl T.one85 ?_))))
            have hql3 := wq_len hR0.wi.wq hSE
            have hes := es_bd hR0 (by omega)
            refine cal (Hi := [(150, own v150 128 2 pairE es)]) (φs := [osl 5 v150, eqv (.func (.func 106) #[] #[])]) ⟨osl_is.trans osl_is.symm, rfl, trivial⟩ (rekeyIO 5 150 (sortE.SortcmpW_ok v150 es (by assumption))) T.ent105 ⟨⟨rfl, id⟩, trivial⟩ fun _ _ => (nl (th (rg (fP rfl T.fld55_1 (lP rfl rfl rfl T.one53 (lP rfl rfl rfl T.one85 (fzN pairE 150 164 noM flat rfl rfl (bsE (enc := edgesN w0.heap.size) (xs := [(sortP es)]) (css := [[fre w0.heap.size (sl 2 pairE (sortP es))]]) T.mk53 ⟨rfl, rfl, p1 (φ := fre w0.heap.size (sl 2 pairE (sortP es))) rfl, trivial⟩ rfl rfl rfl rfl (ap (key := 130) (zs := [(sortP es)]) osl_eq rfl rfl rfl T.mk53 (by unfold maxL at *; simp; omega) (by unfold maxL at *; simp; omega) fun v166 => (fP rfl T.fld55_1 (storePO rfl rfl rfl rfl T.one53 rfl (nl (eb (th (sq (sq (rg (lP rfl rfl rfl T.one3 (nl (th (rg (al (key := 14) T.z3 (ex_cons (ex_nil)) fun b14 => (sP (φ := int (i : Int)) rfl rfl rfl T.one3 rfl (nl (th (rg (lP rfl rfl rfl T.one3 (bi rfl rfl (b_add (by unfold I64; omega)) (sP (φ := int ((i + 1 : Nat) : Int)) rfl rfl rfl T.one3 rfl (nl ?_))))))))))))))))))))))))))))))
            have hN0 : WI s xss2 (f1, f2) (i + 1) q2 mm2 (outs ++ [(sortP es)]) := by
              exact wn_end hR0
            exact ln (⟨i + 1, b14, v2, q2, mm2, v166, outs ++ [(sortP es)]⟩ : Nat × Nat × Value × (List (Int × Int)) × (List ((Int × Int) × Int)) × Value × (List (List (Int × Int)))) hN0 (by first | omega | (dsimp only; omega)) ⟨id, id, id, id, id, id, id, trivial⟩ ⟨⟨rfl, id⟩, ⟨rfl, id⟩, ⟨rfl, id⟩, ⟨rfl, id⟩, ⟨rfl, id⟩, ⟨rfl, id⟩, ⟨rfl, id⟩, ⟨rfl, id⟩, ⟨rfl, id⟩, ⟨rfl, id⟩, ⟨rfl, id⟩, ⟨rfl, id⟩, ⟨rfl, id⟩, trivial⟩
        · try simp at hc4
          refine ex (xt_ (xt_ (xb (th (sq (rg (fzcN edgesE 13 130 1 noM (fun _ => rfl) rfl rfl rfl (by decide) (lPA rfl rfl T.agg55 rfl (sPA (cs' := [fre w0.heap.size (sl 1 strE s.actions), fre w0.heap.size (sl 1 edgesE outs)]) rfl rfl rfl T.agg55 rfl rfl (nl (th (rt ?_))))))))))))
          exact rE ⟨⟨s.actions, outs⟩, xss2, q, mm, hSE, by rw [← hJ3, show q.length = i by omega]; exact hWI, rfl⟩ [.cell 4 55] rfl [agg [fre w0.heap.size (sl 1 strE s.actions), fre w0.heap.size (sl 1 edgesE outs)]] ⟨.agg rfl rfl T.agg55 rfl rfl, trivial⟩ (rfl) trivial (by first | exact .inr rfl | exact .inl rfl)
end wit
end Go.Proofs.YtolpjmllmlahfaaDoor
namespace Go.Proofs.YtolpjmllmlahfaaDoor
open AL ref01 ref03 ref04 ref06 prog15 starts Part Rungs LeftM TrimM RoundM BisM BisM5 BisM6 WalkM StepM WitM
set_option linter.all false
namespace JudgM
def offE (es : List PP) : Int := orAll (es.map fun e => ((2 ^ e.1.toNat : Nat) : Int))
abbrev edg (m : SSys) (x : Nat) : List PP := ix m.states x
abbrev offM (m : SSys) (x : Nat) : Int := offE (edg m x)
def edM (m : SSys) (x : Nat) : List (Nat × Nat) := (edg m x).map fun e => (e.1.toNat, e.2.toNat)
structure okSys (m : SSys) : Prop where
  acts : actionsOK m.actions = true
  n8 : m.actions.length ≤ 8
  few0 : 1 ≤ m.states.length
  few1 : m.states.length ≤ 10000
  ed : ∀ x, x < m.states.length → ∀ e ∈ edg m x, 0 ≤ e.1 ∧ e.1 < (m.actions.length : Int) ∧ 0 ≤ e.2 ∧ e.2 < (m.states.length : Int)
  many : ∀ x, x < m.states.length → (edg m x).length ≤ 400000
def SatM (m : SSys) (t : SSpec) : Prop := Sat (offM m) (edM m) t 0 0
structure QJ (m : SSys) (t : SSpec) (q : List Mt) : Prop where
  ne : 0 < q.length
  hd : ix q 0 = ⟨0, 0, -1, 0⟩
  bd : ∀ p ∈ q, 0 ≤ p.s ∧ p.s < (m.states.length : Int) ∧ 0 ≤ p.t ∧ p.t < (t.states.length : Int)
  nd : (q.map pairOf).Nodup
  back : ∀ k, 0 < k → k < q.length → ∃ (b : Nat) (e : PP), (ix q k).before = (b : Int) ∧ (ix q k).action = e.1 ∧ b < k ∧ e ∈ edg m (ix q b).s.toNat ∧ (ix q k).s = e.2 ∧ (ix q k).t = ix (nxt t (ix q b).t.toNat) e.1.toNat ∧ offM m (ix q b).s.toNat ∈ acc t (ix q b).t.toNat
  all : ∀ R, SatR (offM m) (edM m) t R → R 0 0 → ∀ p ∈ q, R p.s.toNat p.t.toNat
def DoneJ (m : SSys) (t : SSpec) (q : List Mt) (k : Nat) : Prop :=
  offM m (ix q k).s.toNat ∈ acc t (ix q k).t.toNat ∧ ∀ e ∈ edg m (ix q k).s.toNat, (e.2, ix (nxt t (ix q k).t.toNat) e.1.toNat) ∈ q.map pairOf
structure MidJ (m : SSys) (t : SSpec) (q : List Mt) (i : Nat) (k : Nat) (q2 : List Mt) (mm2 : List ((Int × Int) × Bool)) : Prop where
  qi : QJ m t q2
  sm : smap mm2 q2
  pre : q <+: q2
  dn : ∀ k, k < i → DoneJ m t q2 k
  al : ∀ e ∈ (edg m (ix q i).s.toNat).take k, (e.2, ix (nxt t (ix q i).t.toNat) e.1.toNat) ∈ q2.map pairOf
structure VJ where
  holds : Bool
  pairs : List PP
  word : List Int
  state : Int
structure JudgeOK (m : SSys) (t : SSpec) (v : VJ) : Prop where
  yes : v.holds = true → SatM m t ∧ v.word = [] ∧ v.state = 0 ∧ ∃ q, QJ m t q ∧ (∀ k, k < q.length → DoneJ m t q k) ∧ v.pairs = sortP (q.map pairOf)
  no : v.holds = false → ¬ SatM m t ∧ v.pairs = [] ∧ ∃ q i, QJ m t q ∧ i < q.length ∧ v.word = wordTo q i ∧ v.state = (ix q i).s ∧ (∀ k, k < i → DoneJ m t q k) ∧ offM m (ix q i).s.toNat ∉ acc t (ix q i).t.toNat
end JudgM
end Go.Proofs.YtolpjmllmlahfaaDoor
namespace Go.Proofs.YtolpjmllmlahfaaDoor
open AL ref01 ref03 ref04 ref06 prog6 prog15 starts Part Rungs LeftM TrimM RoundM MergeM BisM BisM5 BisM6 WalkM StepM WitM JudgM
set_option linter.all false
namespace JudgM2
theorem tS_ne {s : SSpec} (hs : okSpec s) (h0 : ix (hollow s) 0 = false) {x : Nat} (hx : x < (tS s).states.length) : 0 < (acc (tS s) x).length := by
  rw [tS_len] at hx
  rw [tS_acc hx]
  exact List.length_pos_iff.2 (keep_ne (by have := ord_bd hs hx; omega) (ord_solid hs h0 hx))
structure VR where
  holds : Bool
  ladder : List Int
  pairs : List PP
  wit : SSys
structure RefOK (s t : SSpec) (v : VR) : Prop where
  yes : v.holds = true → RefP s t ∧ v.ladder = rungs s ∧ v.wit = ⟨[], []⟩ ∧ (ix (hollow s) 0 = true → v.pairs = []) ∧ (ix (hollow s) 0 = false → ∃ q, QInv (tS s) t q ∧ (∀ k, k < q.length → Done (tS s) t q k) ∧ v.pairs = q.map fun m => (ix (ordS s) m.s.toNat, m.t))
  no : v.holds = false → ¬ RefP s t ∧ v.ladder = [] ∧ v.pairs = [] ∧ ix (hollow s) 0 = false ∧ ∃ q i u, QInv (tS s) t q ∧ i < q.length ∧ u ∈ acc (tS s) (ix q i).s.toNat ∧ u ∉ acc t (ix q i).t.toNat ∧ WitOK (tS s) (pathL (tS s) (wordTo q i) u) v.wit
theorem ref_yes {s t : SSpec} {v : VR} (h : RefOK s t v) : v.holds = true ↔ RefP s t := by
  constructor
  · exact fun e => (h.yes e).1
  · intro hs
    cases e : v.holds with
    | true => rfl
    | false => exact absurd hs (h.no e).1
theorem refP_walk {s t : SSpec} (h0 : ix (hollow s) 0 = false) : RefP s t ↔ RefX (tS s) t := by
  unfold RefP RefX
  constructor
  · rintro (h | h)
    · rw [h0] at h; cases h
    · exact h
  · exact .inr
end JudgM2
end Go.Proofs.YtolpjmllmlahfaaDoor
namespace Go.Proofs.YtolpjmllmlahfaaDoor
open AL Go
set_option maxRecDepth 100000
set_option linter.all false
open ref01 ref03 ref04 ref06 prog prog2 prog3 prog4 prog5 prog6 prog13 prog15 starts search Part Rungs LeftM TrimM RoundM MergeM BisM BisM5 WalkM StepM WitM JudgM JudgM2 refw judg wit
abbrev verR (v : VR) : AV := agg [bl v.holds, ints v.ladder, sl 2 pairE v.pairs, strs v.wit.actions, sl 1 edgesE v.wit.states]
theorem okSpec.small {s : SSpec} (h : okSpec s) : smallSpec s := fun k hk i hi => by
  have := (h.st k hk).ac i hi
  omega
noncomputable def refB (s t : SSpec) : Bool := @decide (RefP s t) (Classical.propDecidable _)
theorem refB_iff {s t : SSpec} : refB s t = true ↔ RefP s t := by unfold refB; simp
theorem holds_refB {s t : SSpec} {v : VR} (h : RefOK s t v) : v.holds = refB s t := by
  rw [Bool.eq_iff_iff, refB_iff]; exact ref_yes h
theorem fine_ok {s t : SSpec} (h : fineE s t = 0) : specOK s = true ∧ specOK t = true ∧ s.actions = t.actions := by
  unfold fineE at h
  split at h
  · next g =>
    split at h
    · next g2 => exact ⟨g.1, g.2, g2⟩
    · exact absurd h (by decide)
  · exact absurd h (by decide)
noncomputable def eqB (s t : SSpec) : Bool := decide (fineE s t = 0) && (refB s t && refB t s)
namespace T
theorem z83 : ZeroIs Tryd.prog 83 [.bool false, .slice none 0 0, .slice none 0 0, .slice none 0 0, .slice none 0 0] := zeroIs_of (by kernel_rfl)
theorem ent73 : Ent Tryd.prog 73 := ent_of (by kernel_rfl)
theorem st81 : StructT Tryd.prog 81 [(0, 1), (1, 1)] [.slice none 0 0, .slice none 0 0] := structT_of (by kernel_rfl) (by kernel_rfl)
theorem st83 : StructT Tryd.prog 83 [(0, 1), (1, 2), (3, 2)] [.bool false, .slice none 0 0, .slice none 0 0, .slice none 0 0, .slice none 0 0] := structT_of (by kernel_rfl) (by kernel_rfl)
theorem agg83 : IsAgg Tryd.prog 83 5 := isAgg_of (by kernel_rfl)
theorem ent74 : Ent Tryd.prog 74 := ent_of (by kernel_rfl)
theorem ent76 : Ent Tryd.prog 76 := ent_of (by kernel_rfl)
theorem ent75 : Ent Tryd.prog 75 := ent_of (by kernel_rfl)
theorem ent77 : Ent Tryd.prog 77 := ent_of (by kernel_rfl)
theorem agg116 : IsAgg Tryd.prog 116 4 := isAgg_of (by kernel_rfl)
theorem z116 : ZeroIs Tryd.prog 116 [.int .i64 0, .int .i64 0, .int .i64 0, .int .i64 0] := zeroIs_of (by kernel_rfl)
theorem fld83_1 : FieldAt Tryd.prog 83 1 1 := fieldAt_of (by kernel_rfl)
theorem fld81_1 : FieldAt Tryd.prog 81 1 1 := fieldAt_of (by kernel_rfl)
theorem ent49 : Ent Tryd.prog 49 := ent_of (by kernel_rfl)
theorem ent50 : Ent Tryd.prog 50 := ent_of (by kernel_rfl)
theorem flv83_0 : FldV Tryd.prog 83 0 0 4 := fldV_of (by kernel_rfl)
end T
namespace refj
theorem Judge_ok (s t : SSpec) (hsv : specOK s = true) (htv : specOK t = true) :
    AL.Fn Tryd.prog 50 [spec s, spec t] [] (ι := { v : VR // RefOK s t v }) (fun _ i => verR i.1) (fun _ => []) := by
  refine fnI Tryd.func50 rfl rfl (fun w0 F0 => ?_)
  have hs := okSpec_of hsv; have ht := okSpec_of htv; have hsm := hs.small; have hf0 := hs.few0; have hf1 := hs.few1; have hg1 := ht.few1; have hmm : s.states.length * t.states.length ≤ 10000 * 10000 := Nat.mul_le_mul hf1 hg1; have hop := ordS_pos s; have hol := ord_le hs
  refine fcC (inhS 0 rfl) (fun hS0 => ?_)
  obtain ⟨hsa0, hss0, hse0⟩ := spec_lens hS0
  refine fcC (inhS 1 rfl) (fun hS1 => ?_)
  obtain ⟨hsa1, hss1, hse1⟩ := spec_lens hS1
  refine sq (rg (bx (key := 2) (cs := [sl 1 strE s.actions, sl 2 stateE s.states]) rfl fun b2 => (bx (key := 3) (cs := [sl 1 strE t.actions, sl 2 stateE t.states]) rfl fun b3 => (al (key := 4) T.z83 (ex_cons (ex_cons (ex_cons (ex_cons (ex_cons (ex_nil)))))) fun b4 => (nl (th (sq (rg (lPA rfl rfl T.agg25 rfl (calW (φs := [agg [sl 1 strE s.actions, sl 2 stateE s.states]]) (φ := tup [agg [sl 1 strE ((trimS s).1.actions), sl 2 stateE ((trimS s).1.states)], sl 1 intE ((trimS s).2)]) ⟨rfl, trivial⟩ (prog9.Trimmed_ok s (by assumption)) T.ent64 (fun N hN => fun h => tup_le (cs := [agg [fre N (sl 1 strE ((trimS s).1.actions)), frb (ix (hollow s) 0) N (sl 2 stateE ((trimS s).1.states))], sl 1 intE ((trimS s).2)]) (ds := [agg [sl 1 strE ((trimS s).1.actions), sl 2 stateE ((trimS s).1.states)], sl 1 intE ((trimS s).2)]) ⟨fun h => agg_le (cs := [fre N (sl 1 strE ((trimS s).1.actions)), frb (ix (hollow s) 0) N (sl 2 stateE ((trimS s).1.states))]) (ds := [sl 1 strE ((trimS s).1.actions), sl 2 stateE ((trimS s).1.states)]) ⟨fun h => nw_le h, fun h => frb_le h, trivial⟩ h, fun h => h, trivial⟩ h) (mv (xt rfl rfl (xt rfl rfl (al (key := 5) T.z25 (ex_cons (ex_cons (ex_nil))) fun b5 => (sPA (cs' := [sl 1 strE ((trimS s).1.actions), sl 2 stateE ((trimS s).1.states)]) rfl rfl rfl T.agg25 rfl rfl (ag (nl (th (sq (rg (lPA rfl rfl T.agg25 rfl (cal0 (φs := [agg [sl 1 strE s.actions, sl 2 stateE s.states]]) (φ := tup [sl 1 intE (if specOK s = true then rungs s else []), int (errOf s)]) ⟨rfl, trivial⟩ (judg.Ladder_ok s (by assumption)) T.ent73 (mv (xt rfl rfl (kn 25 (ints (rungs s)) rfl (by rw [if_pos hsv]; exact fun h => h) (xt rfl rfl (ag (ag (nl (th (sq (sq (rg (mv (fc (slenI 27 rfl) fun hm27 => (lnF rfl T.sl28 (bi rfl rfl b_eql (nl (th ?_)))))))))))))))))))))))))))))))))))))))
  refine cd rfl (fun hc0 => ?_) (fun hc0 => ?_)
  · try simp at hc0
    have hh0 : ix (hollow s) 0 = true := by
      cases h : ix (hollow s) 0 with
      | true => rfl
      | false =>
        exfalso
        rw [trimmed_not h] at hc0
        have h3 := hop
        rw [show ordS s = [] from hc0] at h3
        simp at h3
    refine sq (rg (mv (bd (css := [(0, _)]) T.st81 (ex_cons (ex_cons (ex_nil))) ⟨rfl, rfl, p1 (φ := sl 1 intE (rungs s)) rfl, trivial⟩ (bd (css := [(0, _), (1, _)]) T.st83 (ex_cons (ex_cons (ex_cons (ex_cons (ex_cons (ex_nil)))))) ⟨rfl, rfl, p1 (φ := bl true) rfl, ⟨rfl, rfl, pA (cs := [sl 1 intE (rungs s), eqv (.slice none 0 0)]) rfl, trivial⟩⟩ (sPA (cs' := [bl true, sl 1 intE (rungs s), eqv (.slice none 0 0), eqv (.slice none 0 0), eqv (.slice none 0 0)]) rfl rfl rfl T.agg83 rfl rfl (nl (th (rt (rt_ ?_)))))))))
    refine kncA 4 2 (sl 2 pairE []) rfl rfl slnil ?_
    refine kncA 4 3 (sl 1 strE []) rfl rfl slnil ?_
    refine kncA 4 4 (sl 1 edgesE []) rfl rfl slnil ?_
    exact rE ⟨⟨true, rungs s, [], ⟨[], []⟩⟩, ⟨fun _ => ⟨.inl hh0, rfl, rfl, fun _ => rfl, fun h => absurd h (by rw [hh0]; decide)⟩, fun h => (nomatch (show true = false from h))⟩⟩ [.cell 4 83] rfl [agg [bl true, sl 1 intE (rungs s), sl 2 pairE [], sl 1 strE [], sl 1 edgesE []]] ⟨.agg rfl rfl T.agg83 rfl rfl, trivial⟩ (rfl) trivial (by first | exact .inr rfl | exact .inl rfl)
  · try simp at hc0
    have h00 : ix (hollow s) 0 = false := by
      cases h : ix (hollow s) 0 with
      | false => rfl
      | true => exact absurd (by rw [trimmed_hol h]) hc0
    have hts : (trimS s).1 = tS s := by rw [trimmed_not h00]
    have htf : (trimS s).2 = ordS s := by rw [trimmed_not h00]
    have hto : okSpec (trimS s).1 := by rw [hts]; exact tS_ok hs
    have hm2 : (trimS s).1.states.length * t.states.length ≤ 10000 * 10000 := Nat.mul_le_mul (by rw [hts, tS_len]; omega) hg1
    have hNf : (trimS s).2.length = (trimS s).1.states.length := by rw [hts, htf, tS_len]
    refine sk (th (sq (rg (lPA rfl rfl T.agg25 rfl (lPA rfl rfl T.agg25 rfl (cl (refw.walk_ok ((trimS s).1) t (by assumption) (by assumption)) T.ent74 trivial fun N36 i36 => (mv (xt rfl rfl (xt rfl rfl (xt rfl rfl (ag (ag (ag (nl (th (sq (sq (rg (mv (bi rfl rfl b_geq (nl (th ?_))))))))))))))))))))))
    refine cd rfl (fun hc1 => ?_) (fun hc1 => ?_)
    · try simp at hc1
      obtain ⟨kk, hkk⟩ : ∃ k : Nat, i36.1.2.1 = (k : Int) := ⟨_, (Int.toNat_of_nonneg hc1).symm⟩
      obtain ⟨hnr, hil, hiu, hin⟩ := i36.2.no hc1
      rw [hkk] at hil hiu hin
      rw [Int.toNat_natCast] at hiu hin
      have hkl : kk < i36.1.1.length := by omega
      have hql := WalkM.q_len i36.2.q
      have hlw := wordTo_len (q_back i36.2.q) kk hkl
      have hruns := (q_runs i36.2.q kk hkl).1
      have halive := hruns.alive hto
      have hgo := hruns.go hto
      have hbd := i36.2.q.bd _ (ix_memS hkl)
      have hwants : Wants (trimS s).1 (pathL (trimS s).1 (wordTo i36.1.1 kk) i36.1.2.2) := ⟨pathL_mem hto halive (by rw [hgo, Int.toNat_natCast]; exact hiu), fun x hx => by rw [hts] at hx ⊢; exact tS_ne hs h00 hx, by rw [pathL_len]; omega⟩
      refine sq (knC 10 (int (kk : Int)) rfl (by rw [hkk]; exact fun h => h) (dr (nh := 11) [0, 0, 0, 6, 0, 31, 63, 127, 127, 255, 1023] T.mixed (by kernel_rfl) ?_))
      refine st_ rfl (fun _ _ _ gq kq => lPA (gq.1.trans rfl) rfl T.agg25 rfl kq) ?_
      refine st_ rfl (fun _ _ _ gq kq => mv' (gq.1.trans rfl) kq) ?_
      refine st_ rfl (fun _ _ _ gq kq => mv' (gq.1.trans rfl) kq) ?_
      refine st_ rfl (fun _ _ _ gq kq => cal0 (φs := [sl 4 metE i36.1.1, int (kk : Int)]) (φ := sl 1 intE (wordTo i36.1.1 kk)) ⟨(gq.1.trans rfl), (gq.2.1.trans rfl), trivial⟩ (judg.path_ok i36.1.1 (q_back i36.2.q) kk (by omega)) T.ent76 kq) ?_
      refine st_ rfl (fun _ _ _ gq kq => mv' (gq.1.trans rfl) kq) ?_
      refine st_ rfl (fun _ _ _ gq kq => cal0 (φs := [agg [sl 1 strE ((trimS s).1.actions), sl 2 stateE ((trimS s).1.states)], sl 1 intE (wordTo i36.1.1 kk), int i36.1.2.2]) (φ := tup [sl 2 pairE (pathL ((trimS s).1) (wordTo i36.1.1 kk) i36.1.2.2), bl (decide (i36.1.2.2 ∈ acc ((trimS s).1) (goS ((trimS s).1) (wordTo i36.1.1 kk)).toNat))]) ⟨(gq.1.trans rfl), (gq.2.1.trans rfl), (gq.2.2.1.trans rfl), trivial⟩ (judg.Path_ok ((trimS s).1) (by assumption) (wordTo i36.1.1 kk) (by assumption) i36.1.2.2 (by omega)) T.ent75 kq) ?_
      refine st_ rfl (fun _ _ _ gq kq => mv' (gq.1.trans rfl) kq) ?_
      refine st_ rfl (fun _ _ _ gq kq => xt (gq.1.trans rfl) rfl kq) ?_
      refine st_ rfl (fun _ _ _ gq kq => xt (gq.1.trans rfl) rfl kq) ?_
      refine st_ rfl (fun _ _ _ gq kq => ag' (gq.1.trans rfl) kq) ?_
      refine st_ rfl (fun _ _ _ gq kq => ag' (gq.1.trans rfl) kq) ?_
      refine pn (nl (th (sq (rg (lPA rfl rfl T.agg25 rfl (mv (cl (wit.Witness_ok ((trimS s).1) (by assumption) (pathL ((trimS s).1) (wordTo i36.1.1 kk) i36.1.2.2) (by assumption)) T.ent77 trivial fun N53 i53 => (bd (css := [(3, _)]) T.st83 (ex_cons (ex_cons (ex_cons (ex_cons (ex_cons (ex_nil)))))) ⟨rfl, rfl, pA (cs := [fre N53 (sl 1 strE i53.1.actions), fre N53 (sl 1 edgesE i53.1.states)]) rfl, trivial⟩ (sPA (cs' := [bl false, eqv (.slice none 0 0), eqv (.slice none 0 0), fre N53 (sl 1 strE i53.1.actions), fre N53 (sl 1 edgesE i53.1.states)]) rfl rfl rfl T.agg83 rfl rfl (nl (th (rt (rt_ ?_)))))))))))))
      refine kncA 4 1 (sl 1 intE []) rfl rfl slnil ?_
      refine kncA 4 2 (sl 2 pairE []) rfl rfl slnil ?_
      refine kncA 4 3 (sl 1 strE i53.1.actions) rfl rfl nw_le ?_
      refine kncA 4 4 (sl 1 edgesE i53.1.states) rfl rfl nw_le ?_
      exact rE ⟨⟨false, [], [], i53.1⟩, ⟨fun h => (nomatch (show false = true from h)), fun _ => ⟨fun h => hnr (by rw [hts]; exact (refP_walk h00).1 h), rfl, rfl, h00, i36.1.1, kk, i36.1.2.2, by rw [← hts]; exact i36.2.q, hkl, by rw [← hts]; exact hiu, hin, by rw [← hts]; exact i53.2⟩⟩⟩ [.cell 4 83] rfl [agg [bl false, sl 1 intE [], sl 2 pairE [], sl 1 strE i53.1.actions, sl 1 edgesE i53.1.states]] ⟨.agg rfl rfl T.agg83 rfl rfl, trivial⟩ (rfl) trivial (by first | exact .inr rfl | exact .inl rfl)
    · try simp at hc1
      have hql := WalkM.q_len i36.2.q
      refine sk (th (sq (rg (mv (bd (css := [(0, _)]) T.st81 (ex_cons (ex_cons (ex_nil))) ⟨rfl, rfl, p1 (φ := sl 1 intE (rungs s)) rfl, trivial⟩ (bd (css := [(0, _), (1, _)]) T.st83 (ex_cons (ex_cons (ex_cons (ex_cons (ex_cons (ex_nil)))))) ⟨rfl, rfl, p1 (φ := bl true) rfl, ⟨rfl, rfl, pA (cs := [sl 1 intE (rungs s), eqv (.slice none 0 0)]) rfl, trivial⟩⟩ (al (key := 14) T.z83 (ex_cons (ex_cons (ex_cons (ex_cons (ex_cons (ex_nil)))))) fun b14 => (sPA (cs' := [bl true, sl 1 intE (rungs s), eqv (.slice none 0 0), eqv (.slice none 0 0), eqv (.slice none 0 0)]) rfl rfl rfl T.agg83 rfl rfl (nl (th (sq (sq (rg (mv (fc (slenI 58 rfl) fun hm58 => (lnF rfl T.sl105 (mv (nl (th (bk ?_))))))))))))))))))))
      refine nwC 140 56 2 pairE (kncC 14 2 (osl 140 (.slice none 0 0)) rfl rfl eq_osl ?_)
      have hI0_0 : 0 ≤ i36.1.1.length := by
        first | omega | simp
      have hI0_1 : ([] : List (Int × Int)) = (i36.1.1.take 0).map (fun m : WalkM.Mt => (ix (trimS s).2 m.s.toNat, m.t)) := by
        rfl
      refine lp (κ := Nat × Value × (List (Int × Int))) (fun p => [(4, ptr 4 b4 0), (6, sl 1 intE ((trimS s).2)), (14, ptr 14 b14 0), (58, sl 4 metE i36.1.1), (59, int (i36.1.1.length : Int)), (60, int (p.1 : Int))]) (fun p => [(2, cell b2 [sl 1 strE s.actions, sl 2 stateE s.states]), (3, cell b3 [sl 1 strE t.actions, sl 2 stateE t.states]), (4, cell b4 [bl false, eqv (.slice none 0 0), eqv (.slice none 0 0), eqv (.slice none 0 0), eqv (.slice none 0 0)]), (5, cell b5 [sl 1 strE ((trimS s).1.actions), sl 2 stateE ((trimS s).1.states)]), (14, cell b14 [bl true, sl 1 intE (rungs s), osl 140 p.2.1, eqv (.slice none 0 0), eqv (.slice none 0 0)]), (140, own p.2.1 56 2 pairE p.2.2)]) (fun p => (p.1 ≤ i36.1.1.length) ∧ (p.2.2 = (i36.1.1.take p.1).map (fun m : WalkM.Mt => (ix (trimS s).2 m.s.toNat, m.t)))) (fun p => i36.1.1.length - p.1) ⟨0, (.slice none 0 0), ([] : List (Int × Int))⟩ ⟨hI0_0, hI0_1⟩ ⟨id, id, id, id, id, id, trivial⟩ ⟨⟨rfl, id⟩, ⟨rfl, id⟩, ⟨rfl, id⟩, ⟨rfl, id⟩, ⟨rfl, id⟩, ⟨rfl, id⟩, trivial⟩ ?_
      intro ⟨k, v, prs⟩ hG0
      obtain ⟨hk0, hI0⟩ : (k ≤ i36.1.1.length) ∧ (prs = (i36.1.1.take k).map (fun m : WalkM.Mt => (ix (trimS s).2 m.s.toNat, m.t))) := hG0
      show Ct _ _ _ _ [(4, ptr 4 b4 0), (6, sl 1 intE ((trimS s).2)), (14, ptr 14 b14 0), (58, sl 4 metE i36.1.1), (59, int (i36.1.1.length : Int)), (60, int (k : Int))] [(2, cell b2 [sl 1 strE s.actions, sl 2 stateE s.states]), (3, cell b3 [sl 1 strE t.actions, sl 2 stateE t.states]), (4, cell b4 [bl false, eqv (.slice none 0 0), eqv (.slice none 0 0), eqv (.slice none 0 0), eqv (.slice none 0 0)]), (5, cell b5 [sl 1 strE ((trimS s).1.actions), sl 2 stateE ((trimS s).1.states)]), (14, cell b14 [bl true, sl 1 intE (rungs s), osl 140 v, eqv (.slice none 0 0), eqv (.slice none 0 0)]), (140, own v 56 2 pairE prs)] _
      have hpl : prs.length ≤ k := by rw [hI0]; simp; omega
      refine sq (rg (bi rfl rfl b_lss (nl (th (sq ?_)))))
      refine cd rfl (fun hc2 => ?_) (fun hc2 => ?_)
      · try simp at hc2
        have hbd := i36.2.q.bd _ (ix_memS hc2)
        refine sk (th (sq (bk (sq (rg (iF rfl rfl T.sl105 (by omega) (by first | exact gN (by omega) | exact gI (by omega) (by omega)) (lFA rfl T.agg116 (Nat.le_of_ble_eq_true rfl) (al (key := 16) T.z116 (ex_cons (ex_cons (ex_cons (ex_cons (ex_nil))))) fun b16 => (sPA (cs' := [int ((ix i36.1.1 k).s), int ((ix i36.1.1 k).t), int ((ix i36.1.1 k).before), int ((ix i36.1.1 k).action)]) rfl rfl rfl T.agg116 rfl rfl (nl (th ?_)))))))))))
        refine drH (nh := 18) [0, 1, 3, 0, 0, 16, 48, 120, 248, 0, 512, 1536, 4088, 8184, 16383, 32767, 65535, 131071] [(none, []), (none, []), (none, [14]), (none, []), (none, []), (none, []), (none, [16]), (none, []), (none, []), (none, []), (none, []), (none, [16]), (none, []), (none, []), (some 140, [140]), (none, []), (none, []), (some 14, [14, 140])] T.mixed (by kernel_rfl) (by kernel_rfl) ?_
        refine stv (d := 64) (fun β0 => ptr 14 b14 1) [] rfl (fun β β' hb => rfl) (fun β0 _ _ _ _ gq gh kq => fP (gq.1.trans rfl) T.fld83_1 kq) ?_
        refine stv (d := 65) (fun β0 => ptr 14 b14 2) [] rfl (fun β β' hb => rfl) (fun β0 _ _ _ _ gq gh kq => fP (gq.1.trans rfl) T.fld81_1 kq) ?_
        refine stv (d := 66) (fun β0 => osl 140 v) [14] rfl (fun β β' hb => rfl) (fun β0 _ _ _ _ gq gh kq => lP (gq.1.trans rfl) (gh.1.trans rfl) rfl T.one58 kq) ?_
        refine stv (d := 67) (fun β0 => sl 1 intE ((trimS s).2)) [] rfl (fun β β' hb => rfl) (fun β0 _ _ _ _ gq gh kq => mv' (gq.1.trans rfl) kq) ?_
        refine stv (d := 68) (fun β0 => ptr 16 b16 0) [] rfl (fun β β' hb => rfl) (fun β0 _ _ _ _ gq gh kq => fP (gq.1.trans rfl) T.fld116_0 kq) ?_
        refine stv (d := 69) (fun β0 => ptr 16 b16 0) [] rfl (fun β β' hb => rfl) (fun β0 _ _ _ _ gq gh kq => fP (gq.1.trans rfl) T.fld114_0 kq) ?_
        refine stv (d := 70) (fun β0 => int ((ix i36.1.1 k).s)) [16] rfl (fun β β' hb => rfl) (fun β0 _ _ _ _ gq gh kq => lP (gq.1.trans rfl) (gh.1.trans rfl) rfl T.one3 kq) ?_
        refine stv (d := 71) (fun β0 => fp [int (ix ((trimS s).2) (((ix i36.1.1 k).s).toNat))]) [] rfl (fun β β' hb => rfl) (fun β0 _ _ _ _ gq gh kq => iF (gq.1.trans rfl) (gq.2.1.trans rfl) T.sl28 (by omega) (by first | exact gN (by omega) | exact gI (by omega) (by omega)) kq) ?_
        refine stv (d := 72) (fun β0 => int (ix ((trimS s).2) (((ix i36.1.1 k).s).toNat))) [] rfl (fun β β' hb => rfl) (fun β0 _ _ _ _ gq gh kq => lF (gq.1.trans rfl) rfl T.one3 kq) ?_
        refine stv (d := 73) (fun β0 => ptr 16 b16 0) [] rfl (fun β β' hb => rfl) (fun β0 _ _ _ _ gq gh kq => fP (gq.1.trans rfl) T.fld116_0 kq) ?_
        refine stv (d := 74) (fun β0 => ptr 16 b16 1) [] rfl (fun β β' hb => rfl) (fun β0 _ _ _ _ gq gh kq => fP (gq.1.trans rfl) T.fld114_1 kq) ?_
        refine stv (d := 75) (fun β0 => int ((ix i36.1.1 k).t)) [16] rfl (fun β β' hb => rfl) (fun β0 _ _ _ _ gq gh kq => lP (gq.1.trans rfl) (gh.1.trans rfl) rfl T.one3 kq) ?_
        refine stv (d := 76) (fun β0 => agg [int (ix ((trimS s).2) (((ix i36.1.1 k).s).toNat)), int ((ix i36.1.1 k).t)]) [] rfl (fun β β' hb => rfl) (fun β0 _ _ _ _ gq gh kq => bd (css := [(0, _), (1, _)]) T.st56 (ex_cons (ex_cons (ex_nil))) ⟨rfl, rfl, p1 (φ := int (ix ((trimS s).2) (((ix i36.1.1 k).s).toNat))) (by exact (gq.1.trans rfl)), ⟨rfl, rfl, p1 (φ := int ((ix i36.1.1 k).t)) (by exact (gq.2.1.trans rfl)), trivial⟩⟩ kq) ?_
        refine stv (d := 77) (fun β0 => sl 2 id [[int (ix ((trimS s).2) (((ix i36.1.1 k).s).toNat)), int ((ix i36.1.1 k).t)]]) [] rfl (fun β β' hb => rfl) (fun β0 _ _ _ _ gq gh kq => bs (css := [[int (ix ((trimS s).2) (((ix i36.1.1 k).s).toNat)), int ((ix i36.1.1 k).t)]]) T.mk58 ⟨rfl, rfl, pA (cs := [int (ix ((trimS s).2) (((ix i36.1.1 k).s).toNat)), int ((ix i36.1.1 k).t)]) (by exact (gq.1.trans rfl)), trivial⟩ rfl rfl rfl kq) ?_
        refine stc (d := 78) (e := 56) (n := 2) (enc := pairE) (xs := prs ++ [(ix ((trimS s).2) (((ix i36.1.1 k).s).toNat), (ix i36.1.1 k).t)]) 140 [140] rfl (fun β0 _ _ _ _ gq gh kq => ap (key := 140) (zs := [(ix ((trimS s).2) (((ix i36.1.1 k).s).toNat), (ix i36.1.1 k).t)]) (fun h => osl_of (gq.1.trans rfl) h) (gh.1.trans rfl) (gq.2.1.trans rfl) rfl T.mk58 (by unfold maxL at *; simp; omega) (by unfold maxL at *; simp; omega) fun v => kq v) ?_
        refine stv (d := 79) (fun β0 => ptr 14 b14 1) [] rfl (fun β β' hb => rfl) (fun β0 _ _ _ _ gq gh kq => fP (gq.1.trans rfl) T.fld83_1 kq) ?_
        refine stv (d := 80) (fun β0 => ptr 14 b14 2) [] rfl (fun β β' hb => rfl) (fun β0 _ _ _ _ gq gh kq => fP (gq.1.trans rfl) T.fld81_1 kq) ?_
        refine stw 14 (fun β0 => cell b14 [bl true, sl 1 intE (rungs s), osl 140 (sv (β0 14)), eqv (.slice none 0 0), eqv (.slice none 0 0)]) [14, 140] rfl (fun β β' hb => by first | rw [hb 14 rfl] | (dsimp only; rw [hb 14 rfl])) (fun β0 _ _ _ _ gq gh kq => storePO (gq.1.trans rfl) (gh.1.trans rfl) (gq.2.1.trans rfl) (gh.2.1.trans rfl) T.one58 rfl kq) ?_
        refine pnH fun β0 => (nl (eb (th (rg (bi rfl rfl (b_add (by unfold I64; omega)) (mv (nl ?_)))))))
        have hN0 : (k + 1) ≤ i36.1.1.length := by
          first | omega | simp_all
        have hN1 : (prs ++ [(ix ((trimS s).2) (((ix i36.1.1 k).s).toNat), (ix i36.1.1 k).t)]) = (i36.1.1.take (k + 1)).map (fun m : WalkM.Mt => (ix (trimS s).2 m.s.toNat, m.t)) := by
          rw [take_s hc2, List.map_append, ← hI0]; rfl
        exact ln (⟨k + 1, (sv (β0 14)), prs ++ [(ix ((trimS s).2) (((ix i36.1.1 k).s).toNat), (ix i36.1.1 k).t)]⟩ : Nat × Value × (List (Int × Int))) ⟨hN0, hN1⟩ (by first | omega | (dsimp only; omega)) ⟨id, id, id, id, id, id, trivial⟩ ⟨⟨rfl, id⟩, ⟨rfl, id⟩, ⟨rfl, id⟩, ⟨rfl, id⟩, ⟨rfl, id⟩, ⟨rfl, id⟩, trivial⟩
      · try simp at hc2
        refine ex (xt_ (xt_ (xb (th (sq (rg (fzc 14 140 2 rfl rfl rfl rfl (lPA rfl rfl T.agg83 rfl (sPA (cs' := [bl true, sl 1 intE (rungs s), sl 2 pairE prs, eqv (.slice none 0 0), eqv (.slice none 0 0)]) rfl rfl rfl T.agg83 rfl rfl (nl (th (rt ?_))))))))))))
        refine kncA 4 3 (sl 1 strE []) rfl rfl slnil ?_
        refine kncA 4 4 (sl 1 edgesE []) rfl rfl slnil ?_
        exact rE ⟨⟨true, rungs s, prs, ⟨[], []⟩⟩, ⟨fun _ => ⟨(refP_walk h00).2 (by rw [← hts]; exact (i36.2.yes (by omega)).1), rfl, rfl, fun h => absurd h (by rw [h00]; decide), fun _ => ⟨i36.1.1, by rw [← hts]; exact i36.2.q, by rw [← hts]; exact (i36.2.yes (by omega)).2, by rw [hI0, show k = i36.1.1.length by omega, List.take_length, htf]⟩⟩, fun h => (nomatch (show true = false from h))⟩⟩ [.cell 4 83] rfl [agg [bl true, sl 1 intE (rungs s), sl 2 pairE prs, sl 1 strE [], sl 1 edgesE []]] ⟨.agg rfl rfl T.agg83 rfl rfl, trivial⟩ (rfl) trivial (by first | exact .inr rfl | exact .inl rfl)
theorem Equal_ok (s t : SSpec) (hs : smallSpec s) (ht : smallSpec t) :
    Fn0 Tryd.prog 26 [spec s, spec t] (tup [bl (eqB s t), int (fineE s t)]) := by
  refine fnI Tryd.func26 rfl rfl (fun w0 F0 => ?_)
  refine fcC (inhS 0 rfl) (fun hS0 => ?_)
  obtain ⟨hsa0, hss0, hse0⟩ := spec_lens hS0
  refine fcC (inhS 1 rfl) (fun hS1 => ?_)
  obtain ⟨hsa1, hss1, hse1⟩ := spec_lens hS1
  refine sq (rg (bx (key := 2) (cs := [sl 1 strE s.actions, sl 2 stateE s.states]) rfl fun b2 => (bx (key := 3) (cs := [sl 1 strE t.actions, sl 2 stateE t.states]) rfl fun b3 => (ag (ag (nl (th (sq (sq (rg (lPA rfl rfl T.agg25 rfl (lPA rfl rfl T.agg25 rfl (cal0 (φs := [agg [sl 1 strE s.actions, sl 2 stateE s.states], agg [sl 1 strE t.actions, sl 2 stateE t.states]]) (φ := int (fineE s t)) ⟨rfl, rfl, trivial⟩ (judg.Fine_ok s t (by assumption) (by assumption)) T.ent49 (ag (nl (th (sq (rg (mv (bi rfl rfl b_neq (nl (th ?_))))))))))))))))))))))
  refine cd rfl (fun hc0 => ?_) (fun hc0 => ?_)
  · try simp at hc0
    refine sq (rg (mv (ag (ag (nl (th (rt (rt_ ?_))))))))
    have hr0 : false = (eqB s t) := by
      unfold eqB; rw [decide_eq_false hc0]; rfl
    have hall : ∀ x0, false = x0 → resAV [bl false, int (fineE s t)] = resAV [bl x0, int (fineE s t)] := by rintro _ rfl; rfl
    exact rE () [.tmp 4, .tmp 5] rfl [bl false, int (fineE s t)] ⟨.tmp rfl, .tmp rfl, trivial⟩ (hall _ hr0) trivial (by first | exact .inr rfl | exact .inl rfl)
  · try simp at hc0
    obtain ⟨hsv, htv, hac⟩ := fine_ok hc0
    refine sk (th (sq (rg (lPA rfl rfl T.agg25 rfl (lPA rfl rfl T.agg25 rfl (cl (refj.Judge_ok s t (by assumption) (by assumption)) T.ent50 trivial fun N15 i15 => (fld1 rfl T.flv83_0 T.one4 rfl (kn 16 (bl (refB s t)) rfl (by rw [holds_refB i15.2]; exact fun h => h) (mv ?_)))))))))
    apply gAnd (t := 17) (pd := 22) rfl
    rotate_left
    · intro hg0 fin
      have hg0' := hg0
      try simp at hg0'
      exact gy rfl rfl rfl hg0 (lPA rfl rfl T.agg25 rfl (gy rfl rfl rfl hg0 (lPA rfl rfl T.agg25 rfl (gy rfl rfl rfl hg0 (cl (refj.Judge_ok t s (by assumption) (by assumption)) T.ent50 trivial fun N20 i20 => (gy rfl rfl rfl hg0 (fld1 rfl T.flv83_0 T.one4 rfl (kn 21 (bl (refB t s)) rfl (by rw [holds_refB i20.2]; exact fun h => h) (pkT rfl hg0 rfl (drp (X := [(21, _), (21, _), (20, _), (19, _), (18, _)]) ⟨rfl, rfl, rfl, rfl, rfl, trivial⟩ (fin)))))))))))
    · intro hg0 fin
      exact gn rfl rfl rfl hg0 rfl rfl (gn rfl rfl rfl hg0 rfl rfl (gn rfl rfl rfl hg0 rfl rfl (gn rfl rfl rfl hg0 rfl rfl (pkF rfl hg0 rfl (drp (X := [(21, _), (20, _), (19, _), (18, _)]) ⟨rfl, rfl, rfl, rfl, trivial⟩ (fin))))))
    refine ag (ag (nl (th (rt ?_))))
    have hr0 : ((refB s t) && (refB t s)) = (eqB s t) := by
      unfold eqB; rw [decide_eq_true hc0]; rfl
    have hr1 : (0 : Int) = (fineE s t) := by
      exact hc0.symm
    have hall : ∀ x0 x1, ((refB s t) && (refB t s)) = x0 → 0 = x1 → resAV [bl ((refB s t) && (refB t s)), int 0] = resAV [bl x0, int x1] := by rintro _ _ rfl rfl; rfl
    exact rE () [.tmp 4, .tmp 5] rfl [bl ((refB s t) && (refB t s)), int 0] ⟨.tmp rfl, .tmp rfl, trivial⟩ (hall _ _ hr0 hr1) trivial (by first | exact .inr rfl | exact .inl rfl)
end refj
end Go.Proofs.YtolpjmllmlahfaaDoor
namespace Go.Proofs.YtolpjmllmlahfaaDoor
open AL Go
set_option maxRecDepth 100000
set_option linter.all false
open ref01 ref03
namespace spoil
end spoil
end Go.Proofs.YtolpjmllmlahfaaDoor
namespace Go.Proofs.YtolpjmllmlahfaaDoor
open AL Go ref01 ref03 ref04 ref06 MergeM Rungs TrimM LeftM TurnM
set_option linter.all false
namespace OwnM
theorem size_le {t : SSpec} {M : Nat} (h : ∀ x ∈ t.states, x.accept.length + x.next.length ≤ M) : size t ≤ t.actions.length + t.states.length + t.states.length * M := by
  have key : ∀ k, k ≤ t.states.length → part t k ≤ t.actions.length + t.states.length + k * M := by
    intro k
    induction k with
    | zero => intro _; unfold part; simp
    | succ k ih =>
      intro hk
      rw [part_succ (by omega), Nat.succ_mul]
      have := ih (by omega)
      have := h (ix t.states k) (ix_memS (by omega))
      omega
  exact key _ (Nat.le_refl _)
theorem ok_acc {s : SSpec} (hs : okSpec s) {x : SState} (hx : x ∈ s.states) : x.accept.length + x.next.length ≤ 264 := by
  obtain ⟨k, hk, rfl⟩ := List.getElem_of_mem hx
  rw [← ix_get hk]
  have h := hs.st k hk
  have := h.acl
  have := h.len
  have := hs.n8
  omega
theorem mout_mem {cl : List Int} {ts : List SState} : ∀ {k : Nat} {x : SState}, k ≤ ts.length → x ∈ mout cl ts k → ∃ y ∈ ts, x = mst cl y
  | 0, x, _, h => by cases h
  | k + 1, x, hk, h => by
    unfold mout at h
    split at h
    · rcases List.mem_append.1 h with h | h
      · exact mout_mem (by omega) h
      · exact ⟨ix ts k, ix_memS (by omega), by simpa using h⟩
    · exact mout_mem (by omega) h
theorem least_size {s : SSpec} (hs : okSpec s) : size (leastR s).1 ≤ 3000000 ∧ (leastR s).2.length ≤ 10000 := by
  have hn8 := hs.n8
  have hf1 := hs.few1
  rw [← merged_eq hs]
  cases h0 : ix (hollow s) 0 with
  | true =>
    rw [merged_hol h0]
    refine ⟨?_, by simpa using hf1⟩
    have h := size_le (t := nothing s.actions) (M := 8) (fun x hx => by
      unfold nothing at hx
      simp at hx
      subst hx
      simpa using hn8)
    unfold nothing at h ⊢
    simp at h ⊢
    omega
  | false =>
    rw [merged_not h0]
    have hol := ord_le hs
    have hto := tS_ok hs
    have hl := tS_len s
    have hm := mout_len (classesR (tS s)) (tS s).states (ordS s).length
    refine ⟨?_, by rw [mat_len]; exact hf1⟩
    have h := size_le (t := ⟨s.actions, mout (classesR (tS s)) (tS s).states (ordS s).length⟩) (M := 264) (fun x hx => by
      obtain ⟨y, hy, rfl⟩ := mout_mem (by omega) hx
      have := ok_acc hto hy
      unfold mst
      simpa using this)
    have h2 : (mout (classesR (tS s)) (tS s).states (ordS s).length).length * 264 ≤ 10000 * 264 := Nat.mul_le_mul_right _ (by omega)
    exact Nat.le_trans h (by
      show s.actions.length + (mout (classesR (tS s)) (tS s).states (ordS s).length).length + (mout (classesR (tS s)) (tS s).states (ordS s).length).length * 264 ≤ 3000000
      omega)
end OwnM
end Go.Proofs.YtolpjmllmlahfaaDoor
namespace Go.Proofs.YtolpjmllmlahfaaDoor
open AL Go
set_option maxRecDepth 100000
set_option linter.all false
open ref01 ref03 ref04 ref06 prog prog2 prog3 prog10 prog11 prog12 prog13 prog14 prog15 starts spoil Part TurnM Itoa OwnM
theorem lst_size (s : SSpec) : size (lstOf s).1 ≤ 3000000 ∧ (lstOf s).2.length ≤ 10000 := by
  unfold lstOf
  split
  · next h => exact least_size (okSpec_of h)
  · exact ⟨by simp [size, part], by simp⟩
namespace T
theorem z50 : ZeroIs Tryd.prog 50 [.slice none 0 0, .slice none 0 0, .slice none 0 0, .slice none 0 0, .slice none 0 0, .slice none 0 0] := zeroIs_of (by kernel_rfl)
end T
namespace prog17
end prog17
end Go.Proofs.YtolpjmllmlahfaaDoor
namespace Go.Proofs.YtolpjmllmlahfaaDoor
open AL ref01 ref03 ref04 ref06 Part Rungs LeftM TrimM
set_option linter.all false
namespace ValidM
theorem lt_pow_of_bits {u n : Nat} (h : ∀ a, u.testBit a = true → a < n) : u < 2 ^ n :=
  Nat.lt_pow_two_of_testBit u (fun i hi => by
    cases hb : u.testBit i with
    | false => rfl
    | true => exact absurd (h i hb) (by omega))
theorem stateOK_of {x : SState} {N n : Nat} (h : okState x N n) : stateOK x (N : Int) n = true := by
  unfold stateOK
  simp only [Bool.and_eq_true, decide_eq_true_eq]
  refine ⟨⟨⟨by rw [h.len], h.rise⟩, List.all_eq_true.2 (fun j hj => ?_)⟩, List.all_eq_true.2 (fun u hu => ?_)⟩
  · obtain ⟨a, ha, rfl⟩ := mem_ix hj
    have := h.nx a (by rw [← h.len]; exact ha)
    simp; omega
  · obtain ⟨i, hi, rfl⟩ := mem_ix hu
    have h1 := h.ac i hi
    have h2 := h.go i hi
    unfold setOK
    rw [Bool.and_eq_true]
    constructor
    · unfold isSet
      have : (ix x.accept i).toNat < 2 ^ n := lt_pow_of_bits (fun a ha => (h2 a (by unfold has; rw [Int.toNat_natCast]; exact ha)).1)
      simp only [Bool.and_eq_true, decide_eq_true_eq, Int.toNat_natCast]
      omega
    · refine List.all_eq_true.2 (fun a ha => ?_)
      obtain ⟨b, rfl, hb, hh⟩ := listOf_mem.1 ha
      have := (h2 b hh).2
      rw [Int.toNat_natCast]; simpa using this
theorem specOK_of {s : SSpec} (h : okSpec s) (h5 : s.states.length ≤ 500) : specOK s = true := by
  unfold specOK
  simp only [Bool.and_eq_true, decide_eq_true_eq]
  exact ⟨⟨⟨h.acts, h.few0⟩, h5⟩, List.all_eq_true.2 (fun x hx => by
    obtain ⟨k, hk, rfl⟩ := List.getElem_of_mem hx
    have := stateOK_of (h.st k hk)
    rwa [ix_get hk] at this)⟩
theorem specOK_few {s : SSpec} (h : specOK s = true) : s.states.length ≤ 500 := by
  unfold specOK at h
  simp only [Bool.and_eq_true, decide_eq_true_eq] at h
  exact h.1.2
end ValidM
end Go.Proofs.YtolpjmllmlahfaaDoor
namespace Go.Proofs.YtolpjmllmlahfaaDoor
open AL Go
set_option maxRecDepth 100000
set_option linter.all false
open ref01 ref03 ref04 ref06 prog prog2 prog3 prog10 prog11 prog12 prog13 prog14 prog15 prog17 starts Part TurnM Itoa OwnM BisM BisM4 BisM5 WalkM StepM WitM JudgM JudgM2 ValidM refw judg wit refj
theorem lst_small {s : SSpec} (h : specOK s = true) : smallSpec (lstOf s).1 := by
  unfold lstOf; rw [if_pos h]; exact (least_ok (okSpec_of h)).small
theorem lst_eq {s : SSpec} (h : specOK s = true) : lstOf s = leastR s ∧ errOf s = 0 := by
  unfold lstOf errOf; rw [if_pos h, if_pos h]; exact ⟨rfl, rfl⟩
theorem least_valid {s : SSpec} (h : specOK s = true) : specOK (leastR s).1 = true := by
  have hs := okSpec_of h
  have := least_le hs
  have h5 := specOK_few h
  exact specOK_of (least_ok hs) (by omega)
theorem eqB_eq {s t : SSpec} (h : fineE s t = 0) : eqB s t = decide ((leastR s).1 = (leastR t).1) := by
  obtain ⟨h1, h2, h3⟩ := fine_ok h
  unfold eqB
  rw [decide_eq_true h, Bool.true_and, Bool.eq_iff_iff, Bool.and_eq_true, refB_iff, refB_iff, decide_eq_true_eq]
  exact ref_least (okSpec_of h1) (okSpec_of h2) h3
theorem uniq_no {s t : SSpec} (h : fineE s t = 0) : (((((decide (errOf s ≠ 0)) || (decide (errOf t ≠ 0))) || (decide (errOf (lstOf s).1 ≠ 0))) || (decide (errOf (lstOf s).1 ≠ 0))) || (!(isOf (lstOf s).1))) = false ∧ (lstOf s).1 = (lstOf (lstOf s).1).1 := by
  obtain ⟨h1, h2, h3⟩ := fine_ok h
  have g := least_valid h1
  have i := least_idem (okSpec_of h1)
  rw [(lst_eq h1).1, (lst_eq h1).2, (lst_eq h2).2, (lst_eq g).2, (lst_eq g).1]
  unfold isOf
  rw [g, i]
  simp
theorem uniq_yes {s t : SSpec} (h : fineE s t = 0) : (eqB s t == decide ((lstOf s).1 = (lstOf t).1)) = true ∧ (lstOf s).1.states.length ≤ s.states.length ∧ (eqB s t = true → (lstOf s).1.states.length ≤ t.states.length) := by
  obtain ⟨h1, h2, h3⟩ := fine_ok h
  rw [(lst_eq h1).1, (lst_eq h2).1, eqB_eq h]
  refine ⟨by simp, least_le (okSpec_of h1), fun e => ?_⟩
  rw [decide_eq_true_eq] at e
  rw [e]; exact least_le (okSpec_of h2)
namespace T
theorem ent26 : Ent Tryd.prog 26 := ent_of (by kernel_rfl)
end T
namespace lstu
theorem LeastUnique_ok (s : SSpec) (hsm : smallSpec s) (t : SSpec) (htm : smallSpec t) :
    Fn0 Tryd.prog 6 [tabbed (spec s), spec t] (bl true) := by
  refine fnI Tryd.func6 rfl rfl (fun w0 F0 => ?_)
  have hzs := lst_size s; have hzt := lst_size t
  refine tbI 0 9999 rfl ?_
  refine fcC (inhS 0 rfl) (fun hS0 => ?_)
  obtain ⟨hsa0, hss0, hse0⟩ := spec_lens hS0
  refine fcC (inhS 1 rfl) (fun hS1 => ?_)
  obtain ⟨hsa1, hss1, hse1⟩ := spec_lens hS1
  refine sq (rg (bx (key := 2) (cs := [sl 1 strE s.actions, sl 2 stateE s.states]) rfl fun b2 => (bx (key := 3) (cs := [sl 1 strE t.actions, sl 2 stateE t.states]) rfl fun b3 => (ag (nl (th (sq (sq (rg (lPA rfl rfl T.agg25 rfl (cal0 (φs := [agg [sl 1 strE s.actions, sl 2 stateE s.states]]) (φ := bl (lightS s)) ⟨rfl, trivial⟩ (prog14.light_ok s) T.ent8 (no rfl (mv ?_)))))))))))))
  apply gOr (t := 21) (pd := 25) rfl
  rotate_left
  · intro hg0 fin
    have hg0' := hg0
    try simp at hg0'
    exact gy rfl rfl rfl hg0 (lPA rfl rfl T.agg25 rfl (gy rfl rfl rfl hg0 (cal0 (φs := [agg [sl 1 strE t.actions, sl 2 stateE t.states]]) (φ := bl (lightS t)) ⟨rfl, trivial⟩ (prog14.light_ok t) T.ent8 (gy rfl rfl rfl hg0 (no rfl (pkF rfl hg0 rfl (drp (X := [(24, _), (23, _), (22, _)]) ⟨rfl, rfl, rfl, trivial⟩ (fin))))))))
  · intro hg0 fin
    exact gn rfl rfl rfl hg0 rfl rfl (gn rfl rfl rfl hg0 rfl rfl (gn rfl rfl rfl hg0 rfl rfl (pkT rfl hg0 rfl (drp (X := [(24, _), (23, _), (22, _)]) ⟨rfl, rfl, rfl, trivial⟩ (fin)))))
  refine nl (th ?_)
  refine cd rfl (fun hc0 => ?_) (fun hc0 => ?_)
  · try simp at hc0
    refine sq (rg (calT (ψ := tab) (φs := []) (φ := bl true) trivial (prog14.awake_ok) T.ent9 9999 rfl rfl (ag (nl (th (rt (rt_ ?_)))))))
    exact rE () [.tmp 4] rfl [bl true] ⟨.tmp rfl, trivial⟩ (rfl) trivial (by first | exact .inr rfl | exact .inl rfl)
  · try simp at hc0
    have hsz := light_size hc0.1; have hzt2 := light_size hc0.2
    refine sk (th (sq (dr (nh := 10) [0, 1, 0, 7, 15, 31, 63, 63, 127, 511] T.mixed (by kernel_rfl) ?_)))
    refine st_ rfl (fun _ _ _ gq kq => lPA (gq.1.trans rfl) rfl T.agg25 rfl kq) ?_
    refine st_ rfl (fun _ _ _ gq kq => calW (φs := [agg [sl 1 strE s.actions, sl 2 stateE s.states]]) (φ := agg [sl 1 strE s.actions, sl 2 stateE s.states]) ⟨(gq.1.trans rfl), trivial⟩ (ref03.Copy_ok s (by omega)) T.ent14 (fun N hN => fun h => agg_le (cs := [fre N (sl 1 strE s.actions), fre N (sl 2 stateE s.states)]) (ds := [sl 1 strE s.actions, sl 2 stateE s.states]) ⟨fun h => nw_le h, fun h => nw_le h, trivial⟩ h) kq) ?_
    refine st_ rfl (fun _ _ _ gq kq => lPA (gq.1.trans rfl) rfl T.agg25 rfl kq) ?_
    refine st_ rfl (fun _ _ _ gq kq => calW (φs := [agg [sl 1 strE t.actions, sl 2 stateE t.states]]) (φ := agg [sl 1 strE t.actions, sl 2 stateE t.states]) ⟨(gq.1.trans rfl), trivial⟩ (ref03.Copy_ok t (by omega)) T.ent14 (fun N hN => fun h => agg_le (cs := [fre N (sl 1 strE t.actions), fre N (sl 2 stateE t.states)]) (ds := [sl 1 strE t.actions, sl 2 stateE t.states]) ⟨fun h => nw_le h, fun h => nw_le h, trivial⟩ h) kq) ?_
    refine st_ rfl (fun _ _ _ gq kq => cal0 (φs := [agg [sl 1 strE s.actions, sl 2 stateE s.states], agg [sl 1 strE t.actions, sl 2 stateE t.states]]) (φ := tup [bl (eqB s t), int (fineE s t)]) ⟨(gq.1.trans rfl), (gq.2.1.trans rfl), trivial⟩ (refj.Equal_ok s t (by assumption) (by assumption)) T.ent26 kq) ?_
    refine st_ rfl (fun _ _ _ gq kq => mv' (gq.1.trans rfl) kq) ?_
    refine st_ rfl (fun _ _ _ gq kq => xt (gq.1.trans rfl) rfl kq) ?_
    refine st_ rfl (fun _ _ _ gq kq => xt (gq.1.trans rfl) rfl kq) ?_
    refine st_ rfl (fun _ _ _ gq kq => ag' (gq.1.trans rfl) kq) ?_
    refine st_ rfl (fun _ _ _ gq kq => ag' (gq.1.trans rfl) kq) ?_
    refine pn (nl (th (sq (sq (rg (mv (bi rfl rfl b_neq (nl (th ?_)))))))))
    refine cd rfl (fun hc1 => ?_) (fun hc1 => ?_)
    · try simp at hc1
      refine sq (rg (calT (ψ := tab) (φs := []) (φ := bl true) trivial (prog14.awake_ok) T.ent9 9999 rfl rfl (ag (nl (th (rt (rt_ ?_)))))))
      exact rE () [.tmp 4] rfl [bl true] ⟨.tmp rfl, trivial⟩ (rfl) trivial (by first | exact .inr rfl | exact .inl rfl)
    · try simp at hc1
      obtain ⟨hsv, htv, hac⟩ := fine_ok hc1
      have hlm := lst_small hsv
      refine sk (th (sq (rg (lPA rfl rfl T.agg25 rfl (calW (φs := [agg [sl 1 strE s.actions, sl 2 stateE s.states]]) (φ := agg [sl 1 strE s.actions, sl 2 stateE s.states]) ⟨rfl, trivial⟩ (ref03.Copy_ok s (by omega)) T.ent14 (fun N hN => fun h => agg_le (cs := [fre N (sl 1 strE s.actions), fre N (sl 2 stateE s.states)]) (ds := [sl 1 strE s.actions, sl 2 stateE s.states]) ⟨fun h => nw_le h, fun h => nw_le h, trivial⟩ h) (tbU (ψ := tab) 40 9999 rfl rfl (calW (φs := [both (agg [sl 1 strE s.actions, sl 2 stateE s.states]) tab]) (φ := tup [agg [sl 1 strE (((lstOf s).1).actions), sl 2 stateE (((lstOf s).1).states)], sl 1 intE ((lstOf s).2), int (errOf s)]) ⟨rfl, trivial⟩ (prog13.Least_ok s (by assumption)) T.ent15 (fun N hN => fun h => tup_le (cs := [agg [fre N (sl 1 strE (((lstOf s).1).actions)), fre N (sl 2 stateE (((lstOf s).1).states))], fre N (sl 1 intE ((lstOf s).2)), int (errOf s)]) (ds := [agg [sl 1 strE (((lstOf s).1).actions), sl 2 stateE (((lstOf s).1).states)], sl 1 intE ((lstOf s).2), int (errOf s)]) ⟨fun h => agg_le (cs := [fre N (sl 1 strE (((lstOf s).1).actions)), fre N (sl 2 stateE (((lstOf s).1).states))]) (ds := [sl 1 strE (((lstOf s).1).actions), sl 2 stateE (((lstOf s).1).states)]) ⟨fun h => nw_le h, fun h => nw_le h, trivial⟩ h, fun h => nw_le h, fun h => h, trivial⟩ h) (mv (xt rfl rfl (xt rfl rfl (xt rfl rfl (al (key := 7) T.z25 (ex_cons (ex_cons (ex_nil))) fun b7 => (sPA (cs' := [sl 1 strE (((lstOf s).1).actions), sl 2 stateE (((lstOf s).1).states)]) rfl rfl rfl T.agg25 rfl rfl (ag (ag (nl (th (sq (rg (lPA rfl rfl T.agg25 rfl (calW (φs := [agg [sl 1 strE t.actions, sl 2 stateE t.states]]) (φ := agg [sl 1 strE t.actions, sl 2 stateE t.states]) ⟨rfl, trivial⟩ (ref03.Copy_ok t (by omega)) T.ent14 (fun N hN => fun h => agg_le (cs := [fre N (sl 1 strE t.actions), fre N (sl 2 stateE t.states)]) (ds := [sl 1 strE t.actions, sl 2 stateE t.states]) ⟨fun h => nw_le h, fun h => nw_le h, trivial⟩ h) (tbU (ψ := tab) 47 9999 rfl rfl (calW (φs := [both (agg [sl 1 strE t.actions, sl 2 stateE t.states]) tab]) (φ := tup [agg [sl 1 strE (((lstOf t).1).actions), sl 2 stateE (((lstOf t).1).states)], sl 1 intE ((lstOf t).2), int (errOf t)]) ⟨rfl, trivial⟩ (prog13.Least_ok t (by assumption)) T.ent15 (fun N hN => fun h => tup_le (cs := [agg [fre N (sl 1 strE (((lstOf t).1).actions)), fre N (sl 2 stateE (((lstOf t).1).states))], fre N (sl 1 intE ((lstOf t).2)), int (errOf t)]) (ds := [agg [sl 1 strE (((lstOf t).1).actions), sl 2 stateE (((lstOf t).1).states)], sl 1 intE ((lstOf t).2), int (errOf t)]) ⟨fun h => agg_le (cs := [fre N (sl 1 strE (((lstOf t).1).actions)), fre N (sl 2 stateE (((lstOf t).1).states))]) (ds := [sl 1 strE (((lstOf t).1).actions), sl 2 stateE (((lstOf t).1).states)]) ⟨fun h => nw_le h, fun h => nw_le h, trivial⟩ h, fun h => nw_le h, fun h => h, trivial⟩ h) (mv (xt rfl rfl (xt rfl rfl (xt rfl rfl (al (key := 10) T.z25 (ex_cons (ex_cons (ex_nil))) fun b10 => (sPA (cs' := [sl 1 strE (((lstOf t).1).actions), sl 2 stateE (((lstOf t).1).states)]) rfl rfl rfl T.agg25 rfl rfl (ag (ag (nl (th (sq (rg (lPA rfl rfl T.agg25 rfl (calW (φs := [agg [sl 1 strE (((lstOf s).1).actions), sl 2 stateE (((lstOf s).1).states)]]) (φ := agg [sl 1 strE (((lstOf s).1).actions), sl 2 stateE (((lstOf s).1).states)]) ⟨rfl, trivial⟩ (ref03.Copy_ok ((lstOf s).1) (by omega)) T.ent14 (fun N hN => fun h => agg_le (cs := [fre N (sl 1 strE (((lstOf s).1).actions)), fre N (sl 2 stateE (((lstOf s).1).states))]) (ds := [sl 1 strE (((lstOf s).1).actions), sl 2 stateE (((lstOf s).1).states)]) ⟨fun h => nw_le h, fun h => nw_le h, trivial⟩ h) (tbU (ψ := tab) 54 9999 rfl rfl (calW (φs := [both (agg [sl 1 strE (((lstOf s).1).actions), sl 2 stateE (((lstOf s).1).states)]) tab]) (φ := tup [agg [sl 1 strE (((lstOf ((lstOf s).1)).1).actions), sl 2 stateE (((lstOf ((lstOf s).1)).1).states)], sl 1 intE ((lstOf ((lstOf s).1)).2), int (errOf ((lstOf s).1))]) ⟨rfl, trivial⟩ (prog13.Least_ok ((lstOf s).1) (by assumption)) T.ent15 (fun N hN => fun h => tup_le (cs := [agg [fre N (sl 1 strE (((lstOf ((lstOf s).1)).1).actions)), fre N (sl 2 stateE (((lstOf ((lstOf s).1)).1).states))], fre N (sl 1 intE ((lstOf ((lstOf s).1)).2)), int (errOf ((lstOf s).1))]) (ds := [agg [sl 1 strE (((lstOf ((lstOf s).1)).1).actions), sl 2 stateE (((lstOf ((lstOf s).1)).1).states)], sl 1 intE ((lstOf ((lstOf s).1)).2), int (errOf ((lstOf s).1))]) ⟨fun h => agg_le (cs := [fre N (sl 1 strE (((lstOf ((lstOf s).1)).1).actions)), fre N (sl 2 stateE (((lstOf ((lstOf s).1)).1).states))]) (ds := [sl 1 strE (((lstOf ((lstOf s).1)).1).actions), sl 2 stateE (((lstOf ((lstOf s).1)).1).states)]) ⟨fun h => nw_le h, fun h => nw_le h, trivial⟩ h, fun h => nw_le h, fun h => h, trivial⟩ h) (mv (xt rfl rfl (xt rfl rfl (xt rfl rfl (al (key := 13) T.z25 (ex_cons (ex_cons (ex_nil))) fun b13 => (sPA (cs' := [sl 1 strE (((lstOf ((lstOf s).1)).1).actions), sl 2 stateE (((lstOf ((lstOf s).1)).1).states)]) rfl rfl rfl T.agg25 rfl rfl (ag (ag (nl (th (sq (rg (lPA rfl rfl T.agg25 rfl (calW (φs := [agg [sl 1 strE (((lstOf s).1).actions), sl 2 stateE (((lstOf s).1).states)]]) (φ := agg [sl 1 strE (((lstOf s).1).actions), sl 2 stateE (((lstOf s).1).states)]) ⟨rfl, trivial⟩ (ref03.Copy_ok ((lstOf s).1) (by omega)) T.ent14 (fun N hN => fun h => agg_le (cs := [fre N (sl 1 strE (((lstOf s).1).actions)), fre N (sl 2 stateE (((lstOf s).1).states))]) (ds := [sl 1 strE (((lstOf s).1).actions), sl 2 stateE (((lstOf s).1).states)]) ⟨fun h => nw_le h, fun h => nw_le h, trivial⟩ h) (tbU (ψ := tab) 61 9999 rfl rfl (cal0 (φs := [both (agg [sl 1 strE (((lstOf s).1).actions), sl 2 stateE (((lstOf s).1).states)]) tab]) (φ := tup [bl (isOf ((lstOf s).1)), int (errOf ((lstOf s).1))]) ⟨rfl, trivial⟩ (prog13.Is_ok ((lstOf s).1) (by assumption)) T.ent16 (mv (xt rfl rfl (xt rfl rfl (ag (ag (nl (th (sq (sq (rg (mv (bi rfl rfl b_neq (mv ?_))))))))))))))))))))))))))))))))))))))))))))))))))))))))))))))))))))
      apply gOr (t := 67) (pd := 70) rfl
      rotate_left
      · intro hg1 fin
        have hg1' := hg1
        try simp at hg1'
        exact gy rfl rfl rfl hg1 (mv (gy rfl rfl rfl hg1 (bi rfl rfl b_neq (pkF rfl hg1 rfl (drp (X := [(69, _), (68, _)]) ⟨rfl, rfl, trivial⟩ (fin))))))
      · intro hg1 fin
        exact gn rfl rfl rfl hg1 rfl rfl (gn rfl rfl rfl hg1 rfl rfl (pkT rfl hg1 rfl (drp (X := [(69, _), (68, _)]) ⟨rfl, rfl, trivial⟩ (fin))))
      refine mv ?_
      apply gOr (t := 71) (pd := 74) rfl
      rotate_left
      · intro hg2 fin
        have hg2' := hg2
        try simp at hg2'
        exact gy rfl rfl rfl hg2 (mv (gy rfl rfl rfl hg2 (bi rfl rfl b_neq (pkF rfl hg2 rfl (drp (X := [(73, _), (72, _)]) ⟨rfl, rfl, trivial⟩ (fin))))))
      · intro hg2 fin
        exact gn rfl rfl rfl hg2 rfl rfl (gn rfl rfl rfl hg2 rfl rfl (pkT rfl hg2 rfl (drp (X := [(73, _), (72, _)]) ⟨rfl, rfl, trivial⟩ (fin))))
      refine mv ?_
      apply gOr (t := 75) (pd := 78) rfl
      rotate_left
      · intro hg3 fin
        have hg3' := hg3
        try simp at hg3'
        exact gy rfl rfl rfl hg3 (mv (gy rfl rfl rfl hg3 (bi rfl rfl b_neq (pkF rfl hg3 rfl (drp (X := [(77, _), (76, _)]) ⟨rfl, rfl, trivial⟩ (fin))))))
      · intro hg3 fin
        exact gn rfl rfl rfl hg3 rfl rfl (gn rfl rfl rfl hg3 rfl rfl (pkT rfl hg3 rfl (drp (X := [(77, _), (76, _)]) ⟨rfl, rfl, trivial⟩ (fin))))
      refine mv ?_
      apply gOr (t := 79) (pd := 82) rfl
      rotate_left
      · intro hg4 fin
        have hg4' := hg4
        try simp at hg4'
        exact gy rfl rfl rfl hg4 (mv (gy rfl rfl rfl hg4 (no rfl (pkF rfl hg4 rfl (drp (X := [(81, _), (80, _)]) ⟨rfl, rfl, trivial⟩ (fin))))))
      · intro hg4 fin
        exact gn rfl rfl rfl hg4 rfl rfl (gn rfl rfl rfl hg4 rfl rfl (pkT rfl hg4 rfl (drp (X := [(81, _), (80, _)]) ⟨rfl, rfl, trivial⟩ (fin))))
      refine mv ?_
      apply gOr (t := 83) (pd := 88) rfl
      rotate_left
      · intro hg5 fin
        have hg5' := hg5
        try simp at hg5'
        exact gy rfl rfl rfl hg5 (lPA rfl rfl T.agg25 rfl (gy rfl rfl rfl hg5 (lPA rfl rfl T.agg25 rfl (gy rfl rfl rfl hg5 (cal0 (φs := [agg [sl 1 strE (((lstOf s).1).actions), sl 2 stateE (((lstOf s).1).states)], agg [sl 1 strE (((lstOf ((lstOf s).1)).1).actions), sl 2 stateE (((lstOf ((lstOf s).1)).1).states)]]) (φ := bl (decide (((lstOf s).1) = ((lstOf ((lstOf s).1)).1)))) ⟨rfl, rfl, trivial⟩ (ref03.Same_ok ((lstOf s).1) ((lstOf ((lstOf s).1)).1)) T.ent19 (gy rfl rfl rfl hg5 (no rfl (pkF rfl hg5 rfl (drp (X := [(87, _), (86, _), (85, _), (84, _)]) ⟨rfl, rfl, rfl, rfl, trivial⟩ (fin))))))))))
      · intro hg5 fin
        exact gn rfl rfl rfl hg5 rfl rfl (gn rfl rfl rfl hg5 rfl rfl (gn rfl rfl rfl hg5 rfl rfl (gn rfl rfl rfl hg5 rfl rfl (pkT rfl hg5 rfl (drp (X := [(87, _), (86, _), (85, _), (84, _)]) ⟨rfl, rfl, rfl, rfl, trivial⟩ (fin))))))
      refine nl (th ?_)
      refine cd rfl (fun hc2 => ?_) (fun hc2 => ?_)
      · skip
        exact absurd hc2 (by rw [(uniq_no hc1).1, decide_eq_true (uniq_no hc1).2]; decide)
      · skip
        refine sk (th (sq (rg (mv (lPA rfl rfl T.agg25 rfl (lPA rfl rfl T.agg25 rfl (cal0 (φs := [agg [sl 1 strE (((lstOf s).1).actions), sl 2 stateE (((lstOf s).1).states)], agg [sl 1 strE (((lstOf t).1).actions), sl 2 stateE (((lstOf t).1).states)]]) (φ := bl (decide (((lstOf s).1) = ((lstOf t).1)))) ⟨rfl, rfl, trivial⟩ (ref03.Same_ok ((lstOf s).1) ((lstOf t).1)) T.ent19 (bi rfl rfl (b_eqlB T.bool4) (mv ?_)))))))))
        apply gAnd (t := 94) (pd := 102) rfl
        rotate_left
        · intro hg6 fin
          have hg6' := hg6
          try simp at hg6'
          exact gy rfl rfl rfl hg6 (fP rfl T.fld25_1 (gy rfl rfl rfl hg6 (lP rfl rfl rfl T.one23 (gy rfl rfl rfl hg6 (fc (slenI 96 rfl) fun hm96 => (lnF rfl T.sl23 (gy rfl rfl rfl hg6 (fP rfl T.fld25_1 (gy rfl rfl rfl hg6 (lP rfl rfl rfl T.one23 (gy rfl rfl rfl hg6 (fc (slenI 99 rfl) fun hm99 => (lnF rfl T.sl23 (gy rfl rfl rfl hg6 (bi rfl rfl b_leq (pkT rfl hg6 rfl (drp (X := [(101, _), (100, _), (99, _), (98, _), (97, _), (96, _), (95, _)]) ⟨rfl, rfl, rfl, rfl, rfl, rfl, rfl, trivial⟩ (fin))))))))))))))))))
        · intro hg6 fin
          exact gn rfl rfl rfl hg6 rfl rfl (gn rfl rfl rfl hg6 rfl rfl (gn rfl rfl rfl hg6 rfl rfl (gn rfl rfl rfl hg6 rfl rfl (gn rfl rfl rfl hg6 rfl rfl (gn rfl rfl rfl hg6 rfl rfl (gn rfl rfl rfl hg6 rfl rfl (pkF rfl hg6 rfl (drp (X := [(101, _), (100, _), (99, _), (98, _), (97, _), (96, _), (95, _)]) ⟨rfl, rfl, rfl, rfl, rfl, rfl, rfl, trivial⟩ (fin)))))))))
        refine mv ?_
        apply gAnd (t := 103) (pd := 115) rfl
        rotate_left
        · intro hg7 fin
          have hg7' := hg7
          try simp at hg7'
          refine gy rfl rfl rfl hg7 (mv (gy rfl rfl rfl hg7 (no rfl (gy rfl rfl rfl hg7 (mv ?_)))))
          apply gOr (t := 106) (pd := 114) rfl
          rotate_left
          · intro hg8 fin
            have hg8' := hg8
            try simp at hg8'
            exact gy rfl rfl rfl hg8 (fP rfl T.fld25_1 (gy rfl rfl rfl hg8 (lP rfl rfl rfl T.one23 (gy rfl rfl rfl hg8 (fc (slenI 108 rfl) fun hm108 => (lnF rfl T.sl23 (gy rfl rfl rfl hg8 (fP rfl T.fld25_1 (gy rfl rfl rfl hg8 (lP rfl rfl rfl T.one23 (gy rfl rfl rfl hg8 (fc (slenI 111 rfl) fun hm111 => (lnF rfl T.sl23 (gy rfl rfl rfl hg8 (bi rfl rfl b_leq (gy rfl rfl rfl hg7 (pkF rfl hg8 rfl (drp (X := [(113, _), (112, _), (111, _), (110, _), (109, _), (108, _), (107, _)]) ⟨rfl, rfl, rfl, rfl, rfl, rfl, rfl, trivial⟩ (fin)))))))))))))))))))
          · intro hg8 fin
            exact gn rfl rfl rfl hg8 rfl rfl (gn rfl rfl rfl hg8 rfl rfl (gn rfl rfl rfl hg8 rfl rfl (gn rfl rfl rfl hg8 rfl rfl (gn rfl rfl rfl hg8 rfl rfl (gn rfl rfl rfl hg8 rfl rfl (gn rfl rfl rfl hg8 rfl rfl (gy rfl rfl rfl hg7 (pkT rfl hg8 rfl (drp (X := [(113, _), (112, _), (111, _), (110, _), (109, _), (108, _), (107, _)]) ⟨rfl, rfl, rfl, rfl, rfl, rfl, rfl, trivial⟩ (fin))))))))))
          exact pkT rfl hg7 rfl (drp (X := [(114, _), (106, _), (105, _), (104, _)]) ⟨rfl, rfl, rfl, rfl, trivial⟩ (fin))
        · intro hg7 fin
          exact gn rfl rfl rfl hg7 rfl rfl (gn rfl rfl rfl hg7 rfl rfl (gn rfl rfl rfl hg7 rfl rfl (gu rfl rfl rfl rfl rfl (gu rfl rfl rfl rfl rfl (gu rfl rfl rfl rfl rfl (gu rfl rfl rfl rfl rfl (gu rfl rfl rfl rfl rfl (gu rfl rfl rfl rfl rfl (gu rfl rfl rfl rfl rfl (gn rfl rfl rfl hg7 rfl rfl (pkF rfl hg7 rfl (drp (X := [(114, _), (113, _), (112, _), (111, _), (110, _), (109, _), (108, _), (107, _), (106, _), (105, _), (104, _)]) ⟨rfl, rfl, rfl, rfl, rfl, rfl, rfl, rfl, rfl, rfl, rfl, trivial⟩ (fin)))))))))))))
        refine mv ?_
        apply gAnd (t := 116) (pd := 118) rfl
        rotate_left
        · intro hg9 fin
          have hg9' := hg9
          try simp at hg9'
          exact gy rfl rfl rfl hg9 (calT (ψ := tab) (φs := []) (φ := bl true) trivial (prog14.awake_ok) T.ent9 9999 rfl rfl (pkT rfl hg9 rfl (drp (X := [(117, _)]) ⟨rfl, trivial⟩ (fin))))
        · intro hg9 fin
          exact gn rfl rfl rfl hg9 rfl rfl (pkF rfl hg9 rfl (drp (X := [(117, _)]) ⟨rfl, trivial⟩ (fin)))
        refine ag (nl (th (rt ?_)))
        have hr0 : (((((eqB s t) == (decide (((lstOf s).1) = ((lstOf t).1)))) && (decide (((((lstOf s).1).states).length : Int) ≤ (s.states.length : Int)))) && ((!(eqB s t)) || (decide (((((lstOf s).1).states).length : Int) ≤ (t.states.length : Int))))) && true) = true := by
          obtain ⟨y1, y2, y3⟩ := uniq_yes hc1
          rw [y1]
          by_cases e : eqB s t = true
          · have := y3 e
            simp [y2, this]
          · simp [y2, e]
        have hall : ∀ x0, (((((eqB s t) == (decide (((lstOf s).1) = ((lstOf t).1)))) && (decide (((((lstOf s).1).states).length : Int) ≤ (s.states.length : Int)))) && ((!(eqB s t)) || (decide (((((lstOf s).1).states).length : Int) ≤ (t.states.length : Int))))) && true) = x0 → resAV [bl (((((eqB s t) == (decide (((lstOf s).1) = ((lstOf t).1)))) && (decide (((((lstOf s).1).states).length : Int) ≤ (s.states.length : Int)))) && ((!(eqB s t)) || (decide (((((lstOf s).1).states).length : Int) ≤ (t.states.length : Int))))) && true)] = resAV [bl x0] := by rintro _ rfl; rfl
        exact rE () [.tmp 4] rfl [bl (((((eqB s t) == (decide (((lstOf s).1) = ((lstOf t).1)))) && (decide (((((lstOf s).1).states).length : Int) ≤ (s.states.length : Int)))) && ((!(eqB s t)) || (decide (((((lstOf s).1).states).length : Int) ≤ (t.states.length : Int))))) && true)] ⟨.tmp rfl, trivial⟩ (hall _ hr0) trivial (by first | exact .inr rfl | exact .inl rfl)
end lstu
end Go.Proofs.YtolpjmllmlahfaaDoor
