/- Walks of the functions of this claim, printed by a program of its own out of annotations. -/
import Derived.Test.YtolpjmllmlahfaaDoorprog3
import Derived.Test.YtolpjmllmlahfaaDoorRungs
namespace Go.Proofs.YtolpjmllmlahfaaDoor
open AL Go
set_option maxRecDepth 100000
set_option linter.all false

open ref01 ref03 ref04 ref06 prog prog2 prog3 Part Rungs
def pairE : Int × Int → List AV := fun p => [int p.1, int p.2]
instance (x : Int × Int) : OneAll (pairE x) := inferInstanceAs (OneAll [int x.1, int x.2])
theorem has_and (t : Int) (a : Nat) : has t (a : Int) = decide (((t.toNat >>> a &&& 1 : Nat) : Int) = 1) := by
  unfold has; rw [Int.toNat_natCast, has_eq]
/-- What the ladder's walk holds in memory. -/
abbrev ladH (c5 c4 c7 : Nat) (w22 w20 : Value) (us : List Value) (v7 : Value) (st : LS) : Hp :=
  [(5, cell c5 [osl 22 w22]), (22, own w22 72 1 eqvE us), (221, bigown us 4 1 blE st.dead none), (4, cell c4 [osl 20 w20]), (20, own w20 3 1 intE st.left), (7, cell c7 [osl 70 v7]), (70, own v7 3 1 intE st.out)]

namespace prog6
namespace T
theorem ent119 : Ent Tryd.prog 119 := ent_of (by kernel_rfl)
theorem fld25_1 : FieldAt Tryd.prog 25 1 1 := fieldAt_of (by kernel_rfl)
theorem one23 : IsOne Tryd.prog 23 := isOne_of (by kernel_rfl)
theorem sl23 : IsSlice Tryd.prog 23 69 2 := isSlice_of (by kernel_rfl)
theorem fld69_0 : FieldAt Tryd.prog 69 0 0 := fieldAt_of (by kernel_rfl)
theorem one28 : IsOne Tryd.prog 28 := isOne_of (by kernel_rfl)
theorem sl28 : IsSlice Tryd.prog 28 3 1 := isSlice_of (by kernel_rfl)
theorem one3 : IsOne Tryd.prog 3 := isOne_of (by kernel_rfl)
theorem one171 : IsOne Tryd.prog 171 := isOne_of (by kernel_rfl)
theorem sl171 : IsSlice Tryd.prog 171 72 1 := isSlice_of (by kernel_rfl)
theorem one72 : IsOne Tryd.prog 72 := isOne_of (by kernel_rfl)
theorem sl72 : IsSlice Tryd.prog 72 4 1 := isSlice_of (by kernel_rfl)
theorem one4 : IsOne Tryd.prog 4 := isOne_of (by kernel_rfl)
theorem mk28 : MakeT Tryd.prog 28 3 1 8 [.int .i64 0] := makeT_of (by kernel_rfl) (by kernel_rfl)
theorem z28 : ZeroIs Tryd.prog 28 [.slice none 0 0] := zeroIs_of (by kernel_rfl)
theorem mk171 : MakeT Tryd.prog 171 72 1 24 [.slice none 0 0] := makeT_of (by kernel_rfl) (by kernel_rfl)
theorem z171 : ZeroIs Tryd.prog 171 [.slice none 0 0] := zeroIs_of (by kernel_rfl)
theorem mk172 : MakeT Tryd.prog 172 58 1 24 [.slice none 0 0] := makeT_of (by kernel_rfl) (by kernel_rfl)
theorem agg69 : IsAgg Tryd.prog 69 2 := isAgg_of (by kernel_rfl)
theorem z69 : ZeroIs Tryd.prog 69 [.slice none 0 0, .slice none 0 0] := zeroIs_of (by kernel_rfl)
theorem mk72 : MakeT Tryd.prog 72 4 1 1 [.bool false] := makeT_of (by kernel_rfl) (by kernel_rfl)
theorem mixed : Tryd.prog.follows .mixedOrders = true := by kernel_rfl
theorem fld69_1 : FieldAt Tryd.prog 69 1 1 := fieldAt_of (by kernel_rfl)
theorem sl172 : IsSlice Tryd.prog 172 58 1 := isSlice_of (by kernel_rfl)
theorem one58 : IsOne Tryd.prog 58 := isOne_of (by kernel_rfl)
theorem st56 : StructT Tryd.prog 56 [(0, 1), (1, 1)] [.int .i64 0, .int .i64 0] := arrT_of (by kernel_rfl) (by kernel_rfl)
theorem mk58 : MakeT Tryd.prog 58 56 2 16 [.int .i64 0, .int .i64 0] := makeT_of (by kernel_rfl) (by kernel_rfl)
theorem sl58 : IsSlice Tryd.prog 58 56 2 := isSlice_of (by kernel_rfl)
theorem agg56 : IsAgg Tryd.prog 56 2 := isAgg_of (by kernel_rfl)
theorem z56 : ZeroIs Tryd.prog 56 [.int .i64 0, .int .i64 0] := zeroIs_of (by kernel_rfl)
theorem arr56 : Tryd.prog.underlying 56 = some (.array 2 3) := by kernel_rfl
end T

theorem lower_ok (s : SSpec) (hs : okSpec s) (x a : Nat) (hx : x < s.states.length) (ha : a < (ix s.states x).next.length) (h0 : 0 ≤ ix (ix s.states x).next a) (hH : Hol s (ix (ix s.states x).next a).toNat) (st : LS) (hst : LInv s st) (c5 c4 c7 : Nat) (w22 w20 w7 : Value) (us : List Value) (hus : us.length = s.states.length) :
    AL.Fn Tryd.prog 119 [int (x : Int), int (a : Int), fp [strs s.actions, sl 2 stateE s.states], ptr 5 c5 0, ptr 4 c4 0, ptr 7 c7 0] (ladH c5 c4 c7 w22 w20 us w7 st) (fun _ (_ : Value) => tup []) (fun v => ladH c5 c4 c7 w22 w20 us v (low s x (a : Int) st)) := by
  refine fnI Tryd.func119 rfl rfl (fun w0 F0 => ?_)
  have hf1 := hs.few1; have hox := hs.st x hx; have hal := hox.acl; have hn8 := hs.n8; have hln := hox.len
  refine sq (rg (fF rfl T.fld25_1 (lF rfl rfl T.one23 (mv (iF rfl rfl T.sl23 (by omega) (by first | exact gN (by omega) | exact gI (by omega) (by omega)) (fF rfl T.fld69_0 (lF rfl rfl T.one28 (fc (slenI 15 rfl) fun hm15 => (lnF rfl T.sl28 (mv (nl (th (bk ?_)))))))))))))
  have hI0_0 : 0 ≤ (ix s.states x).accept.length := by
    first | omega | simp
  have hI0_1 : (⟨st.left, st.dead, st.out⟩ : LS) = (lowK s x (a : Int) 0 st) := by
    rfl
  refine lp (κ := Nat × (List Int) × (List (List Bool)) × Value × (List Int)) (fun p => [(0, int (x : Int)), (1, int (a : Int)), (3, ptr 5 c5 0), (4, ptr 4 c4 0), (5, ptr 7 c7 0), (15, sl 1 intE ((ix s.states x).accept)), (16, int (((ix s.states x).accept).length : Int)), (17, int (p.1 : Int))]) (fun p => [(4, cell c4 [osl 20 w20]), (5, cell c5 [osl 22 w22]), (7, cell c7 [osl 70 p.2.2.2.1]), (20, own w20 3 1 intE p.2.1), (22, own w22 72 1 eqvE us), (70, own p.2.2.2.1 3 1 intE p.2.2.2.2), (221, bigown us 4 1 blE p.2.2.1 none)]) (fun p => (p.1 ≤ (ix s.states x).accept.length) ∧ ((⟨p.2.1, p.2.2.1, p.2.2.2.2⟩ : LS) = (lowK s x (a : Int) p.1 st))) (fun p => (ix s.states x).accept.length - p.1) ⟨0, st.left, st.dead, w7, st.out⟩ ⟨hI0_0, hI0_1⟩ ⟨id, id, id, id, id, id, id, id, trivial⟩ ⟨⟨rfl, id⟩, ⟨rfl, id⟩, ⟨rfl, id⟩, ⟨rfl, id⟩, ⟨rfl, id⟩, ⟨rfl, id⟩, ⟨rfl, id⟩, trivial⟩ ?_
  intro ⟨k, left, dead, u7, out⟩ hG0
  obtain ⟨hk0, hI0⟩ : (k ≤ (ix s.states x).accept.length) ∧ ((⟨left, dead, out⟩ : LS) = (lowK s x (a : Int) k st)) := hG0
  show Ct _ _ _ _ [(0, int (x : Int)), (1, int (a : Int)), (3, ptr 5 c5 0), (4, ptr 4 c4 0), (5, ptr 7 c7 0), (15, sl 1 intE ((ix s.states x).accept)), (16, int (((ix s.states x).accept).length : Int)), (17, int (k : Int))] [(4, cell c4 [osl 20 w20]), (5, cell c5 [osl 22 w22]), (7, cell c7 [osl 70 u7]), (20, own w20 3 1 intE left), (22, own w22 72 1 eqvE us), (70, own u7 3 1 intE out), (221, bigown us 4 1 blE dead none)] _
  obtain ⟨hL, hLe, _⟩ := lowK_inv hx ha h0 hH hst k hk0
  rw [← hI0] at hL
  have hac := fun h => hox.ac k h
  have hll := hL.ll
  have hdl := hL.dl
  have hdx := hL.dx x hx
  have hcn := hL.cnt x hx
  have hol := hL.len
  dsimp only at hll hdl hdx hcn hol
  refine sq (rg (bi rfl rfl b_lss (nl (th (sq ?_)))))
  refine cd rfl (fun hc0 => ?_) (fun hc0 => ?_)
  · try simp at hc0
    refine sk (th (sq (bk (sq (rg (mv (iF rfl rfl T.sl28 (by omega) (by first | exact gN (by omega) | exact gI (by omega) (by omega)) (lF rfl rfl T.one3 (ag (ag (nl (th (sq (rg (mv (mv (bi rfl rfl (b_shrI (by omega) (by omega) (by omega)) (bi rfl rfl (b_and1 (m := (((ix ((ix s.states x).accept) k).toNat) >>> a)) (Nat.lt_of_le_of_lt (Nat.shiftRight_le _ _) (by have := hac hc0; omega))) (bi rfl rfl b_eql (mv ?_))))))))))))))))))))
    apply gAnd (t := 27) (pd := 36) rfl
    rotate_left
    · intro hg0 fin
      have hg0' := hg0
      try simp at hg0'
      exact gy rfl rfl rfl hg0 (lP rfl rfl rfl T.one171 (gy rfl rfl rfl hg0 (mv (gy rfl rfl rfl hg0 (iO rfl rfl rfl T.sl171 (by omega) (by omega) (gy rfl rfl rfl hg0 (lO rfl rfl (by first | exact gN (by omega) | exact gI (by omega) (by omega)) rfl T.one72 (tkB 221 31 x rfl rfl (by decide) (gK (by omega)) (gK (by omega)) (kn 31 (osl 31 (ix us x)) rfl eq_osl (gy rfl rfl rfl hg0 (mv (gy rfl rfl rfl hg0 (iO rfl rfl rfl T.sl72 (by omega) (by omega) (gy rfl rfl rfl hg0 (lO rfl rfl (by first | exact gN (by omega) | exact gI (by omega) (by omega)) rfl T.one4 (gvR 221 31 x rfl rfl (by decide) (gK (by omega)) (gK (by omega)) (gy rfl rfl rfl hg0 (no rfl (pkT rfl hg0 rfl (drp (X := [(35, _), (34, _), (33, _), (32, _), (31, _), (31, _), (30, _), (29, _), (28, _)]) ⟨rfl, rfl, rfl, rfl, rfl, rfl, rfl, rfl, rfl, trivial⟩ (fin)))))))))))))))))))))
    · intro hg0 fin
      exact gn rfl rfl rfl hg0 rfl rfl (gn rfl rfl rfl hg0 rfl rfl (gn rfl rfl rfl hg0 rfl rfl (gn rfl rfl rfl hg0 rfl rfl (gn rfl rfl rfl hg0 rfl rfl (gn rfl rfl rfl hg0 rfl rfl (gn rfl rfl rfl hg0 rfl rfl (gn rfl rfl rfl hg0 rfl rfl (pkF rfl hg0 rfl (drp (X := [(35, _), (34, _), (33, _), (32, _), (31, _), (30, _), (29, _), (28, _)]) ⟨rfl, rfl, rfl, rfl, rfl, rfl, rfl, rfl, trivial⟩ (fin))))))))))
    refine nl (th ?_)
    refine cd rfl (fun hc1 => ?_) (fun hc1 => ?_)
    · try simp at hc1
      refine sq (rg (lP rfl rfl rfl T.one171 (mv (iO rfl rfl rfl T.sl171 (by omega) (by omega) (lO rfl rfl (by first | exact gN (by omega) | exact gI (by omega) (by omega)) rfl T.one72 (tkB 221 40 x rfl rfl (by decide) (gK (by omega)) (gK (by omega)) (kn 40 (osl 40 (ix us x)) rfl eq_osl (mv (iO rfl rfl rfl T.sl72 (by omega) (by omega) (sO (φ := bl true) rfl rfl rfl T.one4 (by first | exact gN (by omega) | exact gI (by omega) (by omega)) rfl (y' := true) rfl (nl (th (sq (rg (gvU 221 40 x rfl rfl (by decide) (gK (by omega)) (lP rfl rfl rfl T.one28 (mv (iO rfl rfl rfl T.sl28 (by omega) (by omega) (lO rfl rfl (by first | exact gN (by omega) | exact gI (by omega) (by omega)) rfl T.one3 (bi rfl rfl (b_sub (by have hcl := List.count_le_length (a := false) (l := ix dead x); unfold I64; omega)) (iO rfl rfl rfl T.sl28 (by omega) (by omega) (sO (φ := int ((ix left x) - 1)) rfl rfl rfl T.one3 (by first | exact gN (by omega) | exact gI (by omega) (by omega)) rfl (y' := ((ix left x) - 1)) rfl (nl (th (sq (rg (lP rfl rfl rfl T.one28 (mv (iO rfl rfl rfl T.sl28 (by omega) (by simp; omega) (lO rfl rfl (by first | exact gN (by simp; omega) | exact gI (by omega) (by simp; omega)) rfl T.one3 (bi rfl rfl b_eql (nl (th ?_)))))))))))))))))))))))))))))))))
      refine cd rfl (fun hc2 => ?_) (fun hc2 => ?_)
      · try simp at hc2
        refine rg (lP rfl rfl rfl T.one28 (mv (bsE (enc := intE) (xs := [(x : Int)]) (css := [[int (x : Int)]]) T.mk28 ⟨rfl, rfl, p1 (φ := int (x : Int)) rfl, trivial⟩ rfl rfl rfl rfl (ap (key := 70) (zs := [(x : Int)]) osl_eq rfl rfl rfl T.mk28 (by unfold maxL at *; simp; omega) (by unfold maxL at *; simp; omega) fun v57 => (storePO rfl rfl rfl rfl T.one28 rfl (nl (eb (th (rg (bi rfl rfl (b_add (by unfold I64; omega)) (mv (nl ?_))))))))))))
        have hN0 : (k + 1) ≤ (ix s.states x).accept.length := by
          first | omega | simp_all
        have hN1 : (⟨(left.set x ((ix left x) - 1)), (dead.set x ((ix dead x).set k true)), (out ++ [(x : Int)])⟩ : LS) = (lowK s x (a : Int) (k + 1) st) := by
          show _ = lowS s x a k (lowK s x a k st)
          rw [← hI0]
          unfold lowS
          have hcc : (has (ix (ix s.states x).accept k) (a : Int) && !ix (ix dead x) k) = true := by rw [has_and]; simpa using hc1
          have hz : ix left x - 1 = 0 := by simpa [ix_set (xs := left) (k := x) (by omega)] using hc2
          simp [hcc, hz]
        exact ln (⟨k + 1, left.set x ((ix left x) - 1), dead.set x ((ix dead x).set k true), v57, out ++ [(x : Int)]⟩ : Nat × (List Int) × (List (List Bool)) × Value × (List Int)) ⟨hN0, hN1⟩ (by first | omega | (dsimp only; omega)) ⟨id, id, id, id, id, id, id, id, trivial⟩ ⟨⟨rfl, id⟩, ⟨rfl, id⟩, ⟨rfl, id⟩, ⟨rfl, id⟩, ⟨rfl, id⟩, ⟨rfl, id⟩, ⟨rfl, id⟩, trivial⟩
      · try simp at hc2
        refine sk (eb (th (rg (bi rfl rfl (b_add (by unfold I64; omega)) (mv (nl ?_))))))
        have hN0 : (k + 1) ≤ (ix s.states x).accept.length := by
          first | omega | simp_all
        have hN1 : (⟨(left.set x ((ix left x) - 1)), (dead.set x ((ix dead x).set k true)), out⟩ : LS) = (lowK s x (a : Int) (k + 1) st) := by
          show _ = lowS s x a k (lowK s x a k st)
          rw [← hI0]
          unfold lowS
          have hcc : (has (ix (ix s.states x).accept k) (a : Int) && !ix (ix dead x) k) = true := by rw [has_and]; simpa using hc1
          have hz : ¬ ix left x - 1 = 0 := by simpa [ix_set (xs := left) (k := x) (by omega)] using hc2
          simp [hcc, hz]
        exact ln (⟨k + 1, left.set x ((ix left x) - 1), dead.set x ((ix dead x).set k true), u7, out⟩ : Nat × (List Int) × (List (List Bool)) × Value × (List Int)) ⟨hN0, hN1⟩ (by first | omega | (dsimp only; omega)) ⟨id, id, id, id, id, id, id, id, trivial⟩ ⟨⟨rfl, id⟩, ⟨rfl, id⟩, ⟨rfl, id⟩, ⟨rfl, id⟩, ⟨rfl, id⟩, ⟨rfl, id⟩, ⟨rfl, id⟩, trivial⟩
    · try simp at hc1
      refine sk (eb (th (rg (bi rfl rfl (b_add (by unfold I64; omega)) (mv (nl ?_))))))
      have hN0 : (k + 1) ≤ (ix s.states x).accept.length := by
        first | omega | simp_all
      have hN1 : (⟨left, dead, out⟩ : LS) = (lowK s x (a : Int) (k + 1) st) := by
        show _ = lowS s x a k (lowK s x a k st)
        rw [← hI0]
        unfold lowS
        have hcc : (has (ix (ix s.states x).accept k) (a : Int) && !ix (ix dead x) k) = false := by rw [has_and]; simpa using hc1
        simp [hcc]
      exact ln (⟨k + 1, left, dead, u7, out⟩ : Nat × (List Int) × (List (List Bool)) × Value × (List Int)) ⟨hN0, hN1⟩ (by first | omega | (dsimp only; omega)) ⟨id, id, id, id, id, id, id, id, trivial⟩ ⟨⟨rfl, id⟩, ⟨rfl, id⟩, ⟨rfl, id⟩, ⟨rfl, id⟩, ⟨rfl, id⟩, ⟨rfl, id⟩, ⟨rfl, id⟩, trivial⟩
  · try simp at hc0
    refine ex (xt_ (xt_ (xb ?_)))
    have hlow : low s x (a : Int) st = ⟨left, dead, out⟩ := by unfold low; rw [hI0, show (ix s.states x).accept.length = k by omega]
    exact rE u7 [] rfl [] trivial (rfl) (by show SubH (ladH c5 c4 c7 w22 w20 us u7 (low s x (a : Int) st)) _; rw [hlow]; exact ⟨⟨rfl, id⟩, ⟨rfl, id⟩, ⟨rfl, id⟩, ⟨rfl, id⟩, ⟨rfl, id⟩, ⟨rfl, id⟩, ⟨rfl, id⟩, trivial⟩) (by first | exact .inr rfl | exact .inl rfl)

theorem rungs_ok (s : SSpec) (hs : okSpec s) :
    Fn0 Tryd.prog 101 [spec s] (ints (rungs s)) := by
  refine fnI Tryd.func101 rfl rfl (fun w0 F0 => ?_)
  have hf1 := hs.few1; have hn8 := hs.n8
  refine fcC (inhS 0 rfl) (fun hS0 => ?_)
  obtain ⟨hsa0, hss0, hse0⟩ := spec_lens hS0
  refine sq (rg (bx (key := 1) (cs := [sl 1 strE s.actions, sl 2 stateE s.states]) rfl fun b1 => (ag (nl (th (sq (rg (fzv 1 1 rfl rfl (fF rfl T.fld25_1 (lF rfl rfl T.one23 (fc (slenI 17 rfl) fun hm17 => (lnF rfl T.sl23 (ag (nl (th (sq (rg (mv (mk (key := 20) (m := s.states.length) (enc := intE) (y := (0 : Int)) rfl rfl T.mk28 (ex_cons ex_nil) (by unfold maxL; omega) (by unfold maxL; omega) fun v20 => (al (key := 4) T.z28 (ex_cons (ex_nil)) fun b4 => (storePO rfl rfl rfl rfl T.one28 rfl (nl (th (sq (rg (mv (mk (key := 22) (m := s.states.length) (enc := eqvE) (y := (.slice none 0 0 : Value)) rfl rfl T.mk171 (ex_cons ex_nil) (by unfold maxL; omega) (by unfold maxL; omega) fun v22 => (al (key := 5) T.z171 (ex_cons (ex_nil)) fun b5 => (storePO rfl rfl rfl rfl T.one171 rfl (nl (th (sq (rg (nbB 221 s.states.length 4 1 blE (mv (mk (key := 24) (m := s.states.length) (enc := eqvE) (y := (.slice none 0 0 : Value)) rfl rfl T.mk172 (ex_cons ex_nil) (by unfold maxL; omega) (by unfold maxL; omega) fun v24 => (ag (nl (th (sq (rg (al (key := 7) T.z28 (ex_cons (ex_nil)) fun b7 => (nl (th (sq (sq (rg (nw 70 3 1 intE (knc 7 0 (osl 70 (.slice none 0 0)) rfl rfl eq_osl (nbB 241 s.states.length 56 2 pairE (fF rfl T.fld25_1 (lF rfl rfl T.one23 (lnF rfl T.sl23 (mv (nl (th (bk ?_)))))))))))))))))))))))))))))))))))))))))))))))))))))))))
  have hI0_0 : 0 ≤ s.states.length := by
    first | omega | simp
  have hI0_1 : (List.replicate s.states.length (.slice none 0 0 : Value)).length = s.states.length ∧ (List.replicate s.states.length (.slice none 0 0 : Value)).length = s.states.length ∧ (⟨(List.replicate s.states.length (0 : Int)), (List.replicate s.states.length []), ([] : List Int)⟩ : LS) = init s 0 ∧ (List.replicate s.states.length []) = (List.range s.states.length).map (preds s 0) := by
    exact ⟨by simp, by simp, by rw [init_zero], (preds_zero s).symm⟩
  refine lp (κ := Nat × (List Value) × (List (List Bool)) × (List Int) × Value × (List Int) × (List Value) × (List (List (Int × Int)))) (fun p => [(1, fp [sl 1 strE s.actions, sl 2 stateE s.states]), (2, eqv (.slice none 0 0)), (4, ptr 4 b4 0), (5, ptr 5 b5 0), (6, osl 24 v24), (7, ptr 7 b7 0), (26, sl 2 stateE s.states), (27, int (s.states.length : Int)), (28, int (p.1 : Int))]) (fun p => [(4, cell b4 [osl 20 v20]), (5, cell b5 [osl 22 v22]), (7, cell b7 [osl 70 p.2.2.2.2.1]), (20, own v20 3 1 intE p.2.2.2.1), (22, own v22 72 1 eqvE p.2.1), (24, own v24 58 1 eqvE p.2.2.2.2.2.2.1), (70, own p.2.2.2.2.1 3 1 intE p.2.2.2.2.2.1), (221, bigown p.2.1 4 1 blE p.2.2.1 none), (241, bigown p.2.2.2.2.2.2.1 56 2 pairE p.2.2.2.2.2.2.2 none)]) (fun p => (p.1 ≤ s.states.length) ∧ (p.2.1.length = s.states.length ∧ p.2.2.2.2.2.2.1.length = s.states.length ∧ (⟨p.2.2.2.1, p.2.2.1, p.2.2.2.2.2.1⟩ : LS) = init s p.1 ∧ p.2.2.2.2.2.2.2 = (List.range s.states.length).map (preds s p.1))) (fun p => s.states.length - p.1) ⟨0, List.replicate s.states.length (.slice none 0 0 : Value), List.replicate s.states.length [], List.replicate s.states.length (0 : Int), (.slice none 0 0), ([] : List Int), List.replicate s.states.length (.slice none 0 0 : Value), List.replicate s.states.length []⟩ ⟨hI0_0, hI0_1⟩ ⟨id, id, id, id, id, id, id, id, id, trivial⟩ ⟨⟨rfl, id⟩, ⟨rfl, id⟩, ⟨rfl, id⟩, ⟨rfl, id⟩, ⟨rfl, id⟩, ⟨rfl, id⟩, ⟨rfl, id⟩, ⟨rfl, id⟩, ⟨rfl, id⟩, trivial⟩ ?_
  intro ⟨k, us, dead, left, u7, out, us2, into⟩ hG0
  obtain ⟨hk0, hI0⟩ : (k ≤ s.states.length) ∧ (us.length = s.states.length ∧ us2.length = s.states.length ∧ (⟨left, dead, out⟩ : LS) = init s k ∧ into = (List.range s.states.length).map (preds s k)) := hG0
  show Ct _ _ _ _ [(1, fp [sl 1 strE s.actions, sl 2 stateE s.states]), (2, eqv (.slice none 0 0)), (4, ptr 4 b4 0), (5, ptr 5 b5 0), (6, osl 24 v24), (7, ptr 7 b7 0), (26, sl 2 stateE s.states), (27, int (s.states.length : Int)), (28, int (k : Int))] [(4, cell b4 [osl 20 v20]), (5, cell b5 [osl 22 v22]), (7, cell b7 [osl 70 u7]), (20, own v20 3 1 intE left), (22, own v22 72 1 eqvE us), (24, own v24 58 1 eqvE us2), (70, own u7 3 1 intE out), (221, bigown us 4 1 blE dead none), (241, bigown us2 56 2 pairE into none)] _
  obtain ⟨hul, hul2, hst, hin⟩ := hI0
  have hdl : dead.length = s.states.length := by have := congrArg (fun z => z.dead.length) hst; simpa [init] using this
  have hll : left.length = s.states.length := by have := congrArg (fun z => z.left.length) hst; simpa [init] using this
  have hil : into.length = s.states.length := by rw [hin]; simp
  have hol : out.length ≤ s.states.length := by have := congrArg (fun z => z.out.length) hst; have h2 := init_out_le s k; dsimp only at this; omega
  refine sq (rg (bi rfl rfl b_lss (nl (th (sq ?_)))))
  refine cd rfl (fun hc0 => ?_) (fun hc0 => ?_)
  · try simp at hc0
    have hox := hs.st k hc0; have hxl := hox.len; have hxa := hox.acl
    refine sk (th (sq (bk (sq (rg (mv (iF rfl rfl T.sl23 (by omega) (by first | exact gN (by omega) | exact gI (by omega) (by omega)) (lFA rfl T.agg69 (Nat.le_of_ble_eq_true rfl) (al (key := 9) T.z69 (ex_cons (ex_cons (ex_nil))) fun b9 => (ag (sPA (cs' := [sl 1 intE ((ix s.states k).accept), sl 1 intE ((ix s.states k).next)]) rfl rfl rfl T.agg69 rfl rfl (nl (th (sq (tkBC 221 99 k rfl rfl (by decide) (gK (by omega)) (gK (by omega)) ?_)))))))))))))))
    refine drH (nh := 15) [0, 0, 0, 0, 0, 16, 48, 0, 128, 384, 896, 115, 2163, 8191, 16383] [(none, [4]), (none, []), (none, [5]), (none, []), (none, []), (none, [9]), (none, []), (none, []), (none, [9]), (none, []), (some 43, []), (none, [20]), (some 20, [20]), (none, [22]), (some 22, [22])] T.mixed (by kernel_rfl) (by kernel_rfl) ?_
    refine stv (d := 33) (fun β0 => osl 20 v20) [4] rfl (fun β β' hb => rfl) (fun β0 _ _ _ _ gq gh kq => lP (gq.1.trans rfl) (gh.1.trans rfl) rfl T.one28 kq) ?_
    refine stv (d := 34) (fun β0 => int (k : Int)) [] rfl (fun β β' hb => rfl) (fun β0 _ _ _ _ gq gh kq => mv' (gq.1.trans rfl) kq) ?_
    refine stv (d := 35) (fun β0 => osl 22 v22) [5] rfl (fun β β' hb => rfl) (fun β0 _ _ _ _ gq gh kq => lP (gq.1.trans rfl) (gh.1.trans rfl) rfl T.one171 kq) ?_
    refine stv (d := 36) (fun β0 => int (k : Int)) [] rfl (fun β β' hb => rfl) (fun β0 _ _ _ _ gq gh kq => mv' (gq.1.trans rfl) kq) ?_
    refine stv (d := 37) (fun β0 => ptr 9 b9 0) [] rfl (fun β β' hb => rfl) (fun β0 _ _ _ _ gq gh kq => fP (gq.1.trans rfl) T.fld69_0 kq) ?_
    refine stv (d := 38) (fun β0 => sl 1 intE ((ix s.states k).accept)) [9] rfl (fun β β' hb => rfl) (fun β0 _ _ _ _ gq gh kq => lP (gq.1.trans rfl) (gh.1.trans rfl) rfl T.one28 kq) ?_
    refine stv (d := 39) (fun β0 => int (((ix s.states k).accept).length : Int)) [] rfl (fun β β' hb => rfl) (fun β0 _ _ _ _ gq gh kq => lnF (gq.1.trans rfl) T.sl28 kq) ?_
    refine stv (d := 40) (fun β0 => ptr 9 b9 0) [] rfl (fun β β' hb => rfl) (fun β0 _ _ _ _ gq gh kq => fP (gq.1.trans rfl) T.fld69_0 kq) ?_
    refine stv (d := 41) (fun β0 => sl 1 intE ((ix s.states k).accept)) [9] rfl (fun β β' hb => rfl) (fun β0 _ _ _ _ gq gh kq => lP (gq.1.trans rfl) (gh.1.trans rfl) rfl T.one28 kq) ?_
    refine stv (d := 42) (fun β0 => int (((ix s.states k).accept).length : Int)) [] rfl (fun β β' hb => rfl) (fun β0 _ _ _ _ gq gh kq => lnF (gq.1.trans rfl) T.sl28 kq) ?_
    refine stm (m := ((ix s.states k).accept).length) (enc := blE) (y := false) 43 T.mk72 (ex_cons ex_nil) (by unfold maxL; omega) (by unfold maxL; omega) (fun β0 _ gq => ⟨(gq.1.trans rfl), (gq.2.1.trans rfl)⟩) ?_
    refine stv (d := 44) (fun β0 => eptr 20 v20 1 k 0) [20] rfl (fun β β' hb => rfl) (fun β0 _ _ _ _ gq gh kq => iO (gq.1.trans rfl) (gh.1.trans rfl) (gq.2.1.trans rfl) T.sl28 (by omega) (by omega) kq) ?_
    refine stw 20 (fun β0 => own v20 3 1 intE (left.set k (((ix s.states k).accept).length : Int))) [20] rfl (fun β β' hb => rfl) (fun β0 _ _ _ _ gq gh kq => sO (φ := int (((ix s.states k).accept).length : Int)) (gq.1.trans rfl) (gh.1.trans rfl) (gq.2.1.trans rfl) T.one3 (by first | exact gN (by omega) | exact gI (by omega) (by omega)) rfl (y' := (((ix s.states k).accept).length : Int)) rfl kq) ?_
    refine stv (d := 45) (fun β0 => eptr 22 v22 1 k 0) [22] rfl (fun β β' hb => rfl) (fun β0 _ _ _ _ gq gh kq => iO (gq.1.trans rfl) (gh.1.trans rfl) (gq.2.1.trans rfl) T.sl171 (by omega) (by omega) kq) ?_
    refine stw 22 (fun β0 => own v22 72 1 eqvE (us.set k (.slice (some ⟨gbk (β0 10), 0, none⟩) (((ix s.states k).accept).length) (((ix s.states k).accept).length)))) [22] rfl (fun β β' hb => by first | rw [hb 10 rfl] | (dsimp only; rw [hb 10 rfl])) (fun β0 _ _ _ _ gq gh kq => sO (φ := eqv (.slice (some ⟨gbk (β0 10), 0, none⟩) (((ix s.states k).accept).length) (((ix s.states k).accept).length))) (gq.1.trans rfl) (gh.1.trans rfl) ((gq.2.1.trans rfl).trans osl_is) T.one72 (by first | exact gN (by omega) | exact gI (by omega) (by omega)) rfl (y' := (.slice (some ⟨gbk (β0 10), 0, none⟩) (((ix s.states k).accept).length) (((ix s.states k).accept).length))) rfl kq) ?_
    refine pnH fun β0 => (nl (th (sq (sq (rg (gvB 221 43 k rfl rfl (by decide) (by omega) (lP rfl rfl rfl T.one28 (mv (iO rfl rfl rfl T.sl28 (by omega) (by simp; omega) (lO rfl rfl (by first | exact gN (by simp; omega) | exact gI (by omega) (by simp; omega)) rfl T.one3 (bi rfl rfl b_eql (nl (th ?_)))))))))))))
    refine jn (κ := Value × (List Int)) (fun p => [(1, fp [sl 1 strE s.actions, sl 2 stateE s.states]), (2, eqv (.slice none 0 0)), (4, ptr 4 b4 0), (5, ptr 5 b5 0), (6, osl 24 v24), (7, ptr 7 b7 0), (8, int (k : Int)), (9, ptr 9 b9 0), (26, sl 2 stateE s.states), (27, int (s.states.length : Int)), (28, int (k : Int))]) (fun p => [(4, cell b4 [osl 20 v20]), (5, cell b5 [osl 22 v22]), (7, cell b7 [osl 70 p.1]), (9, cell b9 [sl 1 intE ((ix s.states k).accept), sl 1 intE ((ix s.states k).next)]), (20, own v20 3 1 intE (left.set k (((ix s.states k).accept).length : Int))), (22, own v22 72 1 eqvE (us.set k (.slice (some ⟨gbk (β0 10), 0, none⟩) (((ix s.states k).accept).length) (((ix s.states k).accept).length)))), (24, own v24 58 1 eqvE us2), (70, own p.1 3 1 intE p.2), (99, own (ix us k) 4 1 blE (ix dead k)), (221, bigown (us.set k (.slice (some ⟨gbk (β0 10), 0, none⟩) (((ix s.states k).accept).length) (((ix s.states k).accept).length))) 4 1 blE (dead.set k (List.replicate (((ix s.states k).accept).length) false)) none), (241, bigown us2 56 2 pairE into none)]) (fun p => p.2 = if ((ix s.states k).accept.length : Int) = 0 then out ++ [(k : Int)] else out) ?_ ?_
    ·
      refine cd rfl (fun hc1 => ?_) (fun hc1 => ?_)
      · try simp at hc1
        refine rg (lP rfl rfl rfl T.one28 (mv (bsE (enc := intE) (xs := [(k : Int)]) (css := [[int (k : Int)]]) T.mk28 ⟨rfl, rfl, p1 (φ := int (k : Int)) rfl, trivial⟩ rfl rfl rfl rfl (ap (key := 70) (zs := [(k : Int)]) osl_eq rfl rfl rfl T.mk28 (by unfold maxL at *; simp; omega) (by unfold maxL at *; simp; omega) fun v54 => (storePO rfl rfl rfl rfl T.one28 rfl (nl ?_))))))
        have hN0 : (out ++ [(k : Int)]) = if ((ix s.states k).accept.length : Int) = 0 then out ++ [(k : Int)] else out := by
          rw [ix_set (by omega), if_pos (by simp)] at hc1
          rw [if_pos hc1]
        exact jx ⟨v54, out ++ [(k : Int)]⟩ hN0 ⟨id, id, id, id, id, id, id, id, id, id, id, trivial⟩ ⟨⟨rfl, id⟩, ⟨rfl, id⟩, ⟨rfl, id⟩, ⟨rfl, id⟩, ⟨rfl, id⟩, ⟨rfl, id⟩, ⟨rfl, id⟩, ⟨rfl, id⟩, ⟨rfl, id⟩, ⟨rfl, id⟩, ⟨rfl, id⟩, trivial⟩
      · try simp at hc1
        refine sk ?_
        have hN0 : out = if ((ix s.states k).accept.length : Int) = 0 then out ++ [(k : Int)] else out := by
          rw [ix_set (by omega), if_pos (by simp)] at hc1
          rw [if_neg hc1]
        exact jx ⟨u7, out⟩ hN0 ⟨id, id, id, id, id, id, id, id, id, id, id, trivial⟩ ⟨⟨rfl, id⟩, ⟨rfl, id⟩, ⟨rfl, id⟩, ⟨rfl, id⟩, ⟨rfl, id⟩, ⟨rfl, id⟩, ⟨rfl, id⟩, ⟨rfl, id⟩, ⟨rfl, id⟩, ⟨rfl, id⟩, ⟨rfl, id⟩, trivial⟩
    · intro ⟨w7, ou⟩ hG
      have hJ1 : ou = if ((ix s.states k).accept.length : Int) = 0 then out ++ [(k : Int)] else out := hG
      skip
      show At _ _ _ [(1, fp [sl 1 strE s.actions, sl 2 stateE s.states]), (2, eqv (.slice none 0 0)), (4, ptr 4 b4 0), (5, ptr 5 b5 0), (6, osl 24 v24), (7, ptr 7 b7 0), (8, int (k : Int)), (9, ptr 9 b9 0), (26, sl 2 stateE s.states), (27, int (s.states.length : Int)), (28, int (k : Int))] [(4, cell b4 [osl 20 v20]), (5, cell b5 [osl 22 v22]), (7, cell b7 [osl 70 w7]), (9, cell b9 [sl 1 intE ((ix s.states k).accept), sl 1 intE ((ix s.states k).next)]), (20, own v20 3 1 intE (left.set k (((ix s.states k).accept).length : Int))), (22, own v22 72 1 eqvE (us.set k (.slice (some ⟨gbk (β0 10), 0, none⟩) (((ix s.states k).accept).length) (((ix s.states k).accept).length)))), (24, own v24 58 1 eqvE us2), (70, own w7 3 1 intE ou), (99, own (ix us k) 4 1 blE (ix dead k)), (221, bigown (us.set k (.slice (some ⟨gbk (β0 10), 0, none⟩) (((ix s.states k).accept).length) (((ix s.states k).accept).length))) 4 1 blE (dead.set k (List.replicate (((ix s.states k).accept).length) false)) none), (241, bigown us2 56 2 pairE into none)]
      refine th (sq (rg (fP rfl T.fld69_1 (lP rfl rfl rfl T.one28 (fc (slenI 56 rfl) fun hm56 => (lnF rfl T.sl28 (mv (nl (th (bk ?_))))))))))
      have hI1_0 : 0 ≤ ((ix s.states k).next).length := by
        first | omega | simp
      have hI1_1 : us2.length = s.states.length ∧ into = (List.range s.states.length).map (fun y => preds s k y ++ preds1 s k y 0) := by
        exact ⟨hul2, by rw [hin]; exact List.map_congr_left (fun y _ => by simp [preds1])⟩
      refine lp (κ := Nat × (List Value) × (List (List (Int × Int)))) (fun p => [(1, fp [sl 1 strE s.actions, sl 2 stateE s.states]), (2, eqv (.slice none 0 0)), (4, ptr 4 b4 0), (5, ptr 5 b5 0), (6, osl 24 v24), (7, ptr 7 b7 0), (8, int (k : Int)), (26, sl 2 stateE s.states), (27, int (s.states.length : Int)), (28, int (k : Int)), (56, sl 1 intE ((ix s.states k).next)), (57, int (((ix s.states k).next).length : Int)), (58, int (p.1 : Int))]) (fun p => [(4, cell b4 [osl 20 v20]), (5, cell b5 [osl 22 v22]), (7, cell b7 [osl 70 w7]), (9, cell b9 [sl 1 intE ((ix s.states k).accept), sl 1 intE ((ix s.states k).next)]), (20, own v20 3 1 intE (left.set k (((ix s.states k).accept).length : Int))), (22, own v22 72 1 eqvE (us.set k (.slice (some ⟨gbk (β0 10), 0, none⟩) (((ix s.states k).accept).length) (((ix s.states k).accept).length)))), (24, own v24 58 1 eqvE p.2.1), (70, own w7 3 1 intE ou), (99, own (ix us k) 4 1 blE (ix dead k)), (221, bigown (us.set k (.slice (some ⟨gbk (β0 10), 0, none⟩) (((ix s.states k).accept).length) (((ix s.states k).accept).length))) 4 1 blE (dead.set k (List.replicate (((ix s.states k).accept).length) false)) none), (241, bigown p.2.1 56 2 pairE p.2.2 none)]) (fun p => (p.1 ≤ ((ix s.states k).next).length) ∧ (p.2.1.length = s.states.length ∧ p.2.2 = (List.range s.states.length).map (fun y => preds s k y ++ preds1 s k y p.1))) (fun p => ((ix s.states k).next).length - p.1) ⟨0, us2, into⟩ ⟨hI1_0, hI1_1⟩ ⟨id, id, id, id, id, id, id, id, id, id, id, id, id, trivial⟩ ⟨⟨rfl, id⟩, ⟨rfl, id⟩, ⟨rfl, id⟩, ⟨rfl, id⟩, ⟨rfl, id⟩, ⟨rfl, id⟩, ⟨rfl, id⟩, ⟨rfl, id⟩, ⟨rfl, id⟩, ⟨rfl, id⟩, ⟨rfl, id⟩, trivial⟩ ?_
      intro ⟨k1, us3, into3⟩ hG1
      obtain ⟨hk1, hI1⟩ : (k1 ≤ ((ix s.states k).next).length) ∧ (us3.length = s.states.length ∧ into3 = (List.range s.states.length).map (fun y => preds s k y ++ preds1 s k y k1)) := hG1
      show Ct _ _ _ _ [(1, fp [sl 1 strE s.actions, sl 2 stateE s.states]), (2, eqv (.slice none 0 0)), (4, ptr 4 b4 0), (5, ptr 5 b5 0), (6, osl 24 v24), (7, ptr 7 b7 0), (8, int (k : Int)), (26, sl 2 stateE s.states), (27, int (s.states.length : Int)), (28, int (k : Int)), (56, sl 1 intE ((ix s.states k).next)), (57, int (((ix s.states k).next).length : Int)), (58, int (k1 : Int))] [(4, cell b4 [osl 20 v20]), (5, cell b5 [osl 22 v22]), (7, cell b7 [osl 70 w7]), (9, cell b9 [sl 1 intE ((ix s.states k).accept), sl 1 intE ((ix s.states k).next)]), (20, own v20 3 1 intE (left.set k (((ix s.states k).accept).length : Int))), (22, own v22 72 1 eqvE (us.set k (.slice (some ⟨gbk (β0 10), 0, none⟩) (((ix s.states k).accept).length) (((ix s.states k).accept).length)))), (24, own v24 58 1 eqvE us3), (70, own w7 3 1 intE ou), (99, own (ix us k) 4 1 blE (ix dead k)), (221, bigown (us.set k (.slice (some ⟨gbk (β0 10), 0, none⟩) (((ix s.states k).accept).length) (((ix s.states k).accept).length))) 4 1 blE (dead.set k (List.replicate (((ix s.states k).accept).length) false)) none), (241, bigown us3 56 2 pairE into3 none)] _
      have hul3 := hI1.1
      have hil3 : into3.length = s.states.length := by rw [hI1.2]; simp
      refine sq (rg (bi rfl rfl b_lss (nl (th (sq ?_)))))
      refine cd rfl (fun hc2 => ?_) (fun hc2 => ?_)
      · try simp at hc2
        have hnx := hox.nx k1 (by omega)
        refine sk (th (sq (bk (sq (rg (mv (iF rfl rfl T.sl28 (by omega) (by first | exact gN (by omega) | exact gI (by omega) (by omega)) (lF rfl rfl T.one3 (ag (ag (nl (th (sq (rg (mv (bi rfl rfl b_geq (nl (th ?_))))))))))))))))))
        refine cd rfl (fun hc3 => ?_) (fun hc3 => ?_)
        · try simp at hc3
          have hpb : (ix into3 (ix (ix s.states k).next k1).toNat).length ≤ 5000 := by
            rw [hI1.2, ix_map_range (by omega), List.length_append]
            have h1 := preds_le (s := s) (y := (ix (ix s.states k).next k1).toNat) (m := 8) k (fun x hx => by rw [(hs.st x (by omega)).len]; exact hn8)
            have h2 := preds1_le s k (ix (ix s.states k).next k1).toNat k1
            omega
          refine rg (mv (mv (mv (mv (iO rfl rfl rfl T.sl172 (by omega) (by omega) (lO rfl rfl (by first | exact gN (by omega) | exact gI (by omega) (by omega)) rfl T.one58 (tkB 241 75 ((ix (ix s.states k).next k1).toNat) rfl rfl (by decide) (gK (by omega)) (gK (by omega)) (kn 70 (osl 75 (ix us3 ((ix (ix s.states k).next k1).toNat))) rfl eq_osl (mv (mv (bd (css := [(0, _), (1, _)]) T.st56 (ex_cons (ex_cons (ex_nil))) ⟨rfl, rfl, p1 (φ := int (k : Int)) rfl, ⟨rfl, rfl, p1 (φ := int (k1 : Int)) rfl, trivial⟩⟩ (bs (css := [[int (k : Int), int (k1 : Int)]]) T.mk58 ⟨rfl, rfl, pA (cs := [int (k : Int), int (k1 : Int)]) rfl, trivial⟩ rfl rfl rfl (ap (key := 75) (zs := [((k : Int), (k1 : Int))]) osl_eq rfl rfl rfl T.mk58 (by unfold maxL at *; simp; omega) (by unfold maxL at *; simp; omega) fun v75 => (iO rfl rfl rfl T.sl172 (by omega) (by omega) (sOO (k2 := 75) rfl rfl osl_is rfl T.one58 (by first | exact gN (by omega) | exact gI (by omega) (by omega)) rfl (y' := v75) rfl (gvB 241 75 ((ix (ix s.states k).next k1).toNat) rfl rfl (by decide) (by omega) (nl (eb (th (rg (bi rfl rfl (b_add (by unfold I64; omega)) (mv (nl ?_)))))))))))))))))))))))
          have hN0 : (k1 + 1) ≤ ((ix s.states k).next).length := by
            first | omega | simp_all
          have hN1 : (us3.set ((ix ((ix s.states k).next) k1).toNat) v75).length = s.states.length ∧ (into3.set ((ix (ix s.states k).next k1).toNat) ((ix into3 ((ix (ix s.states k).next k1).toNat)) ++ [((k : Int), (k1 : Int))])) = (List.range s.states.length).map (fun y => preds s k y ++ preds1 s k y (k1 + 1)) := by
            have ht : (ix (ix s.states k).next k1).toNat < s.states.length := by omega
            refine ⟨by simpa using hul3, ?_⟩
            have e : ix into3 (ix (ix s.states k).next k1).toNat = preds s k (ix (ix s.states k).next k1).toNat ++ preds1 s k (ix (ix s.states k).next k1).toNat k1 := by rw [hI1.2]; exact ix_map_range ht
            rw [e, hI1.2]
            exact preds1_put (by omega) ht
          exact ln (⟨k1 + 1, us3.set ((ix ((ix s.states k).next) k1).toNat) v75, into3.set ((ix (ix s.states k).next k1).toNat) ((ix into3 ((ix (ix s.states k).next k1).toNat)) ++ [((k : Int), (k1 : Int))])⟩ : Nat × (List Value) × (List (List (Int × Int)))) ⟨hN0, hN1⟩ (by first | omega | (dsimp only; omega)) ⟨id, id, id, id, id, id, id, id, id, id, id, id, id, trivial⟩ ⟨⟨rfl, id⟩, ⟨rfl, id⟩, ⟨rfl, id⟩, ⟨rfl, id⟩, ⟨rfl, id⟩, ⟨rfl, id⟩, ⟨rfl, id⟩, ⟨rfl, id⟩, ⟨rfl, id⟩, ⟨rfl, id⟩, ⟨rfl, id⟩, trivial⟩
        · try simp at hc3
          refine sk (eb (th (rg (bi rfl rfl (b_add (by unfold I64; omega)) (mv (nl ?_))))))
          have hN0 : (k1 + 1) ≤ ((ix s.states k).next).length := by
            first | omega | simp_all
          have hN1 : us3.length = s.states.length ∧ into3 = (List.range s.states.length).map (fun y => preds s k y ++ preds1 s k y (k1 + 1)) := by
            refine ⟨hul3, ?_⟩
            rw [hI1.2]
            exact preds1_none (by omega)
          exact ln (⟨k1 + 1, us3, into3⟩ : Nat × (List Value) × (List (List (Int × Int)))) ⟨hN0, hN1⟩ (by first | omega | (dsimp only; omega)) ⟨id, id, id, id, id, id, id, id, id, id, id, id, id, trivial⟩ ⟨⟨rfl, id⟩, ⟨rfl, id⟩, ⟨rfl, id⟩, ⟨rfl, id⟩, ⟨rfl, id⟩, ⟨rfl, id⟩, ⟨rfl, id⟩, ⟨rfl, id⟩, ⟨rfl, id⟩, ⟨rfl, id⟩, ⟨rfl, id⟩, trivial⟩
      · try simp at hc2
        refine ex (xt_ (xt_ (xb (eb (th (rg (bi rfl rfl (b_add (by unfold I64; omega)) (mv (nl ?_)))))))))
        have hN0 : (k + 1) ≤ s.states.length := by
          first | omega | simp_all
        have hN1 : (us.set k (.slice (some ⟨gbk (β0 10), 0, none⟩) (((ix s.states k).accept).length) (((ix s.states k).accept).length))).length = s.states.length ∧ us3.length = s.states.length ∧ (⟨(left.set k (((ix s.states k).accept).length : Int)), (dead.set k (List.replicate (((ix s.states k).accept).length) false)), ou⟩ : LS) = init s (k + 1) ∧ into3 = (List.range s.states.length).map (preds s (k + 1)) := by
          rw [init_succ hc0, ← hst, hJ1]
          refine ⟨by simpa using hul, hI1.1, rfl, ?_⟩
          rw [hI1.2, show k1 = (ix s.states k).next.length by omega]
          exact List.map_congr_left (fun y _ => (preds_succ s k y).symm)
        exact ln (⟨k + 1, us.set k (.slice (some ⟨gbk (β0 10), 0, none⟩) (((ix s.states k).accept).length) (((ix s.states k).accept).length)), dead.set k (List.replicate (((ix s.states k).accept).length) false), left.set k (((ix s.states k).accept).length : Int), w7, ou, us3, into3⟩ : Nat × (List Value) × (List (List Bool)) × (List Int) × Value × (List Int) × (List Value) × (List (List (Int × Int)))) ⟨hN0, hN1⟩ (by first | omega | (dsimp only; omega)) ⟨id, id, id, id, id, id, id, id, id, trivial⟩ ⟨⟨rfl, id⟩, ⟨rfl, id⟩, ⟨rfl, id⟩, ⟨rfl, id⟩, ⟨rfl, id⟩, ⟨rfl, id⟩, ⟨rfl, id⟩, ⟨rfl, id⟩, ⟨rfl, id⟩, trivial⟩
  · try simp at hc0
    refine ex (xt_ (xt_ (xb (th (sq (rg (mkf (ag (nl (th (sq (sq (rg (ag (nl (th (bk ?_)))))))))))))))))
    have hkn : k = s.states.length := by omega
    have hI2_0 : (⟨left, dead, out⟩ : LS) = rq s 0 ∧ 0 ≤ out.length := by
      rw [hst, hkn]
      exact ⟨rfl, Nat.zero_le _⟩
    refine lp (κ := Nat × (List (List Bool)) × (List Int) × Value × (List Int)) (fun p => [(2, eqv (.slice none 0 0)), (6, osl 24 v24), (7, ptr 7 b7 0), (12, clo 119 [fp [sl 1 strE s.actions, sl 2 stateE s.states], ptr 5 b5 0, ptr 4 b4 0, ptr 7 b7 0]), (13, int (p.1 : Int))]) (fun p => [(4, cell b4 [osl 20 v20]), (5, cell b5 [osl 22 v22]), (7, cell b7 [osl 70 p.2.2.2.1]), (20, own v20 3 1 intE p.2.2.1), (22, own v22 72 1 eqvE us), (24, own v24 58 1 eqvE us2), (70, own p.2.2.2.1 3 1 intE p.2.2.2.2), (221, bigown us 4 1 blE p.2.1 none), (241, bigown us2 56 2 pairE into none)]) (fun p => (⟨p.2.2.1, p.2.1, p.2.2.2.2⟩ : LS) = rq s p.1 ∧ p.1 ≤ p.2.2.2.2.length) (fun p => s.states.length - p.1) ⟨0, dead, left, u7, out⟩ hI2_0 ⟨id, id, id, id, id, trivial⟩ ⟨⟨rfl, id⟩, ⟨rfl, id⟩, ⟨rfl, id⟩, ⟨rfl, id⟩, ⟨rfl, id⟩, ⟨rfl, id⟩, ⟨rfl, id⟩, ⟨rfl, id⟩, ⟨rfl, id⟩, trivial⟩ ?_
    intro ⟨i, dead, left, u7, out⟩ hG2
    have hI2 : (⟨left, dead, out⟩ : LS) = rq s i ∧ i ≤ out.length := hG2
    show Ct _ _ _ _ [(2, eqv (.slice none 0 0)), (6, osl 24 v24), (7, ptr 7 b7 0), (12, clo 119 [fp [sl 1 strE s.actions, sl 2 stateE s.states], ptr 5 b5 0, ptr 4 b4 0, ptr 7 b7 0]), (13, int (i : Int))] [(4, cell b4 [osl 20 v20]), (5, cell b5 [osl 22 v22]), (7, cell b7 [osl 70 u7]), (20, own v20 3 1 intE left), (22, own v22 72 1 eqvE us), (24, own v24 58 1 eqvE us2), (70, own u7 3 1 intE out), (221, bigown us 4 1 blE dead none), (241, bigown us2 56 2 pairE into none)] _
    have hL := rq_inv s i
    rw [← hI2.1] at hL
    have hll := hL.ll
    have hdl := hL.dl
    have hol := hL.len
    dsimp only at hll hdl hol
    refine sq (sq (rg (mv (lP rfl rfl rfl T.one28 (lnO rfl rfl T.sl28 (bi rfl rfl b_lss (nl (th ?_))))))))
    refine cd rfl (fun hc4 => ?_) (fun hc4 => ?_)
    · try simp at hc4
      have hoy := hL.outHol (ix_mem hc4)
      dsimp only at hoy
      have hHy := hoy.2.2
      have hiy : ix into (ix out i).toNat = preds s s.states.length (ix out i).toNat := by rw [hin, hkn]; exact ix_map_range (by omega)
      have hpb : (ix into (ix out i).toNat).length ≤ 5000 := by
        rw [hiy]
        have h1 := preds_le (s := s) (y := (ix out i).toNat) (m := 8) s.states.length (fun x hx => by rw [(hs.st x hx).len]; exact hn8)
        omega
      refine sk (th (sq (bk (sq (rg (mv (lP rfl rfl rfl T.one28 (mv (iO rfl rfl rfl T.sl28 (by omega) (by omega) (lO rfl rfl (by first | exact gN (by omega) | exact gI (by omega) (by omega)) rfl T.one3 (iO rfl rfl rfl T.sl172 (by omega) (by omega) (lO rfl rfl (by first | exact gN (by omega) | exact gI (by omega) (by omega)) rfl T.one58 (tkB 241 92 ((ix out i).toNat) rfl rfl (by decide) (gK (by omega)) (gK (by omega)) (kn 92 (osl 92 (ix us2 ((ix out i).toNat))) rfl eq_osl (lnO rfl rfl T.sl58 (mv (nl (th (bk ?_)))))))))))))))))))
      have hI3_0 : 0 ≤ (ix into ((ix out i).toNat)).length := by
        first | omega | simp
      have hI3_1 : (⟨left, dead, out⟩ : LS) = procs s ((preds s s.states.length (ix out i).toNat).take 0) (rq s i) := by
        rw [List.take_zero]; exact hI2.1
      refine lp (κ := Nat × (List (List Bool)) × (List Int) × Value × (List Int)) (fun p => [(2, eqv (.slice none 0 0)), (6, osl 24 v24), (7, ptr 7 b7 0), (12, clo 119 [fp [sl 1 strE s.actions, sl 2 stateE s.states], ptr 5 b5 0, ptr 4 b4 0, ptr 7 b7 0]), (13, int (i : Int)), (92, osl 92 (ix us2 ((ix out i).toNat))), (93, int ((ix into ((ix out i).toNat)).length : Int)), (94, int (p.1 : Int))]) (fun p => [(4, cell b4 [osl 20 v20]), (5, cell b5 [osl 22 v22]), (7, cell b7 [osl 70 p.2.2.2.1]), (20, own v20 3 1 intE p.2.2.1), (22, own v22 72 1 eqvE us), (24, own v24 58 1 eqvE us2), (70, own p.2.2.2.1 3 1 intE p.2.2.2.2), (92, own (ix us2 ((ix out i).toNat)) 56 2 pairE (ix into ((ix out i).toNat))), (221, bigown us 4 1 blE p.2.1 none), (241, bigown us2 56 2 pairE into (some ((ix out i).toNat)))]) (fun p => (p.1 ≤ (ix into ((ix out i).toNat)).length) ∧ ((⟨p.2.2.1, p.2.1, p.2.2.2.2⟩ : LS) = procs s ((preds s s.states.length (ix out i).toNat).take p.1) (rq s i))) (fun p => (ix into ((ix out i).toNat)).length - p.1) ⟨0, dead, left, u7, out⟩ ⟨hI3_0, hI3_1⟩ ⟨id, id, id, id, id, id, id, id, trivial⟩ ⟨⟨rfl, id⟩, ⟨rfl, id⟩, ⟨rfl, id⟩, ⟨rfl, id⟩, ⟨rfl, id⟩, ⟨rfl, id⟩, ⟨rfl, id⟩, ⟨rfl, id⟩, ⟨rfl, id⟩, ⟨rfl, id⟩, trivial⟩ ?_
      intro ⟨k3, dead3, left3, u73, out3⟩ hG3
      obtain ⟨hk3, hI3⟩ : (k3 ≤ (ix into ((ix out i).toNat)).length) ∧ ((⟨left3, dead3, out3⟩ : LS) = procs s ((preds s s.states.length (ix out i).toNat).take k3) (rq s i)) := hG3
      show Ct _ _ _ _ [(2, eqv (.slice none 0 0)), (6, osl 24 v24), (7, ptr 7 b7 0), (12, clo 119 [fp [sl 1 strE s.actions, sl 2 stateE s.states], ptr 5 b5 0, ptr 4 b4 0, ptr 7 b7 0]), (13, int (i : Int)), (92, osl 92 (ix us2 ((ix out i).toNat))), (93, int ((ix into ((ix out i).toNat)).length : Int)), (94, int (k3 : Int))] [(4, cell b4 [osl 20 v20]), (5, cell b5 [osl 22 v22]), (7, cell b7 [osl 70 u73]), (20, own v20 3 1 intE left3), (22, own v22 72 1 eqvE us), (24, own v24 58 1 eqvE us2), (70, own u73 3 1 intE out3), (92, own (ix us2 ((ix out i).toNat)) 56 2 pairE (ix into ((ix out i).toNat))), (221, bigown us 4 1 blE dead3 none), (241, bigown us2 56 2 pairE into (some ((ix out i).toNat)))] _
      refine sq (rg (bi rfl rfl b_lss (nl (th (sq ?_)))))
      refine cd rfl (fun hc5 => ?_) (fun hc5 => ?_)
      · try simp at hc5
        obtain ⟨px, pa, hpe, hpx, hpa, hp0, hpH⟩ := preds_ok hHy (ix (ix into (ix out i).toNat) k3) (by rw [← hiy]; exact ix_memS (by omega))
        have hps := procs_inv (ps := (preds s s.states.length (ix out i).toNat).take k3) (fun p hp => preds_ok hHy p (List.mem_of_mem_take hp)) (rq_inv s i)
        rw [← hI3] at hps
        have hp1 : (ix (ix into (ix out i).toNat) k3).1 = (px : Int) := by rw [hpe]
        have hp2 : (ix (ix into (ix out i).toNat) k3).2 = (pa : Int) := by rw [hpe]
        refine sk (th (sq (bk (sq (rg (iO rfl rfl rfl T.sl58 (by omega) (by omega) (lOA rfl rfl (by first | exact gN (by omega) | exact gI (by omega) (by omega)) T.agg56 (by decide) (al (key := 15) T.z56 (ex_cons (ex_cons (ex_nil))) fun b15 => (sPA (cs' := [int ((ix (ix into ((ix out i).toNat)) k3).1), int ((ix (ix into ((ix out i).toNat)) k3).2)]) rfl rfl rfl T.agg56 rfl rfl (nl (th (rg (mv (iPA rfl rfl T.arr56 T.one3 rfl (lP rfl rfl rfl T.one3 (iPA rfl rfl T.arr56 T.one3 rfl (lP rfl rfl rfl T.one3 (callC (Hi := ladH b5 b4 b7 v22 v20 us u73 (⟨left3, dead3, out3⟩ : LS)) (ι := Value) (res := fun _ _ => tup []) (Ho := fun v => ladH b5 b4 b7 v22 v20 us v (low s px (pa : Int) (⟨left3, dead3, out3⟩ : LS))) rfl (by show AL.Fn _ _ [int (ix (ix into (ix out i).toNat) k3).1, int (ix (ix into (ix out i).toNat) k3).2, _, _, _, _] _ _ _; rw [hp1, hp2]; exact lower_ok s hs px pa hpx hpa hp0 hpH (⟨left3, dead3, out3⟩ : LS) hps.1 b5 b4 b7 v22 v20 u73 us hul) T.ent119 ⟨⟨rfl, id⟩, ⟨rfl, id⟩, ⟨rfl, id⟩, ⟨rfl, id⟩, ⟨rfl, id⟩, ⟨rfl, id⟩, ⟨rfl, id⟩, trivial⟩ fun N z => (nl (eb (th (rg (bi rfl rfl (b_add (by unfold I64; omega)) (mv (nl ?_)))))))))))))))))))))))))
        have hN0 : (k3 + 1) ≤ (ix into ((ix out i).toNat)).length := by
          first | omega | simp_all
        have hN1 : (⟨((low s px (pa : Int) (⟨left3, dead3, out3⟩ : LS)).left), ((low s px (pa : Int) (⟨left3, dead3, out3⟩ : LS)).dead), ((low s px (pa : Int) (⟨left3, dead3, out3⟩ : LS)).out)⟩ : LS) = procs s ((preds s s.states.length (ix out i).toNat).take (k3 + 1)) (rq s i) := by
          rw [take_s (by rw [← hiy]; omega), procs_snoc, ← hI3, ← hiy, hpe]
          rfl
        exact ln (⟨k3 + 1, (low s px (pa : Int) (⟨left3, dead3, out3⟩ : LS)).dead, (low s px (pa : Int) (⟨left3, dead3, out3⟩ : LS)).left, z, (low s px (pa : Int) (⟨left3, dead3, out3⟩ : LS)).out⟩ : Nat × (List (List Bool)) × (List Int) × Value × (List Int)) ⟨hN0, hN1⟩ (by first | omega | (dsimp only; omega)) ⟨id, id, id, id, id, id, id, id, trivial⟩ ⟨⟨rfl, id⟩, ⟨rfl, id⟩, ⟨rfl, id⟩, ⟨rfl, id⟩, ⟨rfl, id⟩, ⟨rfl, id⟩, ⟨rfl, id⟩, ⟨rfl, id⟩, ⟨rfl, id⟩, ⟨rfl, id⟩, trivial⟩
      · try simp at hc5
        refine ex (xt_ (xt_ (xb (eb (th (rg (gvS 241 92 ((ix out i).toNat) rfl rfl (by decide) (gK (by omega)) (gK (by omega)) (mv (bi rfl rfl (b_add (by unfold I64; omega)) (ag (nl ?_)))))))))))
        have hN0 : (⟨left3, dead3, out3⟩ : LS) = rq s (i + 1) ∧ (i + 1) ≤ out3.length := by
          have hps := procs_inv (preds_ok hHy) (rq_inv s i)
          rw [show k3 = (preds s s.states.length (ix out i).toNat).length by rw [← hiy]; omega, List.take_length] at hI3
          rw [← hI3, ← hI2.1] at hps
          have hpl := hps.2.1.1.length_le
          refine ⟨?_, by dsimp only at hpl; omega⟩
          rw [hI3]
          show _ = if _ then _ else _
          rw [← hI2.1, if_pos hc4]
        exact ln (⟨i + 1, dead3, left3, u73, out3⟩ : Nat × (List (List Bool)) × (List Int) × Value × (List Int)) hN0 (by first | omega | (dsimp only; omega)) ⟨id, id, id, id, id, trivial⟩ ⟨⟨rfl, id⟩, ⟨rfl, id⟩, ⟨rfl, id⟩, ⟨rfl, id⟩, ⟨rfl, id⟩, ⟨rfl, id⟩, ⟨rfl, id⟩, ⟨rfl, id⟩, ⟨rfl, id⟩, trivial⟩
    · try simp at hc4
      refine ex (xt_ (xt_ (xb (th (sq (rg (lP rfl rfl rfl T.one28 (ag (nl (th (rt ?_)))))))))))
      refine fzA 70 2 rfl rfl ?_
      have hr0 : out = (rungs s) := by
        have hR := rungs_of (s := s) (i := i) (by rw [← hI2.1]; exact hc4)
        rw [← hR, ← hI2.1]
      have hall : ∀ x0, out = x0 → resAV [sl 1 intE out] = resAV [sl 1 intE x0] := by rintro _ rfl; rfl
      exact rE () [.tmp 2] rfl [sl 1 intE out] ⟨.tmp rfl, trivial⟩ (hall _ hr0) trivial (by first | exact .inr rfl | exact .inl rfl)
end prog6
end Go.Proofs.YtolpjmllmlahfaaDoor
