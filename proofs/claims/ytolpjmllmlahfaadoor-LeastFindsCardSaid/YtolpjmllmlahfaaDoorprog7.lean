/- Walks of the functions of this claim, printed by a program of its own out of annotations. -/
import Derived.Test.YtolpjmllmlahfaaDoorprog4
import Derived.Test.YtolpjmllmlahfaaDoorprog6
import Derived.Test.YtolpjmllmlahfaaDoorLeftM
namespace Go.Proofs.YtolpjmllmlahfaaDoor
open AL Go
set_option maxRecDepth 100000
set_option linter.all false

open ref01 ref03 ref04 ref06 prog prog2 prog3 prog4 prog6 Part Rungs LeftM
def leftE : Int × List Int → List AV := fun p => [int p.1, ints p.2]
attribute [local semireducible] andp any in
theorem andp_any7 {q : Prop} (hq : q) {w : World} {F : Fz} {v : Value} : (andp q any).p w F v := ⟨hq, trivial⟩
theorem marks_step {n : Nat} {l : List Int} {k : Nat} (hk : k < l.length) (h0 : 0 ≤ ix l k) : (marks n (l.take k)).set (ix l k).toNat true = marks n (l.take (k + 1)) := by
  rw [marks_set h0, take_s hk]
theorem take_at {α : Type} {l : List α} {m : Nat} {x : α} (h : l[m]? = some x) : l.take (m + 1) = l.take m ++ [x] := by
  obtain ⟨hm, rfl⟩ := List.getElem?_eq_some_iff.1 h
  rw [List.take_succ_eq_append_getElem hm]
theorem hol_false {s : SSpec} {x : Nat} (h : ¬ ix (hollow s) x = true) : ix (hollow s) x = false := by simpa using h

namespace prog7
namespace T
theorem ent119 : Ent Tryd.prog 119 := ent_of (by kernel_rfl)
theorem fld25_1 : FieldAt Tryd.prog 25 1 1 := fieldAt_of (by kernel_rfl)
theorem one23 : IsOne Tryd.prog 23 := isOne_of (by kernel_rfl)
theorem sl23 : IsSlice Tryd.prog 23 69 2 := isSlice_of (by kernel_rfl)
theorem mk72 : MakeT Tryd.prog 72 4 1 1 [.bool false] := makeT_of (by kernel_rfl) (by kernel_rfl)
theorem agg25 : IsAgg Tryd.prog 25 2 := isAgg_of (by kernel_rfl)
theorem ent101 : Ent Tryd.prog 101 := ent_of (by kernel_rfl)
theorem sl28 : IsSlice Tryd.prog 28 3 1 := isSlice_of (by kernel_rfl)
theorem one3 : IsOne Tryd.prog 3 := isOne_of (by kernel_rfl)
theorem sl72 : IsSlice Tryd.prog 72 4 1 := isSlice_of (by kernel_rfl)
theorem one4 : IsOne Tryd.prog 4 := isOne_of (by kernel_rfl)
theorem ent90 : Ent Tryd.prog 90 := ent_of (by kernel_rfl)
theorem z72 : ZeroIs Tryd.prog 72 [.slice none 0 0] := zeroIs_of (by kernel_rfl)
theorem one72 : IsOne Tryd.prog 72 := isOne_of (by kernel_rfl)
theorem mk28 : MakeT Tryd.prog 28 3 1 8 [.int .i64 0] := makeT_of (by kernel_rfl) (by kernel_rfl)
theorem z28 : ZeroIs Tryd.prog 28 [.slice none 0 0] := zeroIs_of (by kernel_rfl)
theorem one28 : IsOne Tryd.prog 28 := isOne_of (by kernel_rfl)
theorem agg69 : IsAgg Tryd.prog 69 2 := isAgg_of (by kernel_rfl)
theorem z69 : ZeroIs Tryd.prog 69 [.slice none 0 0, .slice none 0 0] := zeroIs_of (by kernel_rfl)
theorem mixed : Tryd.prog.follows .mixedOrders = true := by kernel_rfl
theorem fld69_0 : FieldAt Tryd.prog 69 0 0 := fieldAt_of (by kernel_rfl)
theorem z4 : ZeroIs Tryd.prog 4 [.bool false] := zeroIs_of (by kernel_rfl)
theorem ent95 : Ent Tryd.prog 95 := ent_of (by kernel_rfl)
theorem ent115 : Ent Tryd.prog 115 := ent_of (by kernel_rfl)
theorem fld69_1 : FieldAt Tryd.prog 69 1 1 := fieldAt_of (by kernel_rfl)
end T

theorem Hollows_ok (s : SSpec) (hs : okSpec s) :
    Fn0 Tryd.prog 90 [spec s] (bls (hollow s)) := by
  refine fnI Tryd.func90 rfl rfl (fun w0 F0 => ?_)
  have hf1 := hs.few1; have hI := rq_inv s s.states.length; have hrl : (rungs s).length ≤ s.states.length := hI.len
  refine fcC (inhS 0 rfl) (fun hS0 => ?_)
  obtain ⟨hsa0, hss0, hse0⟩ := spec_lens hS0
  refine sq (rg (bx (key := 1) (cs := [sl 1 strE s.actions, sl 2 stateE s.states]) rfl fun b1 => (ag (nl (th (sq (rg (fP rfl T.fld25_1 (lP rfl rfl rfl T.one23 (fc (slenI 7 rfl) fun hm7 => (lnF rfl T.sl23 (mk (key := 9) (m := s.states.length) (enc := blE) (y := false) rfl rfl T.mk72 (ex_cons ex_nil) (by unfold maxL; omega) (by unfold maxL; omega) fun v9 => (ag (nl (th (sq (sq (rg (lPA rfl rfl T.agg25 rfl (cal0 (φs := [agg [sl 1 strE s.actions, sl 2 stateE s.states]]) (φ := sl 1 intE (rungs s)) ⟨rfl, trivial⟩ (prog6.rungs_ok s (by assumption)) T.ent101 (fc (slenI 11 rfl) fun hm11 => (lnF rfl T.sl28 (mv (nl (th (bk ?_))))))))))))))))))))))))))
  have hI0_0 : 0 ≤ (rungs s).length := by
    first | omega | simp
  have hI0_1 : (List.replicate s.states.length false) = marks s.states.length ((rungs s).take 0) := by
    rw [List.take_zero]; apply List.ext_getElem?; intro j; simp [marks, List.getElem?_replicate]; split <;> simp_all
  refine lp (κ := Nat × (List Bool)) (fun p => [(2, eqv (.slice none 0 0)), (3, osl 9 v9), (11, sl 1 intE (rungs s)), (12, int ((rungs s).length : Int)), (13, int (p.1 : Int))]) (fun p => [(1, cell b1 [sl 1 strE s.actions, sl 2 stateE s.states]), (9, own v9 4 1 blE p.2)]) (fun p => (p.1 ≤ (rungs s).length) ∧ (p.2 = marks s.states.length ((rungs s).take p.1))) (fun p => (rungs s).length - p.1) ⟨0, List.replicate s.states.length false⟩ ⟨hI0_0, hI0_1⟩ ⟨id, id, id, id, id, trivial⟩ ⟨⟨rfl, id⟩, ⟨rfl, id⟩, trivial⟩ ?_
  intro ⟨k, acc⟩ hG0
  obtain ⟨hk0, hI0⟩ : (k ≤ (rungs s).length) ∧ (acc = marks s.states.length ((rungs s).take k)) := hG0
  show Ct _ _ _ _ [(2, eqv (.slice none 0 0)), (3, osl 9 v9), (11, sl 1 intE (rungs s)), (12, int ((rungs s).length : Int)), (13, int (k : Int))] [(1, cell b1 [sl 1 strE s.actions, sl 2 stateE s.states]), (9, own v9 4 1 blE acc)] _
  refine sq (rg (bi rfl rfl b_lss (nl (th (sq ?_)))))
  refine cd rfl (fun hc0 => ?_) (fun hc0 => ?_)
  · try simp at hc0
    have hob := hI.bd _ (ix_mem (l := rungs s) hc0)
    have hal : acc.length = s.states.length := by rw [hI0]; exact marks_len _ _
    refine sk (th (sq (bk (sq (rg (iF rfl rfl T.sl28 (by omega) (by first | exact gN (by omega) | exact gI (by omega) (by omega)) (lF rfl rfl T.one3 (ag (nl (th (rg (mv (mv (iO rfl rfl rfl T.sl72 (by omega) (by omega) (sO (φ := bl true) rfl rfl rfl T.one4 (by first | exact gN (by omega) | exact gI (by omega) (by omega)) rfl (y' := true) rfl (nl (eb (th (rg (bi rfl rfl (b_add (by unfold I64; omega)) (mv (nl ?_))))))))))))))))))))))
    have hN0 : (k + 1) ≤ (rungs s).length := by
      first | omega | simp_all
    have hN1 : (acc.set ((ix (rungs s) k).toNat) true) = marks s.states.length ((rungs s).take (k + 1)) := by
      rw [hI0]; exact marks_step hc0 hob.1
    exact ln (⟨k + 1, acc.set ((ix (rungs s) k).toNat) true⟩ : Nat × (List Bool)) ⟨hN0, hN1⟩ (by first | omega | (dsimp only; omega)) ⟨id, id, id, id, id, trivial⟩ ⟨⟨rfl, id⟩, ⟨rfl, id⟩, trivial⟩
  · try simp at hc0
    refine ex (xt_ (xt_ (xb (th (sq (rg (mv (ag (nl (th (rt ?_)))))))))))
    refine fzA 9 2 rfl rfl ?_
    have hr0 : acc = (hollow s) := by
      rw [hI0, show k = (rungs s).length by omega, List.take_length]; exact hollow_rungs hs
    have hall : ∀ x0, acc = x0 → resAV [sl 1 blE acc] = resAV [sl 1 blE x0] := by rintro _ rfl; rfl
    exact rE () [.tmp 2] rfl [sl 1 blE acc] ⟨.tmp rfl, trivial⟩ (hall _ hr0) trivial (by first | exact .inr rfl | exact .inl rfl)

theorem Left_ok (s : SSpec) :
    Fn0 Tryd.prog 98 [spec s] (clo 118 [fp [strs s.actions, sl 2 stateE s.states]]) := by
  refine fnI Tryd.func98 rfl rfl (fun w0 F0 => ?_)
  refine fcC (inhS 0 rfl) (fun hS0 => ?_)
  obtain ⟨hsa0, hss0, hse0⟩ := spec_lens hS0
  refine sq (rg (bx (key := 1) (cs := [sl 1 strE s.actions, sl 2 stateE s.states]) rfl fun b1 => (ag (nl (th (sq (rg (fzv 1 1 rfl rfl (mkf (ag (nl (th (rt ?_)))))))))))))
  exact rE () [.tmp 2] rfl [clo 118 [fp [sl 1 strE s.actions, sl 2 stateE s.states]]] ⟨.tmp rfl, trivial⟩ (rfl) trivial (by first | exact .inr rfl | exact .inl rfl)

theorem LeftIt (s : SSpec) (hs : okSpec s) :
    It Tryd.prog 118 [fp [strs s.actions, sl 2 stateE s.states]] leftE (leftL s) := by
  intro y Y Z hlaw hz hY0
  refine fnI Tryd.func118 rfl rfl (fun w0 F0 => ?_)
  have hf0 := hs.few0; have hf1 := hs.few1; have hn8 := hs.n8; have hhl := hollow_len s
  refine sq (rg (lFA rfl T.agg25 (Nat.le_of_ble_eq_true rfl) (cal0 (φs := [agg [sl 1 strE s.actions, sl 2 stateE s.states]]) (φ := sl 1 blE (hollow s)) ⟨rfl, trivial⟩ (prog7.Hollows_ok s (by assumption)) T.ent90 (al (key := 3) T.z72 (ex_cons (ex_nil)) fun b3 => (sP (φ := sl 1 blE (hollow s)) rfl rfl rfl T.one72 rfl (nl (th (sq (sq (rg (lP rfl rfl rfl T.one72 (iF rfl rfl T.sl72 (by omega) (gK (k := 0) (by omega)) (lF rfl rfl T.one4 (nl (th ?_)))))))))))))))
  refine cd rfl (fun hc0 => ?_) (fun hc0 => ?_)
  · try simp at hc0
    refine rt (rt_ ?_)
    exact r0 hz rfl (fun _ => andp_any7 (.inl (by unfold leftL; rw [if_pos hc0]; exact hY0))) ⟨⟨rfl, id⟩, trivial⟩ (.inr rfl)
  · try simp at hc0
    have h00 := hol_false (by rw [hc0]; simp)
    refine sk (th (sq (rg (fF rfl T.fld25_1 (lF rfl rfl T.one23 (fc (slenI 22 rfl) fun hm22 => (lnF rfl T.sl23 (mk (key := 24) (m := s.states.length) (enc := blE) (y := false) rfl rfl T.mk72 (ex_cons ex_nil) (by unfold maxL; omega) (by unfold maxL; omega) fun v24 => (al (key := 4) T.z72 (ex_cons (ex_nil)) fun b4 => (storePO rfl rfl rfl rfl T.one72 rfl (nl (th (sq (rg (lP rfl rfl rfl T.one72 (iO rfl rfl rfl T.sl72 (by omega) (by simp; omega) (sO (φ := bl true) rfl rfl rfl T.one4 (gN (by simp; omega)) rfl (y' := true) rfl (nl (th (sq (rg (bsO 27 (enc := intE) (xs := [0]) (css := [[int 0]]) T.mk28 ⟨rfl, rfl, p1 (φ := int 0) rfl, trivial⟩ rfl rfl rfl rfl fun v27 => (al (key := 5) T.z28 (ex_cons (ex_nil)) fun b5 => (storePO rfl rfl rfl rfl T.one28 rfl (nl (th (sq (rg (ag (nl (th (bk ?_))))))))))))))))))))))))))))))))
    have hI0_0 : ([0] : List Int) = bq (solid s) 0 ∧ ((List.replicate s.states.length false).set 0 true) = marks s.states.length ([0] : List Int) ∧ Y 0 hz ∧ 0 ≤ ([0] : List Int).length := by
      exact ⟨rfl, marks_zero _, hY0, Nat.zero_le _⟩
    refine lp (κ := Nat × (List Bool) × Value × (List Int) × HA) (fun p => [(0, eqv y), (1, fp [sl 1 strE s.actions, sl 2 stateE s.states]), (3, ptr 3 b3 0), (4, ptr 4 b4 0), (5, ptr 5 b5 0), (6, int (p.1 : Int))]) (fun p => [(0, p.2.2.2.2), (3, cell b3 [sl 1 blE (hollow s)]), (4, cell b4 [osl 24 v24]), (5, cell b5 [osl 27 p.2.2.1]), (24, own v24 4 1 blE p.2.1), (27, own p.2.2.1 3 1 intE p.2.2.2.1)]) (fun p => p.2.2.2.1 = bq (solid s) p.1 ∧ p.2.1 = marks s.states.length p.2.2.2.1 ∧ Y p.1 p.2.2.2.2 ∧ p.1 ≤ p.2.2.2.1.length) (fun p => s.states.length - p.1) ⟨0, (List.replicate s.states.length false).set 0 true, v27, ([0] : List Int), hz⟩ hI0_0 ⟨id, id, id, id, id, id, trivial⟩ ⟨⟨rfl, id⟩, ⟨rfl, id⟩, ⟨rfl, id⟩, ⟨rfl, id⟩, ⟨rfl, id⟩, ⟨rfl, id⟩, trivial⟩ ?_
    intro ⟨i, met, u5, ord, hh⟩ hG0
    have hI0 : ord = bq (solid s) i ∧ met = marks s.states.length ord ∧ Y i hh ∧ i ≤ ord.length := hG0
    show Ct _ _ _ _ [(0, eqv y), (1, fp [sl 1 strE s.actions, sl 2 stateE s.states]), (3, ptr 3 b3 0), (4, ptr 4 b4 0), (5, ptr 5 b5 0), (6, int (i : Int))] [(0, hh), (3, cell b3 [sl 1 blE (hollow s)]), (4, cell b4 [osl 24 v24]), (5, cell b5 [osl 27 u5]), (24, own v24 4 1 blE met), (27, own u5 3 1 intE ord)] _
    have hoq := bq_ok hs i
    rw [← hI0.1] at hoq
    have hol := hoq.le
    have hml : met.length = s.states.length := by rw [hI0.2.1]; exact marks_len _ _
    refine sq (sq (rg (mv (lP rfl rfl rfl T.one28 (lnO rfl rfl T.sl28 (bi rfl rfl b_lss (nl (th ?_))))))))
    refine cd rfl (fun hc1 => ?_) (fun hc1 => ?_)
    · try simp at hc1
      have hob := hoq.1 i hc1
      have hox := hs.st (ix ord i).toNat (by omega)
      have hxn : (ix ord i).toNat < s.states.length := by omega
      refine sk (th (sq (bk (sq ?_))))
      refine drH (nh := 10) [0, 1, 0, 0, 12, 28, 63, 127, 0, 511] [(none, []), (none, []), (none, [5]), (none, []), (none, [27]), (none, [27]), (none, []), (none, []), (some 7, []), (some 7, [7])] T.mixed (by kernel_rfl) (by kernel_rfl) ?_
      refine stv (d := 34) (fun β0 => fp [sl 2 stateE s.states]) [] rfl (fun β β' hb => rfl) (fun β0 _ _ _ _ gq gh kq => fF (gq.1.trans rfl) T.fld25_1 kq) ?_
      refine stv (d := 35) (fun β0 => sl 2 stateE s.states) [] rfl (fun β β' hb => rfl) (fun β0 _ _ _ _ gq gh kq => lF (gq.1.trans rfl) rfl T.one23 kq) ?_
      refine stv (d := 36) (fun β0 => osl 27 u5) [5] rfl (fun β β' hb => rfl) (fun β0 _ _ _ _ gq gh kq => lP (gq.1.trans rfl) (gh.1.trans rfl) rfl T.one28 kq) ?_
      refine stv (d := 37) (fun β0 => int (i : Int)) [] rfl (fun β β' hb => rfl) (fun β0 _ _ _ _ gq gh kq => mv' (gq.1.trans rfl) kq) ?_
      refine stv (d := 38) (fun β0 => eptr 27 u5 1 i 0) [27] rfl (fun β β' hb => rfl) (fun β0 _ _ _ _ gq gh kq => iO (gq.1.trans rfl) (gh.1.trans rfl) (gq.2.1.trans rfl) T.sl28 (by omega) (by omega) kq) ?_
      refine stv (d := 39) (fun β0 => int (ix ord i)) [27] rfl (fun β β' hb => rfl) (fun β0 _ _ _ _ gq gh kq => lO (gq.1.trans rfl) (gh.1.trans rfl) (by first | exact gN (by omega) | exact gI (by omega) (by omega)) rfl T.one3 kq) ?_
      refine stv (d := 40) (fun β0 => fp [sl 1 intE ((ix s.states ((ix ord i).toNat)).accept), sl 1 intE ((ix s.states ((ix ord i).toNat)).next)]) [] rfl (fun β β' hb => rfl) (fun β0 _ _ _ _ gq gh kq => iF (gq.1.trans rfl) (gq.2.1.trans rfl) T.sl23 (by omega) (by first | exact gN (by omega) | exact gI (by omega) (by omega)) kq) ?_
      refine stv (d := 41) (fun β0 => agg [sl 1 intE ((ix s.states ((ix ord i).toNat)).accept), sl 1 intE ((ix s.states ((ix ord i).toNat)).next)]) [] rfl (fun β β' hb => rfl) (fun β0 _ _ _ _ gq gh kq => lFA (gq.1.trans rfl) T.agg69 (Nat.le_of_ble_eq_true rfl) kq) ?_
      refine sta 7 T.z69 (ex_cons (ex_cons (ex_nil))) ?_
      refine stw 7 (fun β0 => cell (gbk (β0 8)) [sl 1 intE ((ix s.states ((ix ord i).toNat)).accept), sl 1 intE ((ix s.states ((ix ord i).toNat)).next)]) [7] rfl (fun β β' hb => by first | rw [hb 8 rfl] | (dsimp only; rw [hb 8 rfl])) (fun β0 _ _ _ _ gq gh kq => sPA (cs' := [sl 1 intE ((ix s.states ((ix ord i).toNat)).accept), sl 1 intE ((ix s.states ((ix ord i).toNat)).next)]) (gq.1.trans rfl) (gh.1.trans rfl) (gq.2.1.trans rfl) T.agg69 rfl rfl kq) ?_
      refine pnH fun β0 => (nl (th (sq (rg (nw 8 3 1 intE (ag (rtg (key := 8) 8 rfl (nl (th (sq (rg (ag (nl (th (sq (sq (rg (fP rfl T.fld69_0 (lP rfl rfl rfl T.one28 (fc (slenI 43 rfl) fun hm43 => (lnF rfl T.sl28 (mv (nl (th (bk ?_)))))))))))))))))))))))))
      have hI1_0 : 0 ≤ ((ix s.states ((ix ord i).toNat)).accept).length := by
        first | omega | simp
      have hI1_1 : ([] : List Int) = ((ix s.states (ix ord i).toNat).accept.take 0).filter (fun t => !falls (ix s.states (ix ord i).toNat) t (hollow s)) ∧ (0 : Int) = orAll ([] : List Int) ∧ 0 ≤ (0 : Int) ∧ (0 : Int) < 256 ∧ ([] : List Int).length ≤ 0 := by
        exact ⟨by simp, rfl, by omega, by omega, by simp⟩
      refine lp (κ := Nat × Value × (List Int) × Int) (fun p => [(0, eqv y), (1, fp [sl 1 strE s.actions, sl 2 stateE s.states]), (3, ptr 3 b3 0), (4, ptr 4 b4 0), (5, ptr 5 b5 0), (6, int (i : Int)), (7, ptr 7 (gbk (β0 8)) 0), (8, osl 8 p.2.1), (9, int p.2.2.2), (43, sl 1 intE ((ix s.states ((ix ord i).toNat)).accept)), (44, int (((ix s.states ((ix ord i).toNat)).accept).length : Int)), (45, int (p.1 : Int))]) (fun p => [(0, hh), (3, cell b3 [sl 1 blE (hollow s)]), (4, cell b4 [osl 24 v24]), (5, cell b5 [osl 27 u5]), (7, cell (gbk (β0 8)) [sl 1 intE ((ix s.states ((ix ord i).toNat)).accept), sl 1 intE ((ix s.states ((ix ord i).toNat)).next)]), (8, own p.2.1 3 1 intE p.2.2.1), (24, own v24 4 1 blE met), (27, own u5 3 1 intE ord)]) (fun p => (p.1 ≤ ((ix s.states ((ix ord i).toNat)).accept).length) ∧ (p.2.2.1 = ((ix s.states (ix ord i).toNat).accept.take p.1).filter (fun t => !falls (ix s.states (ix ord i).toNat) t (hollow s)) ∧ p.2.2.2 = orAll p.2.2.1 ∧ 0 ≤ p.2.2.2 ∧ p.2.2.2 < 256 ∧ p.2.2.1.length ≤ p.1)) (fun p => ((ix s.states ((ix ord i).toNat)).accept).length - p.1) ⟨0, (.slice none 0 0), ([] : List Int), (0 : Int)⟩ ⟨hI1_0, hI1_1⟩ ⟨id, id, id, id, id, id, id, id, id, id, id, id, trivial⟩ ⟨⟨rfl, id⟩, ⟨rfl, id⟩, ⟨rfl, id⟩, ⟨rfl, id⟩, ⟨rfl, id⟩, ⟨rfl, id⟩, ⟨rfl, id⟩, ⟨rfl, id⟩, trivial⟩ ?_
      intro ⟨k1, u8, sets, cn⟩ hG1
      obtain ⟨hk1, hI1⟩ : (k1 ≤ ((ix s.states ((ix ord i).toNat)).accept).length) ∧ (sets = ((ix s.states (ix ord i).toNat).accept.take k1).filter (fun t => !falls (ix s.states (ix ord i).toNat) t (hollow s)) ∧ cn = orAll sets ∧ 0 ≤ cn ∧ cn < 256 ∧ sets.length ≤ k1) := hG1
      show Ct _ _ _ _ [(0, eqv y), (1, fp [sl 1 strE s.actions, sl 2 stateE s.states]), (3, ptr 3 b3 0), (4, ptr 4 b4 0), (5, ptr 5 b5 0), (6, int (i : Int)), (7, ptr 7 (gbk (β0 8)) 0), (8, osl 8 u8), (9, int cn), (43, sl 1 intE ((ix s.states ((ix ord i).toNat)).accept)), (44, int (((ix s.states ((ix ord i).toNat)).accept).length : Int)), (45, int (k1 : Int))] [(0, hh), (3, cell b3 [sl 1 blE (hollow s)]), (4, cell b4 [osl 24 v24]), (5, cell b5 [osl 27 u5]), (7, cell (gbk (β0 8)) [sl 1 intE ((ix s.states ((ix ord i).toNat)).accept), sl 1 intE ((ix s.states ((ix ord i).toNat)).next)]), (8, own u8 3 1 intE sets), (24, own v24 4 1 blE met), (27, own u5 3 1 intE ord)] _
      have hacl := hox.acl
      refine sq (rg (bi rfl rfl b_lss (nl (th (sq ?_)))))
      refine cd rfl (fun hc2 => ?_) (fun hc2 => ?_)
      · try simp at hc2
        have hac := hox.ac k1 (by omega)
        refine sk (th (sq (bk (sq (rg (iF rfl rfl T.sl28 (by omega) (by first | exact gN (by omega) | exact gI (by omega) (by omega)) (lF rfl rfl T.one3 (ag (nl (th (sq (rg (al (key := 12) T.z4 (ex_cons (ex_nil)) fun b12 => (sP (φ := bl true) rfl rfl rfl T.one4 rfl (nl (th (sq (sq (rg (mv (cal0 (φs := [int (ix ((ix s.states ((ix ord i).toNat)).accept) k1)]) (φ := clo 115 [fp [int (ix ((ix s.states ((ix ord i).toNat)).accept) k1)]]) ⟨rfl, trivial⟩ (prog3.In_ok (ix ((ix s.states ((ix ord i).toNat)).accept) k1)) T.ent95 (nl (th (bk ?_))))))))))))))))))))))))
        have hR0 : true = ((listOf 63 (ix (ix s.states (ix ord i).toNat).accept k1)).take 0).all (fun a => !ix (hollow s) (ix (ix s.states (ix ord i).toNat).next a.toNat).toNat) := by
          simp
        refine rf (κ := Bool) 900 (fun p => [(0, hh), (3, cell b3 [sl 1 blE (hollow s)]), (4, cell b4 [osl 24 v24]), (5, cell b5 [osl 27 u5]), (7, cell (gbk (β0 8)) [sl 1 intE ((ix s.states ((ix ord i).toNat)).accept), sl 1 intE ((ix s.states ((ix ord i).toNat)).next)]), (8, own u8 3 1 intE sets), (12, cell b12 [bl p]), (24, own v24 4 1 blE met), (27, own u5 3 1 intE ord)]) (fun iR p => p = ((listOf 63 (ix (ix s.states (ix ord i).toNat).accept k1)).take iR).all (fun a => !ix (hollow s) (ix (ix s.states (ix ord i).toNat).next a.toNat).toNat)) (fun c p => False) rfl (InIt (ix (ix s.states (ix ord i).toNat).accept k1) (by omega) (by omega)) T.ent115 rfl (fun _ => rfl) (fun _ => rfl) true hR0 ⟨⟨rfl, id⟩, ⟨rfl, id⟩, ⟨rfl, id⟩, ⟨rfl, id⟩, ⟨rfl, id⟩, ⟨rfl, id⟩, ⟨rfl, id⟩, ⟨rfl, id⟩, ⟨rfl, id⟩, trivial⟩ ?_ ?_ (fun k h => h.elim) (fun id k h => h.elim) (fun c k h => h.elim)
        · intro m0 fi x0 hG0 hx0 l R w1 M1 F1 hRd
          have hR0 : fi = ((listOf 63 (ix (ix s.states (ix ord i).toNat).accept k1)).take m0).all (fun a => !ix (hollow s) (ix (ix s.states (ix ord i).toNat).next a.toNat).toNat) := hG0
          obtain ⟨a, rfl, ha63, hha⟩ := listOf_get hx0
          have hgo := hox.go k1 (by omega) a hha
          have hnx := hox.nx a hgo.1
          have hxl := hox.len
          refine rg (ag (nl (aq hRd rfl (bk (dr (nh := 12) [0, 1, 3, 3, 11, 3, 59, 123, 255, 511, 1023, 2047, 4095] T.mixed (by kernel_rfl) ?_)))))
          refine st_ rfl (fun _ _ _ gq kq => lP (gq.1.trans rfl) rfl rfl T.one4 kq) ?_
          refine st_ rfl (fun _ _ _ gq kq => mv' (gq.1.trans rfl) kq) ?_
          refine sg_ (φ := sl 1 blE (hollow s)) rfl rfl rfl rfl (List.mem_of_elem_eq_true rfl) (fun hgd => ?_) ?_
          · have hgd' := hgd
            try simp at hgd'
            exact fun _ _ _ gq kq => lP (gq.1.trans rfl) rfl rfl T.one72 kq
          refine sg_ (φ := ptr 7 (gbk (β0 8)) 1) rfl rfl rfl rfl (List.mem_of_elem_eq_true rfl) (fun hgd => ?_) ?_
          · have hgd' := hgd
            try simp at hgd'
            exact fun _ _ _ gq kq => fP (gq.1.trans rfl) T.fld69_1 kq
          refine sg_ (φ := sl 1 intE ((ix s.states ((ix ord i).toNat)).next)) rfl rfl rfl rfl (List.mem_of_elem_eq_true rfl) (fun hgd => ?_) ?_
          · have hgd' := hgd
            try simp at hgd'
            exact fun _ _ _ gq kq => lP (gq.1.trans (gif_t hgd)) rfl rfl T.one28 kq
          refine sg_ (φ := int (a : Int)) rfl rfl rfl rfl (List.mem_of_elem_eq_true rfl) (fun hgd => ?_) ?_
          · have hgd' := hgd
            try simp at hgd'
            exact fun _ _ _ gq kq => mv' (gq.1.trans rfl) kq
          refine sg_ (φ := fp [int (ix ((ix s.states ((ix ord i).toNat)).next) a)]) rfl rfl rfl rfl (List.mem_of_elem_eq_true rfl) (fun hgd => ?_) ?_
          · have hgd' := hgd
            try simp at hgd'
            exact fun _ _ _ gq kq => iF (gq.1.trans (gif_t hgd)) (gq.2.1.trans (gif_t hgd)) T.sl28 (by omega) (by first | exact gN (by omega) | exact gI (by omega) (by omega)) kq
          refine sg_ (φ := int (ix ((ix s.states ((ix ord i).toNat)).next) a)) rfl rfl rfl rfl (List.mem_of_elem_eq_true rfl) (fun hgd => ?_) ?_
          · have hgd' := hgd
            try simp at hgd'
            exact fun _ _ _ gq kq => lF (gq.1.trans (gif_t hgd)) rfl T.one3 kq
          refine sg_ (φ := fp [bl (ix (hollow s) ((ix ((ix s.states ((ix ord i).toNat)).next) a).toNat))]) rfl rfl rfl rfl (List.mem_of_elem_eq_true rfl) (fun hgd => ?_) ?_
          · have hgd' := hgd
            try simp at hgd'
            exact fun _ _ _ gq kq => iF (gq.1.trans (gif_t hgd)) (gq.2.1.trans (gif_t hgd)) T.sl72 (by omega) (by first | exact gN (by omega) | exact gI (by omega) (by omega)) kq
          refine sg_ (φ := bl (ix (hollow s) ((ix ((ix s.states ((ix ord i).toNat)).next) a).toNat))) rfl rfl rfl rfl (List.mem_of_elem_eq_true rfl) (fun hgd => ?_) ?_
          · have hgd' := hgd
            try simp at hgd'
            exact fun _ _ _ gq kq => lF (gq.1.trans (gif_t hgd)) rfl T.one4 kq
          refine sg_ (φ := bl (!(ix (hollow s) ((ix ((ix s.states ((ix ord i).toNat)).next) a).toNat)))) rfl rfl rfl rfl (List.mem_of_elem_eq_true rfl) (fun hgd => ?_) ?_
          · have hgd' := hgd
            try simp at hgd'
            exact fun _ _ _ gq kq => no (gq.1.trans (gif_t hgd)) kq
          refine st_ rfl (fun _ _ _ gq kq => pk (gq.1.trans rfl) (pk_and (x := .tmp 53) (gq.1.trans rfl) (gq.2.1.trans rfl) rfl) kq) ?_
          refine pn (sP (φ := bl (fi && (!(ix (hollow s) ((ix ((ix s.states ((ix ord i).toNat)).next) a).toNat))))) rfl rfl rfl T.one4 rfl (nl (eb ?_)))
          have hN0 : (fi && (!(ix (hollow s) ((ix ((ix s.states ((ix ord i).toNat)).next) a).toNat)))) = ((listOf 63 (ix (ix s.states (ix ord i).toNat).accept k1)).take (m0 + 1)).all (fun a => !ix (hollow s) (ix (ix s.states (ix ord i).toNat).next a.toNat).toNat) := by
            rw [fine_snoc hx0, hR0]; simp
          exact rqN (fi && (!(ix (hollow s) ((ix ((ix s.states ((ix ord i).toNat)).next) a).toNat)))) hN0 ⟨⟨rfl, id⟩, ⟨rfl, id⟩, ⟨rfl, id⟩, ⟨rfl, id⟩, ⟨rfl, id⟩, ⟨rfl, id⟩, ⟨rfl, id⟩, ⟨rfl, id⟩, ⟨rfl, id⟩, ⟨rfl, id⟩, trivial⟩
        · intro fi hG0
          have hR0 : fi = ((listOf 63 (ix (ix s.states (ix ord i).toNat).accept k1)).take ((listOf 63 (ix (ix s.states (ix ord i).toNat).accept k1)).length)).all (fun a => !ix (hollow s) (ix (ix s.states (ix ord i).toNat).next a.toNat).toNat) := hG0
          refine eb (th (sq (rg (lP rfl rfl rfl T.one4 (nl (th ?_))))))
          refine cd rfl (fun hc3 => ?_) (fun hc3 => ?_)
          · try simp at hc3
            refine sq (rg (mv (mv (bsE (enc := intE) (xs := [(ix ((ix s.states ((ix ord i).toNat)).accept) k1)]) (css := [[int (ix ((ix s.states ((ix ord i).toNat)).accept) k1)]]) T.mk28 ⟨rfl, rfl, p1 (φ := int (ix ((ix s.states ((ix ord i).toNat)).accept) k1)) rfl, trivial⟩ rfl rfl rfl rfl (ap (key := 8) (zs := [(ix ((ix s.states ((ix ord i).toNat)).accept) k1)]) osl_eq rfl rfl rfl T.mk28 (by unfold maxL at *; simp; omega) (by unfold maxL at *; simp; omega) fun v68 => (ag (nl (th (rg (mv (mv (bi rfl rfl (b_orI (by omega) (by omega) (by omega) (by omega)) (ag (nl (eb (th (rg (bi rfl rfl (b_add (by unfold I64; omega)) (mv (nl ?_))))))))))))))))))))
            have hN0 : (k1 + 1) ≤ ((ix s.states ((ix ord i).toNat)).accept).length := by
              first | omega | simp_all
            have hN1 : (sets ++ [(ix ((ix s.states ((ix ord i).toNat)).accept) k1)]) = ((ix s.states (ix ord i).toNat).accept.take (k1 + 1)).filter (fun t => !falls (ix s.states (ix ord i).toNat) t (hollow s)) ∧ ((cn.toNat ||| ((ix ((ix s.states ((ix ord i).toNat)).accept) k1).toNat) : Nat) : Int) = orAll (sets ++ [(ix ((ix s.states ((ix ord i).toNat)).accept) k1)]) ∧ 0 ≤ ((cn.toNat ||| ((ix ((ix s.states ((ix ord i).toNat)).accept) k1).toNat) : Nat) : Int) ∧ ((cn.toNat ||| ((ix ((ix s.states ((ix ord i).toNat)).accept) k1).toNat) : Nat) : Int) < 256 ∧ (sets ++ [(ix ((ix s.states ((ix ord i).toNat)).accept) k1)]).length ≤ (k1 + 1) := by
              have hfi : falls (ix s.states (ix ord i).toNat) (ix (ix s.states (ix ord i).toNat).accept k1) (hollow s) = false := by
                have h1 : fi = fine (ix s.states (ix ord i).toNat) (ix (ix s.states (ix ord i).toNat).accept k1) (hollow s) := by rw [hR0, List.take_length]; rfl
                rw [fine_eq hox hn8 (ix_mem (by omega)), hc3] at h1; simpa using h1.symm
              refine ⟨?_, ?_, by omega, or_lt256 hI1.2.2.2.1 hac.2, by simp; omega⟩
              · rw [filter_take_succ (by omega), hI1.1]; simp [hfi]
              · rw [orAll_snoc, ← hI1.2.1]
            exact ln (⟨k1 + 1, v68, sets ++ [(ix ((ix s.states ((ix ord i).toNat)).accept) k1)], ((cn.toNat ||| ((ix ((ix s.states ((ix ord i).toNat)).accept) k1).toNat) : Nat) : Int)⟩ : Nat × Value × (List Int) × Int) ⟨hN0, hN1⟩ (by first | omega | (dsimp only; omega)) ⟨id, id, id, id, id, id, id, id, id, id, id, id, trivial⟩ ⟨⟨rfl, id⟩, ⟨rfl, id⟩, ⟨rfl, id⟩, ⟨rfl, id⟩, ⟨rfl, id⟩, ⟨rfl, id⟩, ⟨rfl, id⟩, ⟨rfl, id⟩, trivial⟩
          · try simp at hc3
            refine sk (eb (th (rg (bi rfl rfl (b_add (by unfold I64; omega)) (mv (nl ?_))))))
            have hN0 : (k1 + 1) ≤ ((ix s.states ((ix ord i).toNat)).accept).length := by
              first | omega | simp_all
            have hN1 : sets = ((ix s.states (ix ord i).toNat).accept.take (k1 + 1)).filter (fun t => !falls (ix s.states (ix ord i).toNat) t (hollow s)) ∧ cn = orAll sets ∧ 0 ≤ cn ∧ cn < 256 ∧ sets.length ≤ (k1 + 1) := by
              have hfi : falls (ix s.states (ix ord i).toNat) (ix (ix s.states (ix ord i).toNat).accept k1) (hollow s) = true := by
                have h1 : fi = fine (ix s.states (ix ord i).toNat) (ix (ix s.states (ix ord i).toNat).accept k1) (hollow s) := by rw [hR0, List.take_length]; rfl
                rw [fine_eq hox hn8 (ix_mem (by omega)), hc3] at h1; simpa using h1.symm
              refine ⟨?_, hI1.2.1, hI1.2.2.1, hI1.2.2.2.1, by omega⟩
              rw [filter_take_succ (by omega), hI1.1]; simp [hfi]
            exact ln (⟨k1 + 1, u8, sets, cn⟩ : Nat × Value × (List Int) × Int) ⟨hN0, hN1⟩ (by first | omega | (dsimp only; omega)) ⟨id, id, id, id, id, id, id, id, id, id, id, id, trivial⟩ ⟨⟨rfl, id⟩, ⟨rfl, id⟩, ⟨rfl, id⟩, ⟨rfl, id⟩, ⟨rfl, id⟩, ⟨rfl, id⟩, ⟨rfl, id⟩, ⟨rfl, id⟩, trivial⟩
      · try simp at hc2
        have hnh := bq_solid hs h00 i (ix ord i) (by rw [← hI0.1]; exact ix_mem hc1)
        have hsets : sets = keep s (ix ord i).toNat := by rw [keep_filter hnh, hI1.1, show k1 = (ix s.states (ix ord i).toNat).accept.length by omega, List.take_length]
        have hcn : cn = orAll (keep s (ix ord i).toNat) := by rw [hI1.2.1, hsets]
        refine ex (xt_ (xt_ (xb (th (sq (sq (rg (mv (cal0 (φs := [int cn]) (φ := clo 115 [fp [int cn]]) ⟨rfl, trivial⟩ (prog3.In_ok cn) T.ent95 (nl (th (bk ?_))))))))))))
        have hR1 : ord = visit ord (((listOf 63 cn).take 0).map fun a => ix (ix s.states (ix ord i).toNat).next a.toNat) ∧ met = marks s.states.length ord ∧ okQ s.states.length ord := by
          exact ⟨by simp [visit], hI0.2.1, hoq⟩
        refine rf (κ := (List Bool) × Value × (List Int)) 901 (fun p => [(0, hh), (3, cell b3 [sl 1 blE (hollow s)]), (4, cell b4 [osl 24 v24]), (5, cell b5 [osl 27 p.2.1]), (7, cell (gbk (β0 8)) [sl 1 intE ((ix s.states ((ix ord i).toNat)).accept), sl 1 intE ((ix s.states ((ix ord i).toNat)).next)]), (8, own u8 3 1 intE sets), (24, own v24 4 1 blE p.1), (27, own p.2.1 3 1 intE p.2.2)]) (fun iR p => p.2.2 = visit ord (((listOf 63 cn).take iR).map fun a => ix (ix s.states (ix ord i).toNat).next a.toNat) ∧ p.1 = marks s.states.length p.2.2 ∧ okQ s.states.length p.2.2) (fun c p => False) rfl (InIt cn (by omega) (by omega)) T.ent115 rfl (fun _ => rfl) (fun _ => rfl) ⟨met, u5, ord⟩ hR1 ⟨⟨rfl, id⟩, ⟨rfl, id⟩, ⟨rfl, id⟩, ⟨rfl, id⟩, ⟨rfl, id⟩, ⟨rfl, id⟩, ⟨rfl, id⟩, ⟨rfl, id⟩, trivial⟩ ?_ ?_ (fun k h => h.elim) (fun id k h => h.elim) (fun c k h => h.elim)
        · intro m1 ⟨met2, u52, ord2⟩ x1 hG1 hx1 l R w1 M1 F1 hRd
          have hR1 : ord2 = visit ord (((listOf 63 cn).take m1).map fun a => ix (ix s.states (ix ord i).toNat).next a.toNat) ∧ met2 = marks s.states.length ord2 ∧ okQ s.states.length ord2 := hG1
          show Ct _ _ _ _ _ ((901, obj l (.loop R)) :: [(0, hh), (3, cell b3 [sl 1 blE (hollow s)]), (4, cell b4 [osl 24 v24]), (5, cell b5 [osl 27 u52]), (7, cell (gbk (β0 8)) [sl 1 intE ((ix s.states ((ix ord i).toNat)).accept), sl 1 intE ((ix s.states ((ix ord i).toNat)).next)]), (8, own u8 3 1 intE sets), (24, own v24 4 1 blE met2), (27, own u52 3 1 intE ord2)]) _
          obtain ⟨a, rfl, ha63, hha⟩ := listOf_get hx1
          have hgo := can_go hs hxn (by rw [← hcn]; exact hha)
          have hol2 := hR1.2.2.le
          have hml2 : met2.length = s.states.length := by rw [hR1.2.1]; exact marks_len _ _
          refine rg (ag (nl (aq hRd rfl (bk (sq (rg (fP rfl T.fld69_1 (lP rfl rfl rfl T.one28 (mv (iF rfl rfl T.sl28 (by omega) (by first | exact gN (by omega) | exact gI (by omega) (by omega)) (lF rfl rfl T.one3 (ag (nl (th (sq (rg (lP rfl rfl rfl T.one72 (mv (iO rfl rfl rfl T.sl72 (by omega) (by omega) (lO rfl rfl (by first | exact gN (by omega) | exact gI (by omega) (by omega)) rfl T.one4 (no rfl (nl (th ?_)))))))))))))))))))))))
          refine cd rfl (fun hc4 => ?_) (fun hc4 => ?_)
          · try simp at hc4
            refine sq (rg (lP rfl rfl rfl T.one72 (mv (iO rfl rfl rfl T.sl72 (by omega) (by omega) (sO (φ := bl true) rfl rfl rfl T.one4 (by first | exact gN (by omega) | exact gI (by omega) (by omega)) rfl (y' := true) rfl (nl (th (rg (lP rfl rfl rfl T.one28 (mv (bsE (enc := intE) (xs := [(ix ((ix s.states ((ix ord i).toNat)).next) a)]) (css := [[int (ix ((ix s.states ((ix ord i).toNat)).next) a)]]) T.mk28 ⟨rfl, rfl, p1 (φ := int (ix ((ix s.states ((ix ord i).toNat)).next) a)) rfl, trivial⟩ rfl rfl rfl rfl (ap (key := 27) (zs := [(ix ((ix s.states ((ix ord i).toNat)).next) a)]) osl_eq rfl rfl rfl T.mk28 (by unfold maxL at *; simp; omega) (by unfold maxL at *; simp; omega) fun v92 => (storePO rfl rfl rfl rfl T.one28 rfl (nl (eb ?_)))))))))))))))
            have hN0 : (ord2 ++ [(ix ((ix s.states ((ix ord i).toNat)).next) a)]) = visit ord (((listOf 63 cn).take (m1 + 1)).map fun a => ix (ix s.states (ix ord i).toNat).next a.toNat) ∧ (met2.set ((ix ((ix s.states ((ix ord i).toNat)).next) a).toNat) true) = marks s.states.length (ord2 ++ [(ix ((ix s.states ((ix ord i).toNat)).next) a)]) ∧ okQ s.states.length (ord2 ++ [(ix ((ix s.states ((ix ord i).toNat)).next) a)]) := by
              have hcc : ord2.contains (ix (ix s.states (ix ord i).toNat).next a) = false := by
                rw [hR1.2.1, marks_ix (by omega), Int.toNat_of_nonneg hgo.2.1] at hc4; exact hc4
              refine ⟨?_, ?_, okQ_snoc hR1.2.2 hgo.2.1 hgo.2.2.1 hcc⟩
              · rw [take_at hx1, List.map_append, List.map_cons, List.map_nil, visit_snoc, ← hR1.1, Int.toNat_natCast, if_pos (by simp only [hcc]; simpa using hgo.2.1)]
              · rw [hR1.2.1, marks_set hgo.2.1]
            exact rqN ⟨met2.set ((ix ((ix s.states ((ix ord i).toNat)).next) a).toNat) true, v92, ord2 ++ [(ix ((ix s.states ((ix ord i).toNat)).next) a)]⟩ hN0 ⟨⟨rfl, id⟩, ⟨rfl, id⟩, ⟨rfl, id⟩, ⟨rfl, id⟩, ⟨rfl, id⟩, ⟨rfl, id⟩, ⟨rfl, id⟩, ⟨rfl, id⟩, ⟨rfl, id⟩, trivial⟩
          · try simp at hc4
            refine sk (eb ?_)
            have hN0 : ord2 = visit ord (((listOf 63 cn).take (m1 + 1)).map fun a => ix (ix s.states (ix ord i).toNat).next a.toNat) ∧ met2 = marks s.states.length ord2 ∧ okQ s.states.length ord2 := by
              have hcc : ord2.contains (ix (ix s.states (ix ord i).toNat).next a) = true := by
                rw [hR1.2.1, marks_ix (by omega), Int.toNat_of_nonneg hgo.2.1] at hc4; exact hc4
              refine ⟨?_, hR1.2.1, hR1.2.2⟩
              rw [take_at hx1, List.map_append, List.map_cons, List.map_nil, visit_snoc, ← hR1.1, Int.toNat_natCast, if_neg (by simp only [hcc]; simp)]
            exact rqN ⟨met2, u52, ord2⟩ hN0 ⟨⟨rfl, id⟩, ⟨rfl, id⟩, ⟨rfl, id⟩, ⟨rfl, id⟩, ⟨rfl, id⟩, ⟨rfl, id⟩, ⟨rfl, id⟩, ⟨rfl, id⟩, ⟨rfl, id⟩, trivial⟩
        · intro ⟨met2, u52, ord2⟩ hG1
          have hR1 : ord2 = visit ord (((listOf 63 cn).take ((listOf 63 cn).length)).map fun a => ix (ix s.states (ix ord i).toNat).next a.toNat) ∧ met2 = marks s.states.length ord2 ∧ okQ s.states.length ord2 := hG1
          show At _ _ _ _ [(0, hh), (3, cell b3 [sl 1 blE (hollow s)]), (4, cell b4 [osl 24 v24]), (5, cell b5 [osl 27 u52]), (7, cell (gbk (β0 8)) [sl 1 intE ((ix s.states ((ix ord i).toNat)).accept), sl 1 intE ((ix s.states ((ix ord i).toNat)).next)]), (8, own u8 3 1 intE sets), (24, own v24 4 1 blE met2), (27, own u52 3 1 intE ord2)]
          refine eb (th (sq (rg ?_)))
          have hor := hR1.1
          rw [List.take_length] at hor
          have ho2 : ord2 = bq (solid s) (i + 1) := by rw [bq_succ hs (by rw [← hI0.1]; exact hc1), ← hI0.1, ← hcn, hor]
          have hpx : ord <+: ord2 := by rw [hor]; exact visit_prefix _ _
          have hix : ix ord2 i = ix ord i := ix_prefix hpx hc1
          have hpl := hpx.length_le
          have hla := leftL_at hs h00 (i := i) (by omega) (by rw [← hI0.1]; exact hc1)
          rw [← hI0.1] at hla
          have hol3 := hR1.2.2.le
          refine mv (lP rfl rfl rfl T.one28 (mv (iO rfl rfl rfl T.sl28 (by omega) (by omega) (lO rfl rfl (by first | exact gN (by omega) | exact gI (by omega) (by omega)) rfl T.one3 (mv (fz 8 98 rfl rfl (callV (Hi := [(0, hh)]) rfl (by show FnV _ _ [int (ix ord2 i), ints sets] _ _ _; rw [hix, hsets]; exact hlaw i hh (ix ord i, keep s (ix ord i).toNat) hI0.2.2.1 hla) ⟨⟨rfl, id⟩, trivial⟩ fun N bh => oan 99 rfl fun hres => (no rfl (nl (th ?_))))))))))
          refine cd rfl (fun hc5 => ?_) (fun hc5 => ?_)
          · try simp at hc5
            refine rt (rb (rt_ (rt_ (rb ?_))))
            exact r0 bh.2 rfl (fun _ => andp_any7 (.inr (hres.2 hc5))) ⟨⟨rfl, id⟩, trivial⟩ (.inr rfl)
          · try simp at hc5
            refine sk (eb (th (rg (mv (bi rfl rfl (b_add (by unfold I64; omega)) (ag (nl ?_)))))))
            have hN0 : ord2 = bq (solid s) (i + 1) ∧ met2 = marks s.states.length ord2 ∧ Y (i + 1) bh.2 ∧ (i + 1) ≤ ord2.length := by
              refine ⟨ho2, hR1.2.1, hres.1 (by simpa using hc5), ?_⟩
              omega
            exact ln (⟨i + 1, met2, u52, ord2, bh.2⟩ : Nat × (List Bool) × Value × (List Int) × HA) hN0 (by first | omega | (dsimp only; omega)) ⟨id, id, id, id, id, id, trivial⟩ ⟨⟨rfl, id⟩, ⟨rfl, id⟩, ⟨rfl, id⟩, ⟨rfl, id⟩, ⟨rfl, id⟩, ⟨rfl, id⟩, trivial⟩
    · try simp at hc1
      refine ex (xt_ (xt_ (xb ?_)))
      exact r0 hh rfl (fun _ => andp_any7 (.inl (by have he := bq_end hs (i := i) (by rw [← hI0.1]; exact hc1) (by omega); rw [leftL_len h00, ← he, ← hI0.1, show ord.length = i by omega]; exact hI0.2.2.1))) ⟨⟨rfl, id⟩, trivial⟩ (.inl rfl)
end prog7
end Go.Proofs.YtolpjmllmlahfaaDoor
