/- The walks of the functions and the plain laws. Own texts of this claim, packed: TurnM, starts, prog15, prog16. -/
import Derived.Test.YtolpjmllmlahfaaDoorX07
import Derived.Test.YtolpjmllmlahfaaDoorX10
import Derived.Test.YtolpjmllmlahfaaDoorX04
/- The plain law of another first state: the states 0 and x change places. -/


namespace Go.Proofs.YtolpjmllmlahfaaDoor
open AL Go ref01 ref03 ref04 ref06 MergeM Rungs
set_option linter.all false
namespace TurnM
def swapI (x k : Int) : Int := if k = 0 then x else if k = x then 0 else k
def turnState (x : Int) (y : SState) : SState := ⟨y.accept, y.next.map (swapI x)⟩
def turnedS (s : SSpec) (x : Int) : SSpec := ⟨s.actions, (List.range s.states.length).map fun (i : Nat) => turnState x (ix s.states (swapI x (i : Int)).toNat)⟩
theorem swapI_lt {x k : Int} {n : Nat} (h0 : 0 ≤ x) (hx : x < (n : Int)) (hk0 : 0 ≤ k) (hk : k < (n : Int)) : 0 ≤ swapI x k ∧ swapI x k < (n : Int) := by
  unfold swapI; split
  · omega
  · split <;> omega
theorem swapI_bd {x k : Int} {n : Nat} (h0 : 0 ≤ x) (hx : x < (n : Int)) (hk0 : -1 ≤ k) (hk : k < (n : Int)) : -1 ≤ swapI x k ∧ swapI x k < (n : Int) ∧ (0 ≤ swapI x k ↔ 0 ≤ k) := by
  unfold swapI; split
  · omega
  · split <;> omega
theorem swapI_swap {x k : Int} (h0 : 0 ≤ x) : swapI x (swapI x k) = k := by
  unfold swapI
  repeat' split
  all_goals omega
theorem ix_mapS {α β : Type} [Inhabited α] [Inhabited β] {f : α → β} {l : List α} {k : Nat} (h : k < l.length) : ix (l.map f) k = f (ix l k) := by
  rw [ix_get (by simpa using h), ix_get h, List.getElem_map]
theorem drop_ixS {α : Type} [Inhabited α] {l : List α} {k : Nat} (h : k < l.length) : l.drop k = ix l k :: l.drop (k + 1) := by
  rw [ix_get h]; exact List.drop_eq_getElem_cons h
theorem mapd_ix {α : Type} [Inhabited α] {f : α → α} {l : List α} {k : Nat} (h : k < l.length) : ix ((l.take k).map f ++ l.drop k) k = ix l k := by
  have hl : ((l.take k).map f).length = k := by simp; omega
  rw [drop_ixS h]
  unfold ix
  rw [List.getD_eq_getElem?_getD, List.getElem?_append_right (by omega), hl, Nat.sub_self]; rfl
theorem mapd_set {α : Type} [Inhabited α] {f : α → α} {l : List α} {k : Nat} (h : k < l.length) : ((l.take k).map f ++ l.drop k).set k (f (ix l k)) = (l.take (k + 1)).map f ++ l.drop (k + 1) := by
  have hl : ((l.take k).map f).length = k := by simp; omega
  rw [drop_ixS h, List.set_append_right _ _ (by omega), hl, Nat.sub_self, List.set_cons_zero, take_s h, List.map_append]
  simp only [List.map_cons, List.map_nil, List.append_assoc, List.cons_append, List.nil_append]
theorem mapd_keep {α : Type} [Inhabited α] {f : α → α} {l : List α} {k : Nat} (h : k < l.length) (hf : f (ix l k) = ix l k) : (l.take k).map f ++ l.drop k = (l.take (k + 1)).map f ++ l.drop (k + 1) := by
  rw [drop_ixS h, take_s h, List.map_append]
  simp only [List.map_cons, List.map_nil, List.append_assoc, List.cons_append, List.nil_append, hf]
/-- Two places of a list changed. -/
theorem swap_list {α : Type} [Inhabited α] (l : List α) {x : Nat} (hx : x < l.length) : (l.set 0 (ix l x)).set x (ix l 0) = (List.range l.length).map fun (i : Nat) => ix l (swapI x (i : Int)).toNat := by
  apply List.ext_getElem
  · simp
  · intro i h1 h2
    simp only [List.length_set] at h1
    rw [List.getElem_map, List.getElem_range, List.getElem_set, List.getElem_set]
    unfold swapI
    by_cases e1 : x = i
    · subst e1
      rw [if_pos rfl]
      by_cases e2 : (x : Int) = 0
      · have : x = 0 := by omega
        subst this; rfl
      · rw [if_neg e2, if_pos rfl]; rfl
    · rw [if_neg e1]
      by_cases e2 : 0 = i
      · subst e2; simp
      · rw [if_neg e2, if_neg (by omega), if_neg (by omega), Int.toNat_natCast, ix_get h1]
theorem map_swap {α β : Type} [Inhabited α] [Inhabited β] (f : α → β) (l : List α) (i j : Nat) (hi : i < l.length) (hj : j < l.length) : ((l.set i (ix l j)).set j (ix l i)).map f = ((l.map f).set i (ix (l.map f) j)).set j (ix (l.map f) i) := by
  rw [List.map_set, List.map_set, ix_mapS hi, ix_mapS hj]
/-- What the reference makes: the pairs of what is accepted and of where it leads, changed and turned. -/
theorem swapped_eq {s : SSpec} {x : Nat} (hx : x < s.states.length) {ps : List (List Int × Value)} {nss : List (List Int)} (h1 : ps.map Prod.fst = s.states.map SState.accept) (h2 : nss = s.states.map SState.next) :
    ((((ps.set 0 (ix ps x)).set x (ix ps 0)).map Prod.fst).zip (((nss.set 0 (ix nss x)).set x (ix nss 0)).map (List.map (swapI x)))).map (fun p : List Int × List Int => [ints p.1] ++ [sl 1 intE p.2]) = (turnedS s (x : Int)).states.map stateE := by
  have hl : ps.length = s.states.length := by simpa using congrArg List.length h1
  have hn : nss.length = s.states.length := by rw [h2]; simp
  rw [map_swap Prod.fst ps 0 x (by omega) (by omega), h1, swap_list (s.states.map SState.accept) (by simpa using hx), swap_list nss (by omega)]
  apply List.ext_getElem
  · simp [turnedS, hn]
  · intro i g1 g2
    simp only [turnedS, List.length_map, List.length_range] at g2
    have hr := swapI_lt (x := (x : Int)) (k := (i : Int)) (n := s.states.length) (by omega) (by omega) (by omega) (by omega)
    simp only [List.getElem_map, List.getElem_zip, List.getElem_range, turnedS, turnState, stateE]
    rw [h2, ix_mapS (by omega), ix_mapS (by omega)]
    rfl
theorem turned_len {s : SSpec} {x : Int} : (turnedS s x).states.length = s.states.length := by simp [turnedS]
theorem turned_ix {s : SSpec} {x : Int} {i : Nat} (h : i < s.states.length) : ix (turnedS s x).states i = turnState x (ix s.states (swapI x i).toNat) := ix_map_range h
theorem turnedS_ok {s : SSpec} (hs : okSpec s) {x : Int} (h0 : 0 ≤ x) (hx : x < (s.states.length : Int)) : okSpec (turnedS s x) := by
  refine ⟨hs.acts, hs.n8, by rw [turned_len]; exact hs.few0, by rw [turned_len]; exact hs.few1, fun k hk => ?_⟩
  rw [turned_len] at hk ⊢
  rw [turned_ix hk]
  have hr := swapI_lt (x := x) (k := (k : Int)) h0 hx (by omega) (by omega)
  have h := hs.st (swapI x k).toNat (by omega)
  have hix : ∀ a, a < s.actions.length → ix ((ix s.states (swapI x k).toNat).next.map (swapI x)) a = swapI x (ix (ix s.states (swapI x k).toNat).next a) := fun a ha => ix_mapS (by rw [h.len]; exact ha)
  refine ⟨by show (List.map _ _).length = _; rw [List.length_map]; exact h.len, fun a ha => ?_, h.ac, fun i hi a ha => ?_, h.rise⟩
  · show -1 ≤ ix (List.map _ _) a ∧ ix (List.map _ _) a < _
    rw [hix a ha]
    have := h.nx a ha
    have := swapI_bd h0 hx this.1 this.2
    omega
  · obtain ⟨g1, g2⟩ := h.go i hi a ha
    refine ⟨g1, ?_⟩
    show 0 ≤ ix (List.map _ _) a
    rw [hix a g1]
    have := h.nx a g1
    have := swapI_bd h0 hx this.1 this.2
    omega
end TurnM
end Go.Proofs.YtolpjmllmlahfaaDoor




namespace Go.Proofs.YtolpjmllmlahfaaDoor
open AL Go
set_option maxRecDepth 100000
set_option linter.all false

open ref01 ref03 ref04 ref06 prog2 Part TurnM
def nxE : List Int × Value → List AV := fun p => [ints p.1, eqv (sv p.2)]
instance (x : List Int × Value) : OneAll (nxE x) := inferInstanceAs (OneAll [ints x.1, eqv (sv x.2)])
abbrev NxI (s : SSpec) : Type := { i : Value × List (List Int × Value) // i.2.map Prod.fst = s.states.map SState.accept }
def wordOK (n : Int) (l : List Int) : Bool := decide ((l.length : Int) ≤ 10000) && l.all fun a => decide (0 ≤ a) && decide (a < n)
theorem word_ix {n : Int} {l : List Int} (h : wordOK n l = true) {k : Nat} (hk : k < l.length) : 0 ≤ ix l k ∧ ix l k < n := by
  unfold wordOK at h
  simp only [Bool.and_eq_true, decide_eq_true_eq] at h
  have := List.all_eq_true.1 h.2 (ix l k) (Rungs.ix_memS hk)
  simpa using this
def stepS (s : SSpec) (x a : Int) : Int := if x < 0 then -1 else ix (ix s.states x.toNat).next a.toNat
def goS (s : SSpec) (l : List Int) : Int := l.foldl (stepS s) 0
theorem go_succ {s : SSpec} {l : List Int} {k : Nat} (h : k < l.length) : (l.take (k + 1)).foldl (stepS s) 0 = stepS s ((l.take k).foldl (stepS s) 0) (ix l k) := by
  rw [take_s h, List.foldl_append]; rfl
theorem go_neg {s : SSpec} : ∀ (l : List Int) {x : Int}, x < 0 → l ≠ [] → l.foldl (stepS s) x = -1
  | [], _, _, h => absurd rfl h
  | [a], x, hx, _ => by show stepS s x a = -1; unfold stepS; rw [if_pos hx]
  | a :: b :: l, x, hx, _ => by
    show (b :: l).foldl (stepS s) (stepS s x a) = -1
    exact go_neg (b :: l) (by unfold stepS; rw [if_pos hx]; omega) (by simp)
theorem go_cut {s : SSpec} {l : List Int} {k : Nat} (hk : k < l.length) (h : (l.take k).foldl (stepS s) 0 < 0) : goS s l = -1 := by
  unfold goS
  rw [← List.take_append_drop k l, List.foldl_append]
  exact go_neg _ h (by intro e; have := congrArg List.length e; simp at this; omega)
theorem go_bd {s : SSpec} (hs : okSpec s) {l : List Int} (hl : ∀ k, k < l.length → 0 ≤ ix l k ∧ ix l k < (s.actions.length : Int)) : ∀ k, k ≤ l.length → -1 ≤ (l.take k).foldl (stepS s) 0 ∧ (l.take k).foldl (stepS s) 0 < (s.states.length : Int)
  | 0, _ => by have := hs.few0; simp; omega
  | k + 1, h => by
    rw [go_succ (by omega)]
    have ih := go_bd hs hl k (by omega)
    have hn := hs.few0
    generalize (l.take k).foldl (stepS s) 0 = c at ih
    unfold stepS
    split
    · omega
    · have h2 := (hs.st c.toNat (by omega)).nx (ix l k).toNat (by have := hl k (by omega); omega)
      omega

namespace starts
namespace T
theorem z25 : ZeroIs Tryd.prog 25 [.slice none 0 0, .slice none 0 0] := zeroIs_of (by kernel_rfl)
theorem fld25_0 : FieldAt Tryd.prog 25 0 0 := fieldAt_of (by kernel_rfl)
theorem one22 : IsOne Tryd.prog 22 := isOne_of (by kernel_rfl)
theorem mk22 : MakeT Tryd.prog 22 9 1 16 [.string ⟨#[]⟩] := makeT_of (by kernel_rfl) (by kernel_rfl)
theorem st25 : StructT Tryd.prog 25 [(0, 1), (1, 1)] [.slice none 0 0, .slice none 0 0] := structT_of (by kernel_rfl) (by kernel_rfl)
theorem agg25 : IsAgg Tryd.prog 25 2 := isAgg_of (by kernel_rfl)
theorem fld25_1 : FieldAt Tryd.prog 25 1 1 := fieldAt_of (by kernel_rfl)
theorem one23 : IsOne Tryd.prog 23 := isOne_of (by kernel_rfl)
theorem sl23 : IsSlice Tryd.prog 23 69 2 := isSlice_of (by kernel_rfl)
theorem agg69 : IsAgg Tryd.prog 69 2 := isAgg_of (by kernel_rfl)
theorem z69 : ZeroIs Tryd.prog 69 [.slice none 0 0, .slice none 0 0] := zeroIs_of (by kernel_rfl)
theorem fld69_0 : FieldAt Tryd.prog 69 0 0 := fieldAt_of (by kernel_rfl)
theorem one28 : IsOne Tryd.prog 28 := isOne_of (by kernel_rfl)
theorem mk28 : MakeT Tryd.prog 28 3 1 8 [.int .i64 0] := makeT_of (by kernel_rfl) (by kernel_rfl)
theorem fld69_1 : FieldAt Tryd.prog 69 1 1 := fieldAt_of (by kernel_rfl)
theorem st69 : StructT Tryd.prog 69 [(0, 1), (1, 1)] [.slice none 0 0, .slice none 0 0] := structT_of (by kernel_rfl) (by kernel_rfl)
theorem mk23 : MakeT Tryd.prog 23 69 2 48 [.slice none 0 0, .slice none 0 0] := makeT_of (by kernel_rfl) (by kernel_rfl)
theorem mixed : Tryd.prog.follows .mixedOrders = true := by kernel_rfl
theorem ent14 : Ent Tryd.prog 14 := ent_of (by kernel_rfl)
theorem sl28 : IsSlice Tryd.prog 28 3 1 := isSlice_of (by kernel_rfl)
theorem one3 : IsOne Tryd.prog 3 := isOne_of (by kernel_rfl)
theorem ent45 : Ent Tryd.prog 45 := ent_of (by kernel_rfl)
theorem ent12 : Ent Tryd.prog 12 := ent_of (by kernel_rfl)
theorem ent44 : Ent Tryd.prog 44 := ent_of (by kernel_rfl)
end T

theorem CopyN_ok (s : SSpec) (hs : size s ≤ 1000000) :
    AL.Fn Tryd.prog 14 [spec s] [] (fun _ (i : NxI s) => agg [strs s.actions, osl 230 (sv i.1.1)]) (fun i => [(230, own (sv i.1.1) 69 2 nxE i.1.2), (231, bigown (i.1.2.map sv2) 3 1 intE (s.states.map SState.next) none)]) := by
  refine fnI Tryd.func14 rfl rfl (fun w0 F0 => ?_)
  obtain ⟨hb0, hb1⟩ := size_bd s
  refine fcC (inhS 0 rfl) (fun hS0 => ?_)
  obtain ⟨hsa0, hss0, hse0⟩ := spec_lens hS0
  refine sq (rg (bx (key := 1) (cs := [sl 1 strE s.actions, sl 2 stateE s.states]) rfl fun b1 => (al (key := 2) T.z25 (ex_cons (ex_cons (ex_nil))) fun b2 => (nl (th (sq (rg (fP rfl T.fld25_0 (lP rfl rfl rfl T.one22 (appendF (enc := strE) (ys := s.actions) rfl rfl T.mk22 (by unfold maxL; omega) (bd (css := [(0, _)]) T.st25 (ex_cons (ex_cons (ex_nil))) ⟨rfl, rfl, p1 (φ := sl 1 strE s.actions) rfl, trivial⟩ (al (key := 3) T.z25 (ex_cons (ex_cons (ex_nil))) fun b3 => (sPA (cs' := [sl 1 strE s.actions, eqv (.slice none 0 0)]) rfl rfl rfl T.agg25 rfl rfl (nl (th (sq (sq (rg (fP rfl T.fld25_1 (lP rfl rfl rfl T.one23 (fc (slenI 11 rfl) fun hm11 => (lnF rfl T.sl23 (mv (nl (th (bk ?_))))))))))))))))))))))))))
  refine nwC 230 69 2 nxE (kncC 3 1 (osl 230 (.slice none 0 0)) rfl rfl eq_osl (nbBC 231 0 3 1 intE ?_))
  have hI0_0 : 0 ≤ s.states.length := by
    first | omega | simp
  have hI0_1 : ([] : List (List Int × Value)).map Prod.fst = (s.states.take 0).map SState.accept ∧ ([] : List (List Int)) = (s.states.take 0).map SState.next := by
    exact ⟨rfl, rfl⟩
  refine lp (κ := Nat × Value × (List (List Int × Value)) × (List (List Int))) (fun p => [(2, ptr 2 b2 0), (3, ptr 3 b3 0), (11, sl 2 stateE s.states), (12, int (s.states.length : Int)), (13, int (p.1 : Int))]) (fun p => [(1, cell b1 [sl 1 strE s.actions, sl 2 stateE s.states]), (2, cell b2 [eqv (.slice none 0 0), eqv (.slice none 0 0)]), (3, cell b3 [sl 1 strE s.actions, osl 230 p.2.1]), (230, own p.2.1 69 2 nxE p.2.2.1), (231, bigown (p.2.2.1.map sv2) 3 1 intE p.2.2.2 none)]) (fun p => (p.1 ≤ s.states.length) ∧ (p.2.2.1.map Prod.fst = (s.states.take p.1).map SState.accept ∧ p.2.2.2 = (s.states.take p.1).map SState.next)) (fun p => s.states.length - p.1) ⟨0, (.slice none 0 0), ([] : List (List Int × Value)), ([] : List (List Int))⟩ ⟨hI0_0, hI0_1⟩ ⟨id, id, id, id, id, trivial⟩ ⟨⟨rfl, id⟩, ⟨rfl, id⟩, ⟨rfl, id⟩, ⟨rfl, id⟩, ⟨rfl, id⟩, trivial⟩ ?_
  intro ⟨k, v, ps, nss⟩ hG0
  obtain ⟨hk0, hI0⟩ : (k ≤ s.states.length) ∧ (ps.map Prod.fst = (s.states.take k).map SState.accept ∧ nss = (s.states.take k).map SState.next) := hG0
  show Ct _ _ _ _ [(2, ptr 2 b2 0), (3, ptr 3 b3 0), (11, sl 2 stateE s.states), (12, int (s.states.length : Int)), (13, int (k : Int))] [(1, cell b1 [sl 1 strE s.actions, sl 2 stateE s.states]), (2, cell b2 [eqv (.slice none 0 0), eqv (.slice none 0 0)]), (3, cell b3 [sl 1 strE s.actions, osl 230 v]), (230, own v 69 2 nxE ps), (231, bigown (ps.map sv2) 3 1 intE nss none)] _
  have hlen : ps.length ≤ k := by have := congrArg List.length hI0.1; simp at this; omega
  refine sq (rg (bi rfl rfl b_lss (nl (th (sq ?_)))))
  refine cd rfl (fun hc0 => ?_) (fun hc0 => ?_)
  · try simp at hc0
    have hb2 := hb1 k (by omega)
    refine sk (th (sq (bk (sq (rg (iF rfl rfl T.sl23 (by omega) (by first | exact gN (by omega) | exact gI (by omega) (by omega)) (lFA rfl T.agg69 (Nat.le_of_ble_eq_true rfl) (al (key := 5) T.z69 (ex_cons (ex_cons (ex_nil))) fun b5 => (sPA (cs' := [sl 1 intE ((ix s.states k).accept), sl 1 intE ((ix s.states k).next)]) rfl rfl rfl T.agg69 rfl rfl (nl (th ?_)))))))))))
    refine drH (nh := 10) [0, 1, 0, 4, 12, 0, 32, 124, 252, 508, 1023, 2047, 4095] [(none, []), (none, [3]), (none, []), (none, [5]), (none, []), (none, []), (none, [5]), (some 240, []), (none, []), (none, [])] T.mixed (by kernel_rfl) (by kernel_rfl) ?_
    refine stv (d := 17) (fun β0 => ptr 3 b3 1) [] rfl (fun β β' hb => rfl) (fun β0 _ _ _ _ gq gh kq => fP (gq.1.trans rfl) T.fld25_1 kq) ?_
    refine stv (d := 18) (fun β0 => osl 230 v) [3] rfl (fun β β' hb => rfl) (fun β0 _ _ _ _ gq gh kq => lP (gq.1.trans rfl) (gh.1.trans rfl) rfl T.one23 kq) ?_
    refine stv (d := 19) (fun β0 => ptr 5 b5 0) [] rfl (fun β β' hb => rfl) (fun β0 _ _ _ _ gq gh kq => fP (gq.1.trans rfl) T.fld69_0 kq) ?_
    refine stv (d := 20) (fun β0 => sl 1 intE ((ix s.states k).accept)) [5] rfl (fun β β' hb => rfl) (fun β0 _ _ _ _ gq gh kq => lP (gq.1.trans rfl) (gh.1.trans rfl) rfl T.one28 kq) ?_
    refine stv (d := 21) (fun β0 => sl 1 intE ((ix s.states k).accept)) [] rfl (fun β β' hb => rfl) (fun β0 _ _ _ _ gq gh kq => appendF (enc := intE) (ys := (ix s.states k).accept) rfl (gq.1.trans rfl) T.mk28 (by unfold maxL; omega) kq) ?_
    refine stv (d := 22) (fun β0 => ptr 5 b5 1) [] rfl (fun β β' hb => rfl) (fun β0 _ _ _ _ gq gh kq => fP (gq.1.trans rfl) T.fld69_1 kq) ?_
    refine stv (d := 23) (fun β0 => sl 1 intE ((ix s.states k).next)) [5] rfl (fun β β' hb => rfl) (fun β0 _ _ _ _ gq gh kq => lP (gq.1.trans rfl) (gh.1.trans rfl) rfl T.one28 kq) ?_
    refine stc (d := 24) (e := 3) (n := 1) (enc := intE) (xs := (ix s.states k).next) 240 [] rfl (fun β0 _ _ _ _ gq gh kq => apO 240 (gq.1.trans rfl) rfl T.mk28 (by unfold maxL at *; omega) (by unfold maxL at *; omega) fun v => kq v) ?_
    refine stv (d := 25) (fun β0 => agg [sl 1 intE ((ix s.states k).accept), eqv (sv (sv (β0 7)))]) [] rfl (fun β β' hb => by first | rw [hb 7 rfl] | (dsimp only; rw [hb 7 rfl])) (fun β0 _ _ _ _ gq gh kq => bd (css := [(0, _), (1, _)]) T.st69 (ex_cons (ex_cons (ex_nil))) ⟨rfl, rfl, p1 (φ := sl 1 intE ((ix s.states k).accept)) (by exact (gq.1.trans rfl)), ⟨rfl, rfl, p1 (φ := osl 240 (sv (β0 7))) (by exact (gq.2.1.trans rfl)), trivial⟩⟩ (kd (φ' := agg [ints (ix s.states k).accept, eqv (sv (sv (β0 7)))]) (agg_le (cs := [ints (ix s.states k).accept, osl 240 (sv (β0 7))]) (ds := [ints (ix s.states k).accept, eqv (sv (sv (β0 7)))]) ⟨fun h => h, fun h => osl_sv h, trivial⟩) kq)) ?_
    refine stv (d := 26) (fun β0 => sl 2 nxE [((ix s.states k).accept, (sv (β0 7)))]) [] rfl (fun β β' hb => by first | rw [hb 7 rfl] | (dsimp only; rw [hb 7 rfl])) (fun β0 _ _ _ _ gq gh kq => bsE (enc := nxE) (xs := [((ix s.states k).accept, (sv (β0 7)))]) (css := [[sl 1 intE ((ix s.states k).accept), eqv (sv (sv (β0 7)))]]) T.mk23 ⟨rfl, rfl, pA (cs := [sl 1 intE ((ix s.states k).accept), eqv (sv (sv (β0 7)))]) (by exact (gq.1.trans rfl)), trivial⟩ rfl rfl rfl rfl kq) ?_
    refine pnH fun β0 => (ap (key := 230) (zs := [((ix s.states k).accept, (sv (β0 7)))]) osl_eq rfl rfl rfl T.mk23 (by unfold maxL at *; simp; omega) (by unfold maxL at *; simp; omega) fun v27 => (fP rfl T.fld25_1 (storePO rfl rfl rfl rfl T.one23 rfl (psQ (ps := ps) ((ix s.states k).accept) 231 240 rfl rfl (by decide) (nl (eb (th (rg (bi rfl rfl (b_add (by unfold I64; omega)) (mv (nl ?_)))))))))))
    have hN0 : (k + 1) ≤ s.states.length := by
      first | omega | simp_all
    have hN1 : (ps ++ [((ix s.states k).accept, (sv (β0 7)))]).map Prod.fst = (s.states.take (k + 1)).map SState.accept ∧ (nss ++ [(ix s.states k).next]) = (s.states.take (k + 1)).map SState.next := by
      rw [take_s (by omega), List.map_append, List.map_append, List.map_append, hI0.1, hI0.2]
      exact ⟨rfl, rfl⟩
    exact ln (⟨k + 1, v27, ps ++ [((ix s.states k).accept, (sv (β0 7)))], nss ++ [(ix s.states k).next]⟩ : Nat × Value × (List (List Int × Value)) × (List (List Int))) ⟨hN0, hN1⟩ (by first | omega | (dsimp only; omega)) ⟨id, id, id, id, id, trivial⟩ ⟨⟨rfl, id⟩, ⟨rfl, id⟩, ⟨rfl, id⟩, ⟨rfl, id⟩, ⟨rfl, id⟩, trivial⟩
  · try simp at hc0
    refine ex (xt_ (xt_ (xb (th (sq (rg (fc (svI 230 rfl) fun hsv230 => ?_)))))))
    rw [← hsv230]
    refine lPA rfl rfl T.agg25 rfl (sPA (cs' := [sl 1 strE s.actions, osl 230 (sv v)]) rfl rfl rfl T.agg25 rfl rfl (nl (th (rt ?_))))
    obtain ⟨hp1, hp2⟩ := hI0
    rw [show k = s.states.length by omega, List.take_length] at hp1 hp2
    subst hp2
    exact rE ⟨(v, ps), hp1⟩ [.cell 2 25] rfl [agg [sl 1 strE s.actions, osl 230 (sv v)]] ⟨.agg rfl rfl T.agg25 rfl rfl, trivial⟩ (rfl) ⟨⟨rfl, id⟩, ⟨rfl, id⟩, trivial⟩ (by first | exact .inr rfl | exact .inl rfl)

theorem SwappedN_ok (s : SSpec) (hs : okSpec s) (hz : size s ≤ 1000000) (x : Nat) (hx : x < s.states.length) :
    Fn0 Tryd.prog 45 [spec s, int (x : Int)] (spec (turnedS s (x : Int))) := by
  refine fnI Tryd.func45 rfl rfl (fun w0 F0 => ?_)
  have hf0 := hs.few0; have hf1 := hs.few1; have hn8 := hs.n8
  refine fcC (inhS 0 rfl) (fun hS0 => ?_)
  obtain ⟨hsa0, hss0, hse0⟩ := spec_lens hS0
  refine sq (rg (bx (key := 2) (cs := [sl 1 strE s.actions, sl 2 stateE s.states]) rfl fun b2 => (al (key := 4) T.z25 (ex_cons (ex_cons (ex_nil))) fun b4 => (nl (th (sq (rg (lPA rfl rfl T.agg25 rfl (cl (CopyN_ok s (by omega)) T.ent14 trivial fun N10 i10 => ?_)))))))))
  have hps := i10.2
  have hpl : i10.1.2.length = s.states.length := by simpa using congrArg List.length hps
  refine al (key := 5) T.z25 (ex_cons (ex_cons (ex_nil))) fun b5 => (sPA (cs' := [sl 1 strE s.actions, osl 230 (sv i10.1.1)]) rfl rfl rfl T.agg25 rfl rfl (nl (th (sq ?_))))
  refine drH (nh := 18) [0, 1, 0, 4, 0, 0, 32, 0, 224, 480, 0, 1024, 3072, 7168, 16355, 32739, 65535, 131071] [(none, []), (none, [5]), (none, []), (none, [5]), (none, []), (none, []), (none, [5]), (none, []), (none, [230]), (none, [230]), (none, []), (none, [5]), (none, [230]), (none, [230]), (none, [230]), (some 230, [230]), (none, [230]), (some 230, [230])] T.mixed (by kernel_rfl) (by kernel_rfl) ?_
  refine stv (d := 11) (fun β0 => ptr 5 b5 1) [] rfl (fun β β' hb => rfl) (fun β0 _ _ _ _ gq gh kq => fP (gq.1.trans rfl) T.fld25_1 kq) ?_
  refine stv (d := 12) (fun β0 => osl 230 (sv i10.1.1)) [5] rfl (fun β β' hb => rfl) (fun β0 _ _ _ _ gq gh kq => lP (gq.1.trans rfl) (gh.1.trans rfl) rfl T.one23 kq) ?_
  refine stv (d := 13) (fun β0 => ptr 5 b5 1) [] rfl (fun β β' hb => rfl) (fun β0 _ _ _ _ gq gh kq => fP (gq.1.trans rfl) T.fld25_1 kq) ?_
  refine stv (d := 14) (fun β0 => osl 230 (sv i10.1.1)) [5] rfl (fun β β' hb => rfl) (fun β0 _ _ _ _ gq gh kq => lP (gq.1.trans rfl) (gh.1.trans rfl) rfl T.one23 kq) ?_
  refine stv (d := 15) (fun β0 => int (x : Int)) [] rfl (fun β β' hb => rfl) (fun β0 _ _ _ _ gq gh kq => mv' (gq.1.trans rfl) kq) ?_
  refine stv (d := 16) (fun β0 => ptr 5 b5 1) [] rfl (fun β β' hb => rfl) (fun β0 _ _ _ _ gq gh kq => fP (gq.1.trans rfl) T.fld25_1 kq) ?_
  refine stv (d := 17) (fun β0 => osl 230 (sv i10.1.1)) [5] rfl (fun β β' hb => rfl) (fun β0 _ _ _ _ gq gh kq => lP (gq.1.trans rfl) (gh.1.trans rfl) rfl T.one23 kq) ?_
  refine stv (d := 18) (fun β0 => int (x : Int)) [] rfl (fun β β' hb => rfl) (fun β0 _ _ _ _ gq gh kq => mv' (gq.1.trans rfl) kq) ?_
  refine stv (d := 19) (fun β0 => eptr 230 (sv i10.1.1) 2 x 0) [230] rfl (fun β β' hb => rfl) (fun β0 _ _ _ _ gq gh kq => iO (gq.1.trans rfl) (gh.1.trans rfl) (gq.2.1.trans rfl) T.sl23 (by omega) (by omega) kq) ?_
  refine stv (d := 20) (fun β0 => agg [sl 1 intE ((ix i10.1.2 x).1), eqv (sv (ix i10.1.2 x).2)]) [230] rfl (fun β β' hb => rfl) (fun β0 _ _ _ _ gq gh kq => lOA (gq.1.trans rfl) (gh.1.trans rfl) (by first | exact gN (by omega) | exact gI (by omega) (by omega)) T.agg69 (by decide) kq) ?_
  refine stv (d := 21) (fun β0 => ptr 5 b5 1) [] rfl (fun β β' hb => rfl) (fun β0 _ _ _ _ gq gh kq => fP (gq.1.trans rfl) T.fld25_1 kq) ?_
  refine stv (d := 22) (fun β0 => osl 230 (sv i10.1.1)) [5] rfl (fun β β' hb => rfl) (fun β0 _ _ _ _ gq gh kq => lP (gq.1.trans rfl) (gh.1.trans rfl) rfl T.one23 kq) ?_
  refine stv (d := 23) (fun β0 => eptr 230 (sv i10.1.1) 2 0 0) [230] rfl (fun β β' hb => rfl) (fun β0 _ _ _ _ gq gh kq => iO (gq.1.trans rfl) (gh.1.trans rfl) rfl T.sl23 (by omega) (by omega) kq) ?_
  refine stv (d := 24) (fun β0 => agg [sl 1 intE ((ix i10.1.2 0).1), eqv (sv (ix i10.1.2 0).2)]) [230] rfl (fun β β' hb => rfl) (fun β0 _ _ _ _ gq gh kq => lOA (gq.1.trans rfl) (gh.1.trans rfl) (by first | exact gN (by omega) | exact gI (by omega) (by omega)) T.agg69 (by decide) kq) ?_
  refine stv (d := 25) (fun β0 => eptr 230 (sv i10.1.1) 2 0 0) [230] rfl (fun β β' hb => rfl) (fun β0 _ _ _ _ gq gh kq => iO (gq.1.trans rfl) (gh.1.trans rfl) rfl T.sl23 (by omega) (by omega) kq) ?_
  refine stw 230 (fun β0 => own (sv i10.1.1) 69 2 nxE (i10.1.2.set 0 (ix i10.1.2 x))) [230] rfl (fun β β' hb => rfl) (fun β0 _ _ _ _ gq gh kq => sOA (cs' := [sl 1 intE ((ix i10.1.2 x).1), eqv (sv (ix i10.1.2 x).2)]) (gq.1.trans rfl) (gh.1.trans rfl) (gq.2.1.trans rfl) T.agg69 rfl (gN (by (try simp); omega)) rfl (y' := (ix i10.1.2 x)) rfl kq) ?_
  refine stv (d := 26) (fun β0 => eptr 230 (sv i10.1.1) 2 x 0) [230] rfl (fun β β' hb => rfl) (fun β0 _ _ _ _ gq gh kq => iO (gq.1.trans rfl) (gh.1.trans rfl) (gq.2.1.trans rfl) T.sl23 (by omega) (by simp; omega) kq) ?_
  refine stw 230 (fun β0 => own (sv i10.1.1) 69 2 nxE ((i10.1.2.set 0 (ix i10.1.2 x)).set x (ix i10.1.2 0))) [230] rfl (fun β β' hb => rfl) (fun β0 _ _ _ _ gq gh kq => sOA (cs' := [sl 1 intE ((ix i10.1.2 0).1), eqv (sv (ix i10.1.2 0).2)]) (gq.1.trans rfl) (gh.1.trans rfl) (gq.2.1.trans rfl) T.agg69 rfl (gN (by (try simp); omega)) rfl (y' := (ix i10.1.2 0)) rfl kq) ?_
  refine pnH fun β0 => (nl (th (sq (sq (rg (swQ 231 0 x rfl (by omega) (by omega) (by simp; omega) (fP rfl T.fld25_1 (lP rfl rfl rfl T.one23 (lnO rfl rfl T.sl23 (mv (nl (th (bk ?_)))))))))))))
  have hI0_0 : 0 ≤ s.states.length := by
    first | omega | simp
  have hI0_1 : (((s.states.map SState.next).set 0 (ix (s.states.map SState.next) x)).set x (ix (s.states.map SState.next) 0)) = ((((s.states.map SState.next).set 0 (ix (s.states.map SState.next) x)).set x (ix (s.states.map SState.next) 0)).take 0).map (List.map (swapI (x : Int))) ++ (((s.states.map SState.next).set 0 (ix (s.states.map SState.next) x)).set x (ix (s.states.map SState.next) 0)).drop 0 := by
    rfl
  refine lp (κ := Nat × (List (List Int))) (fun p => [(1, int (x : Int)), (4, ptr 4 b4 0), (5, ptr 5 b5 0), (29, int (((i10.1.2.set 0 (ix i10.1.2 x)).set x (ix i10.1.2 0)).length : Int)), (30, int (p.1 : Int))]) (fun p => [(2, cell b2 [sl 1 strE s.actions, sl 2 stateE s.states]), (4, cell b4 [eqv (.slice none 0 0), eqv (.slice none 0 0)]), (5, cell b5 [sl 1 strE s.actions, osl 230 (sv i10.1.1)]), (230, own (sv i10.1.1) 69 2 nxE ((i10.1.2.set 0 (ix i10.1.2 x)).set x (ix i10.1.2 0))), (231, bigown (((i10.1.2.set 0 (ix i10.1.2 x)).set x (ix i10.1.2 0)).map sv2) 3 1 intE p.2 none)]) (fun p => (p.1 ≤ s.states.length) ∧ (p.2 = ((((s.states.map SState.next).set 0 (ix (s.states.map SState.next) x)).set x (ix (s.states.map SState.next) 0)).take p.1).map (List.map (swapI (x : Int))) ++ (((s.states.map SState.next).set 0 (ix (s.states.map SState.next) x)).set x (ix (s.states.map SState.next) 0)).drop p.1)) (fun p => s.states.length - p.1) ⟨0, ((s.states.map SState.next).set 0 (ix (s.states.map SState.next) x)).set x (ix (s.states.map SState.next) 0)⟩ ⟨hI0_0, hI0_1⟩ ⟨id, id, id, id, id, trivial⟩ ⟨⟨rfl, id⟩, ⟨rfl, id⟩, ⟨rfl, id⟩, ⟨rfl, id⟩, ⟨rfl, id⟩, trivial⟩ ?_
  intro ⟨k, ns⟩ hG0
  obtain ⟨hk0, hI0⟩ : (k ≤ s.states.length) ∧ (ns = ((((s.states.map SState.next).set 0 (ix (s.states.map SState.next) x)).set x (ix (s.states.map SState.next) 0)).take k).map (List.map (swapI (x : Int))) ++ (((s.states.map SState.next).set 0 (ix (s.states.map SState.next) x)).set x (ix (s.states.map SState.next) 0)).drop k) := hG0
  show Ct _ _ _ _ [(1, int (x : Int)), (4, ptr 4 b4 0), (5, ptr 5 b5 0), (29, int (((i10.1.2.set 0 (ix i10.1.2 x)).set x (ix i10.1.2 0)).length : Int)), (30, int (k : Int))] [(2, cell b2 [sl 1 strE s.actions, sl 2 stateE s.states]), (4, cell b4 [eqv (.slice none 0 0), eqv (.slice none 0 0)]), (5, cell b5 [sl 1 strE s.actions, osl 230 (sv i10.1.1)]), (230, own (sv i10.1.1) 69 2 nxE ((i10.1.2.set 0 (ix i10.1.2 x)).set x (ix i10.1.2 0))), (231, bigown (((i10.1.2.set 0 (ix i10.1.2 x)).set x (ix i10.1.2 0)).map sv2) 3 1 intE ns none)] _
  have hnsl : ns.length = s.states.length := by rw [hI0]; simp; omega
  have hPl : ((i10.1.2.set 0 (ix i10.1.2 x)).set x (ix i10.1.2 0)).length = s.states.length := by simp; omega
  refine sq (rg (bi rfl rfl b_lss (nl (th (sq ?_)))))
  refine cd rfl (fun hc0 => ?_) (fun hc0 => ?_)
  · try simp at hc0
    refine sk (th (sq (bk (sq (rg (mv (ag (nl (th (sq (rg (fP rfl T.fld25_1 (lP rfl rfl rfl T.one23 (mv (iO rfl rfl rfl T.sl23 (by omega) (by omega) (fO rfl T.fld69_1 (lO rfl rfl (by first | exact gN (by omega) | exact gI (by omega) (by omega)) rfl T.one28 (tkQ 231 381 k rfl rfl (by decide) (by simp; omega) (gK (by omega)) (kn 38 (osl 381 (sv (ix ((i10.1.2.set 0 (ix i10.1.2 x)).set x (ix i10.1.2 0)) k).2)) rfl eq_osl ?_)))))))))))))))))))
    refine fc (olen 381 rfl) (fun hol => ?_)
    have hol2 : (ix ns k).length ≤ 140737488355328 := hol
    refine lnO rfl rfl T.sl28 (mv (nl (th (bk ?_))))
    have hI1_0 : 0 ≤ (ix ns k).length := by
      first | omega | simp
    have hI1_1 : (ix ns k) = ((ix ns k).take 0).map (swapI (x : Int)) ++ (ix ns k).drop 0 := by
      simp
    refine lp (κ := Nat × (List Int)) (fun p => [(1, int (x : Int)), (4, ptr 4 b4 0), (5, ptr 5 b5 0), (6, int (k : Int)), (29, int (((i10.1.2.set 0 (ix i10.1.2 x)).set x (ix i10.1.2 0)).length : Int)), (30, int (k : Int)), (38, osl 381 (sv (ix ((i10.1.2.set 0 (ix i10.1.2 x)).set x (ix i10.1.2 0)) k).2)), (39, int ((ix ns k).length : Int)), (40, int (p.1 : Int))]) (fun p => [(2, cell b2 [sl 1 strE s.actions, sl 2 stateE s.states]), (4, cell b4 [eqv (.slice none 0 0), eqv (.slice none 0 0)]), (5, cell b5 [sl 1 strE s.actions, osl 230 (sv i10.1.1)]), (230, own (sv i10.1.1) 69 2 nxE ((i10.1.2.set 0 (ix i10.1.2 x)).set x (ix i10.1.2 0))), (231, bigown (((i10.1.2.set 0 (ix i10.1.2 x)).set x (ix i10.1.2 0)).map sv2) 3 1 intE ns (some k)), (381, own (sv (ix ((i10.1.2.set 0 (ix i10.1.2 x)).set x (ix i10.1.2 0)) k).2) 3 1 intE p.2)]) (fun p => (p.1 ≤ (ix ns k).length) ∧ (p.2 = ((ix ns k).take p.1).map (swapI (x : Int)) ++ (ix ns k).drop p.1)) (fun p => (ix ns k).length - p.1) ⟨0, ix ns k⟩ ⟨hI1_0, hI1_1⟩ ⟨id, id, id, id, id, id, id, id, id, trivial⟩ ⟨⟨rfl, id⟩, ⟨rfl, id⟩, ⟨rfl, id⟩, ⟨rfl, id⟩, ⟨rfl, id⟩, ⟨rfl, id⟩, trivial⟩ ?_
    intro ⟨k1, nx⟩ hG1
    obtain ⟨hk1, hI1⟩ : (k1 ≤ (ix ns k).length) ∧ (nx = ((ix ns k).take k1).map (swapI (x : Int)) ++ (ix ns k).drop k1) := hG1
    show Ct _ _ _ _ [(1, int (x : Int)), (4, ptr 4 b4 0), (5, ptr 5 b5 0), (6, int (k : Int)), (29, int (((i10.1.2.set 0 (ix i10.1.2 x)).set x (ix i10.1.2 0)).length : Int)), (30, int (k : Int)), (38, osl 381 (sv (ix ((i10.1.2.set 0 (ix i10.1.2 x)).set x (ix i10.1.2 0)) k).2)), (39, int ((ix ns k).length : Int)), (40, int (k1 : Int))] [(2, cell b2 [sl 1 strE s.actions, sl 2 stateE s.states]), (4, cell b4 [eqv (.slice none 0 0), eqv (.slice none 0 0)]), (5, cell b5 [sl 1 strE s.actions, osl 230 (sv i10.1.1)]), (230, own (sv i10.1.1) 69 2 nxE ((i10.1.2.set 0 (ix i10.1.2 x)).set x (ix i10.1.2 0))), (231, bigown (((i10.1.2.set 0 (ix i10.1.2 x)).set x (ix i10.1.2 0)).map sv2) 3 1 intE ns (some k)), (381, own (sv (ix ((i10.1.2.set 0 (ix i10.1.2 x)).set x (ix i10.1.2 0)) k).2) 3 1 intE nx)] _
    have hnxl : nx.length = (ix ns k).length := by rw [hI1]; simp; omega
    refine sq (rg (bi rfl rfl b_lss (nl (th (sq ?_)))))
    refine cd rfl (fun hc1 => ?_) (fun hc1 => ?_)
    · try simp at hc1
      have hv : ix nx k1 = ix (ix ns k) k1 := by rw [hI1]; exact mapd_ix (by omega)
      refine sk (th (sq (bk (sq (rg (mv (iO rfl rfl rfl T.sl28 (by omega) (by omega) (lO rfl rfl (by first | exact gN (by omega) | exact gI (by omega) (by omega)) rfl T.one3 (ag (ag (nl (th (sq (rg (mv (bi rfl rfl b_eql (nl (th ?_))))))))))))))))))
      refine cd rfl (fun hc2 => ?_) (fun hc2 => ?_)
      · try simp at hc2
        refine rg (fP rfl T.fld25_1 (lP rfl rfl rfl T.one23 (mv (iO rfl rfl rfl T.sl23 (by omega) (by omega) (fO rfl T.fld69_1 (lO rfl rfl (by first | exact gN (by omega) | exact gI (by omega) (by omega)) rfl T.one28 (kn 52 (osl 381 (sv (ix ((i10.1.2.set 0 (ix i10.1.2 x)).set x (ix i10.1.2 0)) k).2)) rfl (eq_osl) (mv (mv (iO rfl rfl rfl T.sl28 (by omega) (by omega) (sO (φ := int (x : Int)) rfl rfl rfl T.one3 (by first | exact gN (by omega) | exact gI (by omega) (by omega)) rfl (y' := (x : Int)) rfl (nl (eb (th (rg (bi rfl rfl (b_add (by unfold I64; omega)) (mv (nl ?_))))))))))))))))))
        have hN0 : (k1 + 1) ≤ (ix ns k).length := by
          first | omega | simp_all
        have hN1 : (nx.set k1 (x : Int)) = ((ix ns k).take (k1 + 1)).map (swapI (x : Int)) ++ (ix ns k).drop (k1 + 1) := by
          rw [hI1, ← mapd_set (by omega)]
          congr 1
          unfold swapI
          rw [hv] at hc2
          rw [if_pos hc2]
        exact ln (⟨k1 + 1, nx.set k1 (x : Int)⟩ : Nat × (List Int)) ⟨hN0, hN1⟩ (by first | omega | (dsimp only; omega)) ⟨id, id, id, id, id, id, id, id, id, trivial⟩ ⟨⟨rfl, id⟩, ⟨rfl, id⟩, ⟨rfl, id⟩, ⟨rfl, id⟩, ⟨rfl, id⟩, ⟨rfl, id⟩, trivial⟩
      · try simp at hc2
        refine sq (rg (mv (mv (bi rfl rfl b_eql (nl (th ?_))))))
        refine cd rfl (fun hc3 => ?_) (fun hc3 => ?_)
        · try simp at hc3
          refine rg (fP rfl T.fld25_1 (lP rfl rfl rfl T.one23 (mv (iO rfl rfl rfl T.sl23 (by omega) (by omega) (fO rfl T.fld69_1 (lO rfl rfl (by first | exact gN (by omega) | exact gI (by omega) (by omega)) rfl T.one28 (kn 64 (osl 381 (sv (ix ((i10.1.2.set 0 (ix i10.1.2 x)).set x (ix i10.1.2 0)) k).2)) rfl (eq_osl) (mv (iO rfl rfl rfl T.sl28 (by omega) (by omega) (sO (φ := int 0) rfl rfl rfl T.one3 (by first | exact gN (by omega) | exact gI (by omega) (by omega)) rfl (y' := 0) rfl (nl (eb (th (rg (bi rfl rfl (b_add (by unfold I64; omega)) (mv (nl ?_)))))))))))))))))
          have hN0 : (k1 + 1) ≤ (ix ns k).length := by
            first | omega | simp_all
          have hN1 : (nx.set k1 0) = ((ix ns k).take (k1 + 1)).map (swapI (x : Int)) ++ (ix ns k).drop (k1 + 1) := by
            rw [hI1, ← mapd_set (by omega)]
            congr 1
            unfold swapI
            rw [hv] at hc2 hc3
            rw [if_neg hc2, if_pos hc3]
          exact ln (⟨k1 + 1, nx.set k1 0⟩ : Nat × (List Int)) ⟨hN0, hN1⟩ (by first | omega | (dsimp only; omega)) ⟨id, id, id, id, id, id, id, id, id, trivial⟩ ⟨⟨rfl, id⟩, ⟨rfl, id⟩, ⟨rfl, id⟩, ⟨rfl, id⟩, ⟨rfl, id⟩, ⟨rfl, id⟩, trivial⟩
        · try simp at hc3
          refine sk (eb (th (rg (bi rfl rfl (b_add (by unfold I64; omega)) (mv (nl ?_))))))
          have hN0 : (k1 + 1) ≤ (ix ns k).length := by
            first | omega | simp_all
          have hN1 : nx = ((ix ns k).take (k1 + 1)).map (swapI (x : Int)) ++ (ix ns k).drop (k1 + 1) := by
            rw [hI1]
            exact mapd_keep (by omega) (by unfold swapI; rw [hv] at hc2 hc3; rw [if_neg hc2, if_neg hc3])
          exact ln (⟨k1 + 1, nx⟩ : Nat × (List Int)) ⟨hN0, hN1⟩ (by first | omega | (dsimp only; omega)) ⟨id, id, id, id, id, id, id, id, id, trivial⟩ ⟨⟨rfl, id⟩, ⟨rfl, id⟩, ⟨rfl, id⟩, ⟨rfl, id⟩, ⟨rfl, id⟩, ⟨rfl, id⟩, trivial⟩
    · try simp at hc1
      refine ex (xt_ (xt_ (xb (eb (th (rg (gvQ 231 381 k rfl rfl (by decide) (by simp; omega) (bi rfl rfl (b_add (by unfold I64; omega)) (mv (nl ?_))))))))))
      have hN0 : (k + 1) ≤ s.states.length := by
        first | omega | simp_all
      have hN1 : (ns.set k nx) = ((((s.states.map SState.next).set 0 (ix (s.states.map SState.next) x)).set x (ix (s.states.map SState.next) 0)).take (k + 1)).map (List.map (swapI (x : Int))) ++ (((s.states.map SState.next).set 0 (ix (s.states.map SState.next) x)).set x (ix (s.states.map SState.next) 0)).drop (k + 1) := by
        rw [show k1 = (ix ns k).length by omega, List.take_length, List.drop_length, List.append_nil] at hI1
        rw [hI1]
        have hv : ix ns k = ix (((s.states.map SState.next).set 0 (ix (s.states.map SState.next) x)).set x (ix (s.states.map SState.next) 0)) k := by rw [hI0]; exact mapd_ix (by simp; omega)
        rw [hv, hI0]
        exact mapd_set (by simp; omega)
      exact ln (⟨k + 1, ns.set k nx⟩ : Nat × (List (List Int))) ⟨hN0, hN1⟩ (by first | omega | (dsimp only; omega)) ⟨id, id, id, id, id, trivial⟩ ⟨⟨rfl, id⟩, ⟨rfl, id⟩, ⟨rfl, id⟩, ⟨rfl, id⟩, ⟨rfl, id⟩, trivial⟩
  · try simp at hc0
    refine ex (xt_ (xt_ (xb (th (sq (rg (fzQ (pre := (fun a => [ints a])) 231 230 rfl rfl (by decide) (ownEq (enc' := stateE) (ys := (turnedS s (x : Int)).states) 230 rfl (by rw [hI0, List.take_of_length_le (by simp; omega), List.drop_of_length_le (by simp; omega), List.append_nil]; exact swapped_eq hx hps rfl) (fzc 5 230 1 rfl rfl rfl rfl (lPA rfl rfl T.agg25 rfl (sPA (cs' := [sl 1 strE s.actions, sl 2 stateE ((turnedS s (x : Int)).states)]) rfl rfl rfl T.agg25 rfl rfl (nl (th (rt ?_))))))))))))))
    have hr0 : s.actions = ((turnedS s (x : Int)).actions) := by
      rfl
    have hall : ∀ x0, s.actions = x0 → resAV [agg [sl 1 strE s.actions, sl 2 stateE ((turnedS s (x : Int)).states)]] = resAV [agg [sl 1 strE x0, sl 2 stateE ((turnedS s (x : Int)).states)]] := by rintro _ rfl; rfl
    exact rE () [.cell 4 25] rfl [agg [sl 1 strE s.actions, sl 2 stateE ((turnedS s (x : Int)).states)]] ⟨.agg rfl rfl T.agg25 rfl rfl, trivial⟩ (hall _ hr0) trivial (by first | exact .inr rfl | exact .inl rfl)

theorem Swapped_ok (s : SSpec) (hs : okSpec s) (x : Int) (h0 : 0 ≤ x) (hx : x < (s.states.length : Int)) (hz : size s ≤ 1000000) : Fn0 Tryd.prog 45 [spec s, int x] (spec (turnedS s x)) := by
  obtain ⟨n, rfl⟩ := Int.eq_ofNat_of_zero_le h0
  exact SwappedN_ok s hs hz n (by omega)

theorem From_ok (s : SSpec) (hs : okSpec s) (x : Int) (h0 : 0 ≤ x) (hx : x < (s.states.length : Int)) (hz : size s ≤ 1000000) :
    Fn0 Tryd.prog 21 [spec s, int x] (spec (leastR (turnedS s x)).1) := by
  refine fnI Tryd.func21 rfl rfl (fun w0 F0 => ?_)
  have hto := turnedS_ok hs h0 hx
  refine fcC (inhS 0 rfl) (fun hS0 => ?_)
  obtain ⟨hsa0, hss0, hse0⟩ := spec_lens hS0
  refine sq (rg (bx (key := 2) (cs := [sl 1 strE s.actions, sl 2 stateE s.states]) rfl fun b2 => (al (key := 4) T.z25 (ex_cons (ex_cons (ex_nil))) fun b4 => (nl (th (sq (rg (lPA rfl rfl T.agg25 rfl (mv (cal0 (φs := [agg [sl 1 strE s.actions, sl 2 stateE s.states], int x]) (φ := agg [sl 1 strE ((turnedS s x).actions), sl 2 stateE ((turnedS s x).states)]) ⟨rfl, rfl, trivial⟩ (starts.Swapped_ok s (by assumption) x (by omega) (by omega) (by omega)) T.ent45 (cal0 (φs := [agg [sl 1 strE ((turnedS s x).actions), sl 2 stateE ((turnedS s x).states)]]) (φ := tup [agg [sl 1 strE (((leastR (turnedS s x)).1).actions), sl 2 stateE (((leastR (turnedS s x)).1).states)], sl 1 intE ((leastR (turnedS s x)).2)]) ⟨rfl, trivial⟩ (ref06.Least_ok (turnedS s x) (by assumption)) T.ent12 (mv (xt rfl rfl (xt rfl rfl (al (key := 5) T.z25 (ex_cons (ex_cons (ex_nil))) fun b5 => (sPA (cs' := [sl 1 strE (((leastR (turnedS s x)).1).actions), sl 2 stateE (((leastR (turnedS s x)).1).states)]) rfl rfl rfl T.agg25 rfl rfl (ag (nl (th (sq (rg (lPA rfl rfl T.agg25 rfl (sPA (cs' := [sl 1 strE (((leastR (turnedS s x)).1).actions), sl 2 stateE (((leastR (turnedS s x)).1).states)]) rfl rfl rfl T.agg25 rfl rfl (nl (th (rt ?_))))))))))))))))))))))))))
  exact rE () [.cell 4 25] rfl [agg [sl 1 strE (((leastR (turnedS s x)).1).actions), sl 2 stateE (((leastR (turnedS s x)).1).states)]] ⟨.agg rfl rfl T.agg25 rfl rfl, trivial⟩ (rfl) trivial (by first | exact .inr rfl | exact .inl rfl)

theorem Go_ok (s : SSpec) (hs : okSpec s) (l : List Int) (hl : ∀ k, k < l.length → 0 ≤ ix l k ∧ ix l k < (s.actions.length : Int)) :
    Fn0 Tryd.prog 22 [spec s, int 0, ints l] (int (goS s l)) := by
  refine fnI Tryd.func22 rfl rfl (fun w0 F0 => ?_)
  have hf0 := hs.few0
  refine fcC (inhS 0 rfl) (fun hS0 => ?_)
  obtain ⟨hsa0, hss0, hse0⟩ := spec_lens hS0
  refine fcC (slenI 2 rfl) (fun hm2 => ?_)
  refine sq (rg (bx (key := 3) (cs := [sl 1 strE s.actions, sl 2 stateE s.states]) rfl fun b3 => (ag (nl (th (sq (sq (rg (mv (lnF rfl T.sl28 (mv (nl (th (bk ?_))))))))))))))
  have hI0_0 : 0 ≤ l.length := by
    first | omega | simp
  have hI0_1 : (0 : Int) = (l.take 0).foldl (stepS s) 0 := by
    rfl
  refine lp (κ := Nat × Int) (fun p => [(1, int p.2), (3, ptr 3 b3 0), (9, sl 1 intE l), (10, int (l.length : Int)), (11, int (p.1 : Int))]) (fun p => [(3, cell b3 [sl 1 strE s.actions, sl 2 stateE s.states])]) (fun p => (p.1 ≤ l.length) ∧ (p.2 = (l.take p.1).foldl (stepS s) 0)) (fun p => l.length - p.1) ⟨0, (0 : Int)⟩ ⟨hI0_0, hI0_1⟩ ⟨id, id, id, id, id, trivial⟩ ⟨⟨rfl, id⟩, trivial⟩ ?_
  intro ⟨k, cur⟩ hG0
  obtain ⟨hk0, hI0⟩ : (k ≤ l.length) ∧ (cur = (l.take k).foldl (stepS s) 0) := hG0
  show Ct _ _ _ _ [(1, int cur), (3, ptr 3 b3 0), (9, sl 1 intE l), (10, int (l.length : Int)), (11, int (k : Int))] [(3, cell b3 [sl 1 strE s.actions, sl 2 stateE s.states])] _
  have hbd := go_bd hs hl k (by omega)
  rw [← hI0] at hbd
  refine sq (rg (bi rfl rfl b_lss (nl (th (sq ?_)))))
  refine cd rfl (fun hc0 => ?_) (fun hc0 => ?_)
  · try simp at hc0
    have hl0 := hl k (by omega)
    refine sk (th (sq (bk (sq (rg (iF rfl rfl T.sl28 (by omega) (by first | exact gN (by omega) | exact gI (by omega) (by omega)) (lF rfl rfl T.one3 (ag (nl (th (sq (sq (rg (mv (bi rfl rfl b_lss (nl (th ?_)))))))))))))))))
    refine cd rfl (fun hc1 => ?_) (fun hc1 => ?_)
    · try simp at hc1
      refine sq (rg (ag (nl (th (rt (rt_ (rb (rt_ (rt_ (rb (rt_ ?_)))))))))))
      have hr0 : (-1 : Int) = (goS s l) := by
        rw [go_cut (k := k) (by omega) (by rw [← hI0]; omega)]
      have hall : ∀ x0, (-1) = x0 → resAV [int (-1)] = resAV [int x0] := by rintro _ rfl; rfl
      exact rE () [.tmp 6] rfl [int (-1)] ⟨.tmp rfl, trivial⟩ (hall _ hr0) trivial (by first | exact .inr rfl | exact .inl rfl)
    · try simp at hc1
      have hst := hs.st cur.toNat (by omega)
      have hsl := hst.len
      refine sk (th (rg (fP rfl T.fld25_1 (lP rfl rfl rfl T.one23 (mv (iF rfl rfl T.sl23 (by omega) (by first | exact gN (by omega) | exact gI (by omega) (by omega)) (fF rfl T.fld69_1 (lF rfl rfl T.one28 (mv (iF rfl rfl T.sl28 (by omega) (by first | exact gN (by omega) | exact gI (by omega) (by omega)) (lF rfl rfl T.one3 (ag (nl (eb (th (rg (bi rfl rfl (b_add (by unfold I64; omega)) (mv (nl ?_)))))))))))))))))))
      have hN0 : (k + 1) ≤ l.length := by
        first | omega | simp_all
      have hN1 : (ix ((ix s.states cur.toNat).next) ((ix l k).toNat)) = (l.take (k + 1)).foldl (stepS s) 0 := by
        rw [go_succ (by omega), ← hI0]
        unfold stepS
        rw [if_neg (by omega)]
      exact ln (⟨k + 1, ix ((ix s.states cur.toNat).next) ((ix l k).toNat)⟩ : Nat × Int) ⟨hN0, hN1⟩ (by first | omega | (dsimp only; omega)) ⟨id, id, id, id, id, trivial⟩ ⟨⟨rfl, id⟩, trivial⟩
  · try simp at hc0
    refine ex (xt_ (xt_ (xb (th (sq (rg (mv (ag (nl (th (rt ?_)))))))))))
    have hr0 : (cur : Int) = (goS s l) := by
      unfold goS; rw [hI0, show k = l.length by omega, List.take_length]
    have hall : ∀ x0, cur = x0 → resAV [int cur] = resAV [int x0] := by rintro _ rfl; rfl
    exact rE () [.tmp 6] rfl [int cur] ⟨.tmp rfl, trivial⟩ (hall _ hr0) trivial (by first | exact .inr rfl | exact .inl rfl)

theorem Actions_ok (n : Int) (l : List Int) :
    Fn0 Tryd.prog 44 [int n, ints l] (bl (l.all fun a => decide (0 ≤ a) && decide (a < n))) := by
  refine fnI Tryd.func44 rfl rfl (fun w0 F0 => ?_)
  refine fcC (slenI 1 rfl) (fun hm1 => ?_)
  refine sq (rg (ag (nl (th (sq (sq (rg (mv (lnF rfl T.sl28 (mv (nl (th (bk ?_)))))))))))))
  have hI0_0 : 0 ≤ l.length := by
    first | omega | simp
  have hI0_1 : ((l.take 0).all fun a => decide (0 ≤ a) && decide (a < n)) = true := by
    simp
  refine lp (κ := Nat) (fun p => [(0, int n), (7, sl 1 intE l), (8, int (l.length : Int)), (9, int (p : Int))]) (fun p => []) (fun p => (p ≤ l.length) ∧ (((l.take p).all fun a => decide (0 ≤ a) && decide (a < n)) = true)) (fun p => l.length - p) 0 ⟨hI0_0, hI0_1⟩ ⟨id, id, id, id, trivial⟩ trivial ?_
  intro k hG0
  obtain ⟨hk0, hI0⟩ : (k ≤ l.length) ∧ (((l.take k).all fun a => decide (0 ≤ a) && decide (a < n)) = true) := hG0
  refine sq (rg (bi rfl rfl b_lss (nl (th (sq ?_)))))
  refine cd rfl (fun hc0 => ?_) (fun hc0 => ?_)
  · try simp at hc0
    refine sk (th (sq (bk (sq (rg (iF rfl rfl T.sl28 (by omega) (by first | exact gN (by omega) | exact gI (by omega) (by omega)) (lF rfl rfl T.one3 (ag (nl (th (sq (rg (mv (bi rfl rfl b_lss (mv ?_)))))))))))))))
    apply gOr (t := 15) (pd := 19) rfl
    rotate_left
    · intro hg0 fin
      have hg0' := hg0
      try simp at hg0'
      exact gy rfl rfl rfl hg0 (mv (gy rfl rfl rfl hg0 (mv (gy rfl rfl rfl hg0 (bi rfl rfl b_geq (pkF rfl hg0 rfl (drp (X := [(18, _), (17, _), (16, _)]) ⟨rfl, rfl, rfl, trivial⟩ (fin))))))))
    · intro hg0 fin
      exact gn rfl rfl rfl hg0 rfl rfl (gn rfl rfl rfl hg0 rfl rfl (gn rfl rfl rfl hg0 rfl rfl (pkT rfl hg0 rfl (drp (X := [(18, _), (17, _), (16, _)]) ⟨rfl, rfl, rfl, trivial⟩ (fin)))))
    refine nl (th ?_)
    refine cd rfl (fun hc1 => ?_) (fun hc1 => ?_)
    · try simp at hc1
      refine sq (rg (ag (nl (th (rt (rb (rt_ (rt_ (rb (rt_ ?_))))))))))
      have hr0 : false = (l.all fun a => decide (0 ≤ a) && decide (a < n)) := by
        rw [all_fail (xs := l) (k := k) (by omega) (by simp; omega)]
      have hall : ∀ x0, false = x0 → resAV [bl false] = resAV [bl x0] := by rintro _ rfl; rfl
      exact rE () [.tmp 4] rfl [bl false] ⟨.tmp rfl, trivial⟩ (hall _ hr0) trivial (by first | exact .inr rfl | exact .inl rfl)
    · try simp at hc1
      refine sk (eb (th (rg (bi rfl rfl (b_add (by unfold I64; omega)) (mv (nl ?_))))))
      have hN0 : (k + 1) ≤ l.length := by
        first | omega | simp_all
      have hN1 : ((l.take (k + 1)).all fun a => decide (0 ≤ a) && decide (a < n)) = true := by
        rw [all_take_succ (by omega), hI0]
        simp
        omega
      exact ln (k + 1) ⟨hN0, hN1⟩ (by first | omega | (dsimp only; omega)) ⟨id, id, id, id, trivial⟩ trivial
  · try simp at hc0
    refine ex (xt_ (xt_ (xb (th (sq (rg (ag (nl (th (rt ?_))))))))))
    have hr0 : true = (l.all fun a => decide (0 ≤ a) && decide (a < n)) := by
      rw [show k = l.length by omega, List.take_length] at hI0
      rw [hI0]
    have hall : ∀ x0, true = x0 → resAV [bl true] = resAV [bl x0] := by rintro _ rfl; rfl
    exact rE () [.tmp 4] rfl [bl true] ⟨.tmp rfl, trivial⟩ (hall _ hr0) trivial (by first | exact .inr rfl | exact .inl rfl)

theorem Word_ok (n : Int) (l : List Int) :
    Fn0 Tryd.prog 20 [int n, ints l] (bl (wordOK n l)) := by
  refine fnI Tryd.func20 rfl rfl (fun w0 F0 => ?_)
  refine fcC (slenI 1 rfl) (fun hm1 => ?_)
  refine sq (rg (ag (nl (th (sq (rg (mv (lnF rfl T.sl28 (bi rfl rfl b_leq (mv ?_))))))))))
  apply gAnd (t := 8) (pd := 12) rfl
  rotate_left
  · intro hg0 fin
    have hg0' := hg0
    try simp at hg0'
    exact gy rfl rfl rfl hg0 (mv (gy rfl rfl rfl hg0 (mv (gy rfl rfl rfl hg0 (cal0 (φs := [int n, sl 1 intE l]) (φ := bl (l.all fun a => decide (0 ≤ a) && decide (a < n))) ⟨rfl, rfl, trivial⟩ (starts.Actions_ok n l) T.ent44 (pkT rfl hg0 rfl (drp (X := [(11, _), (10, _), (9, _)]) ⟨rfl, rfl, rfl, trivial⟩ (fin))))))))
  · intro hg0 fin
    exact gn rfl rfl rfl hg0 rfl rfl (gn rfl rfl rfl hg0 rfl rfl (gn rfl rfl rfl hg0 rfl rfl (pkF rfl hg0 rfl (drp (X := [(11, _), (10, _), (9, _)]) ⟨rfl, rfl, rfl, trivial⟩ (fin)))))
  refine ag (nl (th (rt ?_)))
  have hr0 : ((decide ((l.length : Int) ≤ 10000)) && (l.all fun a => decide (0 ≤ a) && decide (a < n))) = (wordOK n l) := by
    rfl
  have hall : ∀ x0, ((decide ((l.length : Int) ≤ 10000)) && (l.all fun a => decide (0 ≤ a) && decide (a < n))) = x0 → resAV [bl ((decide ((l.length : Int) ≤ 10000)) && (l.all fun a => decide (0 ≤ a) && decide (a < n)))] = resAV [bl x0] := by rintro _ rfl; rfl
  exact rE () [.tmp 4] rfl [bl ((decide ((l.length : Int) ≤ 10000)) && (l.all fun a => decide (0 ≤ a) && decide (a < n)))] ⟨.tmp rfl, trivial⟩ (hall _ hr0) trivial (by first | exact .inr rfl | exact .inl rfl)
end starts
end Go.Proofs.YtolpjmllmlahfaaDoor



namespace Go.Proofs.YtolpjmllmlahfaaDoor
open AL Go
set_option maxRecDepth 100000
set_option linter.all false

open ref01 ref03 ref04 ref06 prog prog2 prog3 prog10 prog11 prog12 prog13 starts Part TurnM Itoa
def intP (p : Int → Bool) : AV := pf Tryd.prog (fun _ : Int => True) (fun x => [int x]) (fun x => bl (p x))
def idxF (p : Int → Bool) (l : List Int) : Int := if l.any p = true then (l.findIdx p : Int) else -1
theorem idx_none {p : Int → Bool} {l : List Int} (h : ∀ k, k < l.length → p (ix l k) = false) : idxF p l = -1 := by
  unfold idxF
  rw [if_neg]
  intro h2
  obtain ⟨x, hx, hp⟩ := List.any_eq_true.1 h2
  obtain ⟨k, hk, rfl⟩ := List.getElem_of_mem hx
  have := h k hk
  rw [ix_get hk, hp] at this
  cases this
theorem idx_some {p : Int → Bool} {l : List Int} {k : Nat} (hk : k < l.length) (hp : p (ix l k) = true) (h : ∀ j, j < k → p (ix l j) = false) : idxF p l = (k : Int) := by
  unfold idxF
  rw [if_pos (List.any_eq_true.2 ⟨ix l k, Rungs.ix_memS hk, hp⟩)]
  congr 1
  refine (List.findIdx_eq hk).2 ⟨by rw [← ix_get hk]; exact hp, fun j hj => ?_⟩
  have := h j hj
  rw [ix_get (by omega)] at this
  simp [this]
theorem idx_any {p : Int → Bool} {l : List Int} : decide (0 ≤ idxF p l) = l.any p := by
  unfold idxF
  split
  · next h => rw [h]; simp
  · next h => simp at h ⊢; exact h
theorem word_any {n : Int} {l : List Int} : (decide ((l.length : Int) ≤ 10000) && !l.any fun a => decide (a < 0) || decide (n ≤ a)) = wordOK n l := by
  unfold wordOK
  congr 1
  rw [List.not_any_eq_all_not]
  congr 1
  funext a
  by_cases h1 : a < 0 <;> by_cases h2 : n ≤ a <;> simp [h1, h2] <;> omega
noncomputable def fromS (s : SSpec) (x : Int) : SSpec := if specOK s = true ∧ 0 ≤ x ∧ x < (s.states.length : Int) then (leastR (turnedS s x)).1 else ⟨[], []⟩
def fromE (s : SSpec) (x : Int) : Int := if specOK s = true then (if 0 ≤ x ∧ x < (s.states.length : Int) then 0 else 1) else 30
noncomputable def resS (s : SSpec) (l : List Int) : SSpec := if specOK s = true ∧ wordOK (s.actions.length : Int) l = true ∧ 0 ≤ goS s l then (leastR (turnedS s (goS s l))).1 else ⟨[], []⟩
def resB (s : SSpec) (l : List Int) : Bool := specOK s && wordOK (s.actions.length : Int) l && decide (0 ≤ goS s l)
def resE (s : SSpec) (l : List Int) : Int := if specOK s = true then (if wordOK (s.actions.length : Int) l = true then 0 else 1) else 30

namespace prog15
namespace T
theorem map164 : MapT Tryd.prog 164 9 3 smE smD := mapT_str (by kernel_rfl) (by kernel_rfl)
theorem zv3 : ∀ w F, ∃ u, (zeroValue 3).run Tryd.prog w = .ok u w ∧ (int 0).p w F u := zeroV_of (v := .int .i64 0) (by kernel_rfl) _ (fun _ _ => eqv_rfl)
theorem ent119 : Ent Tryd.prog 119 := ent_of (by kernel_rfl)
theorem ent92 : Ent Tryd.prog 92 := ent_of (by kernel_rfl)
theorem ent94 : Ent Tryd.prog 94 := ent_of (by kernel_rfl)
theorem ent72 : Ent Tryd.prog 72 := ent_of (by kernel_rfl)
theorem one3 : IsOne Tryd.prog 3 := isOne_of (by kernel_rfl)
theorem z25 : ZeroIs Tryd.prog 25 [.slice none 0 0, .slice none 0 0] := zeroIs_of (by kernel_rfl)
theorem fld25_0 : FieldAt Tryd.prog 25 0 0 := fieldAt_of (by kernel_rfl)
theorem one22 : IsOne Tryd.prog 22 := isOne_of (by kernel_rfl)
theorem st25 : StructT Tryd.prog 25 [(0, 1), (1, 1)] [.slice none 0 0, .slice none 0 0] := structT_of (by kernel_rfl) (by kernel_rfl)
theorem agg25 : IsAgg Tryd.prog 25 2 := isAgg_of (by kernel_rfl)
theorem fld25_1 : FieldAt Tryd.prog 25 1 1 := fieldAt_of (by kernel_rfl)
theorem one23 : IsOne Tryd.prog 23 := isOne_of (by kernel_rfl)
theorem sl23 : IsSlice Tryd.prog 23 69 2 := isSlice_of (by kernel_rfl)
theorem ent70 : Ent Tryd.prog 70 := ent_of (by kernel_rfl)
theorem agg69 : IsAgg Tryd.prog 69 2 := isAgg_of (by kernel_rfl)
theorem z69 : ZeroIs Tryd.prog 69 [.slice none 0 0, .slice none 0 0] := zeroIs_of (by kernel_rfl)
theorem mixed : Tryd.prog.follows .mixedOrders = true := by kernel_rfl
theorem fld69_0 : FieldAt Tryd.prog 69 0 0 := fieldAt_of (by kernel_rfl)
theorem one28 : IsOne Tryd.prog 28 := isOne_of (by kernel_rfl)
theorem st69 : StructT Tryd.prog 69 [(0, 1), (1, 1)] [.slice none 0 0, .slice none 0 0] := structT_of (by kernel_rfl) (by kernel_rfl)
theorem fld69_1 : FieldAt Tryd.prog 69 1 1 := fieldAt_of (by kernel_rfl)
theorem sl28 : IsSlice Tryd.prog 28 3 1 := isSlice_of (by kernel_rfl)
theorem mk28 : MakeT Tryd.prog 28 3 1 8 [.int .i64 0] := makeT_of (by kernel_rfl) (by kernel_rfl)
theorem mk23 : MakeT Tryd.prog 23 69 2 48 [.slice none 0 0, .slice none 0 0] := makeT_of (by kernel_rfl) (by kernel_rfl)
theorem sl22 : IsSlice Tryd.prog 22 9 1 := isSlice_of (by kernel_rfl)
theorem ent100 : Ent Tryd.prog 100 := ent_of (by kernel_rfl)
theorem ent71 : Ent Tryd.prog 71 := ent_of (by kernel_rfl)
theorem ent39 : Ent Tryd.prog 39 := ent_of (by kernel_rfl)
theorem ent46 : Ent Tryd.prog 46 := ent_of (by kernel_rfl)
theorem ent41 : Ent Tryd.prog 41 := ent_of (by kernel_rfl)
theorem ent47 : Ent Tryd.prog 47 := ent_of (by kernel_rfl)
theorem ent48 : Ent Tryd.prog 48 := ent_of (by kernel_rfl)
end T

theorem turned1_ok (i x : Int) :
    Fn0 Tryd.prog 70 [int i, fp [int x]] (int (swapI x i)) := by
  refine fnI Tryd.func70 rfl rfl (fun w0 F0 => ?_)
  refine sq (rg (ag (nl (th (sq (sq (rg (mv (nl (th (bk (sq (rg (bi rfl rfl b_eql (ag (nl (th ?_)))))))))))))))))
  refine cd rfl (fun hc0 => ?_) (fun hc0 => ?_)
  · try simp at hc0
    refine sq (rg (lF rfl rfl T.one3 (ag (nl (th (rt (rb (rt_ ?_))))))))
    have hr0 : (x : Int) = (swapI x i) := by
      unfold swapI; rw [if_pos hc0]
    have hall : ∀ x0, x = x0 → resAV [int x] = resAV [int x0] := by rintro _ rfl; rfl
    exact rE () [.tmp 3] rfl [int x] ⟨.tmp rfl, trivial⟩ (hall _ hr0) trivial (by first | exact .inr rfl | exact .inl rfl)
  · try simp at hc0
    refine sq (rg (lF rfl rfl T.one3 (bi rfl rfl b_eql (ag (nl (th ?_))))))
    refine cd rfl (fun hc1 => ?_) (fun hc1 => ?_)
    · try simp at hc1
      refine sq (rg (ag (nl (th (rt (rb (rt_ ?_)))))))
      have hr0 : (0 : Int) = (swapI x i) := by
        unfold swapI; rw [if_neg hc0, if_pos hc1]
      have hall : ∀ x0, 0 = x0 → resAV [int 0] = resAV [int x0] := by rintro _ rfl; rfl
      exact rE () [.tmp 3] rfl [int 0] ⟨.tmp rfl, trivial⟩ (hall _ hr0) trivial (by first | exact .inr rfl | exact .inl rfl)
    · try simp at hc1
      refine sk (eb (th (sq (rg (mv (ag (nl (th (rt ?_)))))))))
      have hr0 : (i : Int) = (swapI x i) := by
        unfold swapI; rw [if_neg hc0, if_neg hc1]
      have hall : ∀ x0, i = x0 → resAV [int i] = resAV [int x0] := by rintro _ rfl; rfl
      exact rE () [.tmp 3] rfl [int i] ⟨.tmp rfl, trivial⟩ (hall _ hr0) trivial (by first | exact .inr rfl | exact .inl rfl)

theorem turned_ok (s : SSpec) (hs : okSpec s) (x : Int) (h0 : 0 ≤ x) (hx : x < (s.states.length : Int)) :
    Fn0 Tryd.prog 46 [spec s, int x] (spec (turnedS s x)) := by
  refine fnI Tryd.func46 rfl rfl (fun w0 F0 => ?_)
  have hf0 := hs.few0; have hf1 := hs.few1; have hn8 := hs.n8
  refine fcC (inhS 0 rfl) (fun hS0 => ?_)
  obtain ⟨hsa0, hss0, hse0⟩ := spec_lens hS0
  refine sq (rg (bx (key := 2) (cs := [sl 1 strE s.actions, sl 2 stateE s.states]) rfl fun b2 => (bx1 (key := 3) (φ := int x) rfl fun b3 => (al (key := 4) T.z25 (ex_cons (ex_cons (ex_nil))) fun b4 => (nl (th (sq (rg (fzv 3 3 rfl rfl (fP rfl T.fld25_0 (lP rfl rfl rfl T.one22 (bd (css := [(0, _)]) T.st25 (ex_cons (ex_cons (ex_nil))) ⟨rfl, rfl, p1 (φ := sl 1 strE s.actions) rfl, trivial⟩ (al (key := 5) T.z25 (ex_cons (ex_cons (ex_nil))) fun b5 => (sPA (cs' := [sl 1 strE s.actions, eqv (.slice none 0 0)]) rfl rfl rfl T.agg25 rfl rfl (nl (th (sq (rg (mkf (ag (nl (th (sq (sq (rg (fP rfl T.fld25_1 (lP rfl rfl rfl T.one23 (fc (slenI 17 rfl) fun hm17 => (lnF rfl T.sl23 (mv (nl (th (bk ?_)))))))))))))))))))))))))))))))))
  refine nwC 50 69 2 stateE (kncC 5 1 (osl 50 (.slice none 0 0)) rfl rfl eq_osl ?_)
  have hI0_0 : 0 ≤ s.states.length := by
    first | omega | simp
  have hI0_1 : ([] : List SState) = (turnedS s x).states.take 0 := by
    rfl
  refine lp (κ := Nat × Value × (List SState)) (fun p => [(2, ptr 2 b2 0), (4, ptr 4 b4 0), (5, ptr 5 b5 0), (6, clo 70 [fp [int x]]), (18, int (s.states.length : Int)), (19, int (p.1 : Int))]) (fun p => [(2, cell b2 [sl 1 strE s.actions, sl 2 stateE s.states]), (4, cell b4 [eqv (.slice none 0 0), eqv (.slice none 0 0)]), (5, cell b5 [sl 1 strE s.actions, osl 50 p.2.1]), (50, own p.2.1 69 2 stateE p.2.2)]) (fun p => (p.1 ≤ s.states.length) ∧ (p.2.2 = (turnedS s x).states.take p.1)) (fun p => s.states.length - p.1) ⟨0, (.slice none 0 0), ([] : List SState)⟩ ⟨hI0_0, hI0_1⟩ ⟨id, id, id, id, id, id, trivial⟩ ⟨⟨rfl, id⟩, ⟨rfl, id⟩, ⟨rfl, id⟩, ⟨rfl, id⟩, trivial⟩ ?_
  intro ⟨k, v, acc⟩ hG0
  obtain ⟨hk0, hI0⟩ : (k ≤ s.states.length) ∧ (acc = (turnedS s x).states.take k) := hG0
  show Ct _ _ _ _ [(2, ptr 2 b2 0), (4, ptr 4 b4 0), (5, ptr 5 b5 0), (6, clo 70 [fp [int x]]), (18, int (s.states.length : Int)), (19, int (k : Int))] [(2, cell b2 [sl 1 strE s.actions, sl 2 stateE s.states]), (4, cell b4 [eqv (.slice none 0 0), eqv (.slice none 0 0)]), (5, cell b5 [sl 1 strE s.actions, osl 50 v]), (50, own v 69 2 stateE acc)] _
  have hlen : acc.length ≤ k := by rw [hI0]; simp; omega
  refine sq (rg (bi rfl rfl b_lss (nl (th (sq ?_)))))
  refine cd rfl (fun hc0 => ?_) (fun hc0 => ?_)
  · try simp at hc0
    have hr := swapI_lt (k := (k : Int)) h0 hx (by omega) (by omega)
    have hst := hs.st (swapI x (k : Int)).toNat (by omega)
    have hsl := hst.len
    refine sk (th (sq (bk (sq (rg (mv (ag (nl (th (sq ?_))))))))))
    refine drH (nh := 9) [0, 1, 0, 0, 12, 31, 63, 0, 255] [(none, []), (none, [2]), (none, []), (none, []), (none, []), (none, []), (none, []), (some 8, []), (some 8, [8])] T.mixed (by kernel_rfl) (by kernel_rfl) ?_
    refine stv (d := 22) (fun β0 => ptr 2 b2 1) [] rfl (fun β β' hb => rfl) (fun β0 _ _ _ _ gq gh kq => fP (gq.1.trans rfl) T.fld25_1 kq) ?_
    refine stv (d := 23) (fun β0 => sl 2 stateE s.states) [2] rfl (fun β β' hb => rfl) (fun β0 _ _ _ _ gq gh kq => lP (gq.1.trans rfl) (gh.1.trans rfl) rfl T.one23 kq) ?_
    refine stv (d := 24) (fun β0 => clo 70 [fp [int x]]) [] rfl (fun β β' hb => rfl) (fun β0 _ _ _ _ gq gh kq => mv' (gq.1.trans rfl) kq) ?_
    refine stv (d := 25) (fun β0 => int (k : Int)) [] rfl (fun β β' hb => rfl) (fun β0 _ _ _ _ gq gh kq => mv' (gq.1.trans rfl) kq) ?_
    refine stv (d := 26) (fun β0 => int (swapI x (k : Int))) [] rfl (fun β β' hb => rfl) (fun β0 _ _ _ _ gq gh kq => calC0 (φs := [int (k : Int)]) (φ := int (swapI x (k : Int))) (gq.1.trans rfl) ⟨(gq.2.1.trans rfl), trivial⟩ (turned1_ok (k : Int) x) T.ent70 kq) ?_
    refine stv (d := 27) (fun β0 => fp [sl 1 intE ((ix s.states ((swapI x (k : Int)).toNat)).accept), sl 1 intE ((ix s.states ((swapI x (k : Int)).toNat)).next)]) [] rfl (fun β β' hb => rfl) (fun β0 _ _ _ _ gq gh kq => iF (gq.1.trans rfl) (gq.2.1.trans rfl) T.sl23 (by omega) (by first | exact gN (by omega) | exact gI (by omega) (by omega)) kq) ?_
    refine stv (d := 28) (fun β0 => agg [sl 1 intE ((ix s.states ((swapI x (k : Int)).toNat)).accept), sl 1 intE ((ix s.states ((swapI x (k : Int)).toNat)).next)]) [] rfl (fun β β' hb => rfl) (fun β0 _ _ _ _ gq gh kq => lFA (gq.1.trans rfl) T.agg69 (Nat.le_of_ble_eq_true rfl) kq) ?_
    refine sta 8 T.z69 (ex_cons (ex_cons (ex_nil))) ?_
    refine stw 8 (fun β0 => cell (gbk (β0 7)) [sl 1 intE ((ix s.states ((swapI x (k : Int)).toNat)).accept), sl 1 intE ((ix s.states ((swapI x (k : Int)).toNat)).next)]) [8] rfl (fun β β' hb => by first | rw [hb 7 rfl] | (dsimp only; rw [hb 7 rfl])) (fun β0 _ _ _ _ gq gh kq => sPA (cs' := [sl 1 intE ((ix s.states ((swapI x (k : Int)).toNat)).accept), sl 1 intE ((ix s.states ((swapI x (k : Int)).toNat)).next)]) (gq.1.trans rfl) (gh.1.trans rfl) (gq.2.1.trans rfl) T.agg69 rfl rfl kq) ?_
    refine pnH fun β0 => (nl (th (sq (rg (fP rfl T.fld69_0 (lP rfl rfl rfl T.one28 (bd (css := [(0, _)]) T.st69 (ex_cons (ex_cons (ex_nil))) ⟨rfl, rfl, p1 (φ := sl 1 intE ((ix s.states ((swapI x (k : Int)).toNat)).accept)) rfl, trivial⟩ (al (key := 9) T.z69 (ex_cons (ex_cons (ex_nil))) fun b9 => (sPA (cs' := [sl 1 intE ((ix s.states ((swapI x (k : Int)).toNat)).accept), eqv (.slice none 0 0)]) rfl rfl rfl T.agg69 rfl rfl (nl (th (sq (sq (rg (fP rfl T.fld69_1 (lP rfl rfl rfl T.one28 (fc (slenI 33 rfl) fun hm33 => (lnF rfl T.sl28 (mv (nl (th (bk ?_))))))))))))))))))))))
    refine nwC 90 3 1 intE (kncC 9 1 (osl 90 (.slice none 0 0)) rfl rfl eq_osl ?_)
    have hI1_0 : 0 ≤ ((ix s.states ((swapI x (k : Int)).toNat)).next).length := by
      first | omega | simp
    have hI1_1 : ([] : List Int) = ((ix s.states (swapI x (k : Int)).toNat).next.take 0).map (swapI x) := by
      rfl
    refine lp (κ := Nat × Value × (List Int)) (fun p => [(2, ptr 2 b2 0), (4, ptr 4 b4 0), (5, ptr 5 b5 0), (6, clo 70 [fp [int x]]), (9, ptr 9 b9 0), (18, int (s.states.length : Int)), (19, int (k : Int)), (33, sl 1 intE ((ix s.states ((swapI x (k : Int)).toNat)).next)), (34, int (((ix s.states ((swapI x (k : Int)).toNat)).next).length : Int)), (35, int (p.1 : Int))]) (fun p => [(2, cell b2 [sl 1 strE s.actions, sl 2 stateE s.states]), (4, cell b4 [eqv (.slice none 0 0), eqv (.slice none 0 0)]), (5, cell b5 [sl 1 strE s.actions, osl 50 v]), (8, cell (gbk (β0 7)) [sl 1 intE ((ix s.states ((swapI x (k : Int)).toNat)).accept), sl 1 intE ((ix s.states ((swapI x (k : Int)).toNat)).next)]), (9, cell b9 [sl 1 intE ((ix s.states (swapI x (k : Int)).toNat).accept), osl 90 p.2.1]), (50, own v 69 2 stateE acc), (90, own p.2.1 3 1 intE p.2.2)]) (fun p => (p.1 ≤ ((ix s.states ((swapI x (k : Int)).toNat)).next).length) ∧ (p.2.2 = ((ix s.states (swapI x (k : Int)).toNat).next.take p.1).map (swapI x))) (fun p => ((ix s.states ((swapI x (k : Int)).toNat)).next).length - p.1) ⟨0, (.slice none 0 0), ([] : List Int)⟩ ⟨hI1_0, hI1_1⟩ ⟨id, id, id, id, id, id, id, id, id, id, trivial⟩ ⟨⟨rfl, id⟩, ⟨rfl, id⟩, ⟨rfl, id⟩, ⟨rfl, id⟩, ⟨rfl, id⟩, ⟨rfl, id⟩, ⟨rfl, id⟩, trivial⟩ ?_
    intro ⟨k1, v9, nx⟩ hG1
    obtain ⟨hk1, hI1⟩ : (k1 ≤ ((ix s.states ((swapI x (k : Int)).toNat)).next).length) ∧ (nx = ((ix s.states (swapI x (k : Int)).toNat).next.take k1).map (swapI x)) := hG1
    show Ct _ _ _ _ [(2, ptr 2 b2 0), (4, ptr 4 b4 0), (5, ptr 5 b5 0), (6, clo 70 [fp [int x]]), (9, ptr 9 b9 0), (18, int (s.states.length : Int)), (19, int (k : Int)), (33, sl 1 intE ((ix s.states ((swapI x (k : Int)).toNat)).next)), (34, int (((ix s.states ((swapI x (k : Int)).toNat)).next).length : Int)), (35, int (k1 : Int))] [(2, cell b2 [sl 1 strE s.actions, sl 2 stateE s.states]), (4, cell b4 [eqv (.slice none 0 0), eqv (.slice none 0 0)]), (5, cell b5 [sl 1 strE s.actions, osl 50 v]), (8, cell (gbk (β0 7)) [sl 1 intE ((ix s.states ((swapI x (k : Int)).toNat)).accept), sl 1 intE ((ix s.states ((swapI x (k : Int)).toNat)).next)]), (9, cell b9 [sl 1 intE ((ix s.states (swapI x (k : Int)).toNat).accept), osl 90 v9]), (50, own v 69 2 stateE acc), (90, own v9 3 1 intE nx)] _
    have hnl : nx.length = k1 := by rw [hI1]; simp; omega
    refine sq (rg (bi rfl rfl b_lss (nl (th (sq ?_)))))
    refine cd rfl (fun hc1 => ?_) (fun hc1 => ?_)
    · try simp at hc1
      refine sk (th (sq (bk (sq (rg (iF rfl rfl T.sl28 (by omega) (by first | exact gN (by omega) | exact gI (by omega) (by omega)) (lF rfl rfl T.one3 (ag (nl (th ?_))))))))))
      refine drH (nh := 6) [0, 1, 0, 0, 12, 28, 63, 127, 255] [(none, []), (none, [9]), (none, []), (none, []), (none, []), (none, [])] T.mixed (by kernel_rfl) (by kernel_rfl) ?_
      refine stv (d := 39) (fun β1 => ptr 9 b9 1) [] rfl (fun β β' hb => rfl) (fun β1 _ _ _ _ gq gh kq => fP (gq.1.trans rfl) T.fld69_1 kq) ?_
      refine stv (d := 40) (fun β1 => osl 90 v9) [9] rfl (fun β β' hb => rfl) (fun β1 _ _ _ _ gq gh kq => lP (gq.1.trans rfl) (gh.1.trans rfl) rfl T.one28 kq) ?_
      refine stv (d := 41) (fun β1 => clo 70 [fp [int x]]) [] rfl (fun β β' hb => rfl) (fun β1 _ _ _ _ gq gh kq => mv' (gq.1.trans rfl) kq) ?_
      refine stv (d := 42) (fun β1 => int (ix ((ix s.states ((swapI x (k : Int)).toNat)).next) k1)) [] rfl (fun β β' hb => rfl) (fun β1 _ _ _ _ gq gh kq => mv' (gq.1.trans rfl) kq) ?_
      refine stv (d := 43) (fun β1 => int (swapI x (ix ((ix s.states ((swapI x (k : Int)).toNat)).next) k1))) [] rfl (fun β β' hb => rfl) (fun β1 _ _ _ _ gq gh kq => calC0 (φs := [int (ix ((ix s.states ((swapI x (k : Int)).toNat)).next) k1)]) (φ := int (swapI x (ix ((ix s.states ((swapI x (k : Int)).toNat)).next) k1))) (gq.1.trans rfl) ⟨(gq.2.1.trans rfl), trivial⟩ (turned1_ok (ix ((ix s.states ((swapI x (k : Int)).toNat)).next) k1) x) T.ent70 kq) ?_
      refine stv (d := 44) (fun β1 => sl 1 intE [(swapI x (ix ((ix s.states ((swapI x (k : Int)).toNat)).next) k1))]) [] rfl (fun β β' hb => rfl) (fun β1 _ _ _ _ gq gh kq => bsE (enc := intE) (xs := [(swapI x (ix ((ix s.states ((swapI x (k : Int)).toNat)).next) k1))]) (css := [[int (swapI x (ix ((ix s.states ((swapI x (k : Int)).toNat)).next) k1))]]) T.mk28 ⟨rfl, rfl, p1 (φ := int (swapI x (ix ((ix s.states ((swapI x (k : Int)).toNat)).next) k1))) (by exact (gq.1.trans rfl)), trivial⟩ rfl rfl rfl rfl kq) ?_
      refine pnH fun β1 => (ap (key := 90) (zs := [(swapI x (ix ((ix s.states ((swapI x (k : Int)).toNat)).next) k1))]) osl_eq rfl rfl rfl T.mk28 (by unfold maxL at *; simp; omega) (by unfold maxL at *; simp; omega) fun v45 => (fP rfl T.fld69_1 (storePO rfl rfl rfl rfl T.one28 rfl (nl (eb (th (rg (bi rfl rfl (b_add (by unfold I64; omega)) (mv (nl ?_))))))))))
      have hN0 : (k1 + 1) ≤ ((ix s.states ((swapI x (k : Int)).toNat)).next).length := by
        first | omega | simp_all
      have hN1 : (nx ++ [(swapI x (ix ((ix s.states ((swapI x (k : Int)).toNat)).next) k1))]) = ((ix s.states (swapI x (k : Int)).toNat).next.take (k1 + 1)).map (swapI x) := by
        rw [hI1, take_s (by omega), List.map_append]; rfl
      exact ln (⟨k1 + 1, v45, nx ++ [(swapI x (ix ((ix s.states ((swapI x (k : Int)).toNat)).next) k1))]⟩ : Nat × Value × (List Int)) ⟨hN0, hN1⟩ (by first | omega | (dsimp only; omega)) ⟨id, id, id, id, id, id, id, id, id, id, trivial⟩ ⟨⟨rfl, id⟩, ⟨rfl, id⟩, ⟨rfl, id⟩, ⟨rfl, id⟩, ⟨rfl, id⟩, ⟨rfl, id⟩, ⟨rfl, id⟩, trivial⟩
    · try simp at hc1
      refine ex (xt_ (xt_ (xb (th (rg (fP rfl T.fld25_1 (lP rfl rfl rfl T.one23 (fzc 9 90 1 rfl rfl rfl rfl (lPA rfl rfl T.agg69 rfl (bsE (enc := stateE) (xs := [(⟨(ix s.states (swapI x (k : Int)).toNat).accept, nx⟩)]) (css := [[sl 1 intE ((ix s.states (swapI x (k : Int)).toNat).accept), sl 1 intE nx]]) T.mk23 ⟨rfl, rfl, pA (cs := [sl 1 intE ((ix s.states (swapI x (k : Int)).toNat).accept), sl 1 intE nx]) rfl, trivial⟩ rfl rfl rfl rfl (ap (key := 50) (zs := [(⟨(ix s.states (swapI x (k : Int)).toNat).accept, nx⟩)]) osl_eq rfl rfl rfl T.mk23 (by unfold maxL at *; simp; omega) (by unfold maxL at *; simp; omega) fun v52 => (fP rfl T.fld25_1 (storePO rfl rfl rfl rfl T.one23 rfl (nl (eb (th (rg (bi rfl rfl (b_add (by unfold I64; omega)) (mv (nl ?_))))))))))))))))))))
      have hN0 : (k + 1) ≤ s.states.length := by
        first | omega | simp_all
      have hN1 : (acc ++ [(⟨(ix s.states (swapI x (k : Int)).toNat).accept, nx⟩)]) = (turnedS s x).states.take (k + 1) := by
        rw [hI0, take_s (by rw [turned_len]; omega), turned_ix (by omega)]
        unfold turnState
        rw [hI1, show k1 = (ix s.states (swapI x (k : Int)).toNat).next.length by omega, List.take_length]
      exact ln (⟨k + 1, v52, acc ++ [(⟨(ix s.states (swapI x (k : Int)).toNat).accept, nx⟩)]⟩ : Nat × Value × (List SState)) ⟨hN0, hN1⟩ (by first | omega | (dsimp only; omega)) ⟨id, id, id, id, id, id, trivial⟩ ⟨⟨rfl, id⟩, ⟨rfl, id⟩, ⟨rfl, id⟩, ⟨rfl, id⟩, trivial⟩
  · try simp at hc0
    refine ex (xt_ (xt_ (xb (th (sq (rg (fzc 5 50 1 rfl rfl rfl rfl (lPA rfl rfl T.agg25 rfl (sPA (cs' := [sl 1 strE s.actions, sl 2 stateE acc]) rfl rfl rfl T.agg25 rfl rfl (nl (th (rt ?_))))))))))))
    have hr0 : s.actions = ((turnedS s x).actions) := by
      rfl
    have hr1 : acc = ((turnedS s x).states) := by
      rw [hI0, List.take_of_length_le (by rw [turned_len]; omega)]
    have hall : ∀ x0 x1, s.actions = x0 → acc = x1 → resAV [agg [sl 1 strE s.actions, sl 2 stateE acc]] = resAV [agg [sl 1 strE x0, sl 2 stateE x1]] := by rintro _ _ rfl rfl; rfl
    exact rE () [.cell 4 25] rfl [agg [sl 1 strE s.actions, sl 2 stateE acc]] ⟨.agg rfl rfl T.agg25 rfl rfl, trivial⟩ (hall _ _ hr0 hr1) trivial (by first | exact .inr rfl | exact .inl rfl)

theorem Word1_ok (a : Int) (al : List ByteArray) :
    Fn0 Tryd.prog 72 [int a, fp [strs al]] (bl (decide (a < 0) || decide ((al.length : Int) ≤ a))) := by
  refine fnI Tryd.func72 rfl rfl (fun w0 F0 => ?_)
  refine sq (rg (ag (nl (th (sq (rg (mv (bi rfl rfl b_lss (mv ?_)))))))))
  apply gOr (t := 6) (pd := 11) rfl
  rotate_left
  · intro hg0 fin
    have hg0' := hg0
    try simp at hg0'
    exact gy rfl rfl rfl hg0 (mv (gy rfl rfl rfl hg0 (lF rfl rfl T.one22 (gy rfl rfl rfl hg0 (fc (slenI 8 rfl) fun hm8 => (lnF rfl T.sl22 (gy rfl rfl rfl hg0 (bi rfl rfl b_geq (pkF rfl hg0 rfl (drp (X := [(10, _), (9, _), (8, _), (7, _)]) ⟨rfl, rfl, rfl, rfl, trivial⟩ (fin)))))))))))
  · intro hg0 fin
    exact gn rfl rfl rfl hg0 rfl rfl (gn rfl rfl rfl hg0 rfl rfl (gn rfl rfl rfl hg0 rfl rfl (gn rfl rfl rfl hg0 rfl rfl (pkT rfl hg0 rfl (drp (X := [(10, _), (9, _), (8, _), (7, _)]) ⟨rfl, rfl, rfl, rfl, trivial⟩ (fin))))))
  refine ag (nl (th (rt ?_)))
  have hr0 : ((decide (a < 0)) || (decide ((al.length : Int) ≤ a))) = (decide (a < 0) || decide ((al.length : Int) ≤ a)) := by
    rfl
  have hall : ∀ x0, ((decide (a < 0)) || (decide ((al.length : Int) ≤ a))) = x0 → resAV [bl ((decide (a < 0)) || (decide ((al.length : Int) ≤ a)))] = resAV [bl x0] := by rintro _ rfl; rfl
  exact rE () [.tmp 3] rfl [bl ((decide (a < 0)) || (decide ((al.length : Int) ≤ a)))] ⟨.tmp rfl, trivial⟩ (hall _ hr0) trivial (by first | exact .inr rfl | exact .inl rfl)

theorem IndexFunc_ok (l : List Int) (pq : Int → Bool) :
    Fn0 Tryd.prog 100 [ints l, intP pq] (int (idxF pq l)) := by
  refine fnI Tryd.func100 rfl rfl (fun w0 F0 => ?_)
  refine fcC (slenI 0 rfl) (fun hm0 => ?_)
  refine sq (rg (ag (nl (th (sq (sq (rg (mv (lnF rfl T.sl28 (mv (nl (th (bk ?_)))))))))))))
  have hI0_0 : 0 ≤ l.length := by
    first | omega | simp
  have hI0_1 : ∀ j, j < 0 → pq (ix l j) = false := by
    intro j hj; omega
  refine lp (κ := Nat) (fun p => [(0, sl 1 intE l), (1, intP pq), (7, int (l.length : Int)), (8, int (p : Int))]) (fun p => []) (fun p => (p ≤ l.length) ∧ (∀ j, j < p → pq (ix l j) = false)) (fun p => l.length - p) 0 ⟨hI0_0, hI0_1⟩ ⟨id, id, id, id, trivial⟩ trivial ?_
  intro k hG0
  obtain ⟨hk0, hI0⟩ : (k ≤ l.length) ∧ (∀ j, j < k → pq (ix l j) = false) := hG0
  refine sq (rg (bi rfl rfl b_lss (nl (th (sq ?_)))))
  refine cd rfl (fun hc0 => ?_) (fun hc0 => ?_)
  · try simp at hc0
    refine sk (th (sq (bk (sq (rg (mv (ag (nl (th (sq (rg (mv (mv (mv (iF rfl rfl T.sl28 (by omega) (by first | exact gN (by omega) | exact gI (by omega) (by omega)) (lF rfl rfl T.one3 (callP rfl (ix l k) trivial rfl (nl (th ?_)))))))))))))))))))
    refine cd rfl (fun hc1 => ?_) (fun hc1 => ?_)
    · try simp at hc1
      refine sq (rg (mv (ag (nl (th (rt (rb (rt_ (rt_ (rb (rt_ ?_)))))))))))
      have hr0 : ((k : Int) : Int) = (idxF pq l) := by
        exact (idx_some (by omega) hc1 hI0).symm
      have hall : ∀ x0, (k : Int) = x0 → resAV [int (k : Int)] = resAV [int x0] := by rintro _ rfl; rfl
      exact rE () [.tmp 4] rfl [int (k : Int)] ⟨.tmp rfl, trivial⟩ (hall _ hr0) trivial (by first | exact .inr rfl | exact .inl rfl)
    · try simp at hc1
      refine sk (eb (th (rg (bi rfl rfl (b_add (by unfold I64; omega)) (mv (nl ?_))))))
      have hN0 : (k + 1) ≤ l.length := by
        first | omega | simp_all
      have hN1 : ∀ j, j < (k + 1) → pq (ix l j) = false := by
        intro j hj
        by_cases e : j = k
        · subst e; simpa using hc1
        · exact hI0 j (by omega)
      exact ln (k + 1) ⟨hN0, hN1⟩ (by first | omega | (dsimp only; omega)) ⟨id, id, id, id, trivial⟩ trivial
  · try simp at hc0
    refine ex (xt_ (xt_ (xb (th (sq (rg (ag (nl (th (rt ?_))))))))))
    have hr0 : (-1 : Int) = (idxF pq l) := by
      exact (idx_none (fun j hj => hI0 j (by omega))).symm
    have hall : ∀ x0, (-1) = x0 → resAV [int (-1)] = resAV [int x0] := by rintro _ rfl; rfl
    exact rE () [.tmp 4] rfl [int (-1)] ⟨.tmp rfl, trivial⟩ (hall _ hr0) trivial (by first | exact .inr rfl | exact .inl rfl)

theorem ContainsFunc_ok (l : List Int) (pq : Int → Bool) :
    Fn0 Tryd.prog 71 [ints l, intP pq] (bl (l.any pq)) := by
  refine fnI Tryd.func71 rfl rfl (fun w0 F0 => ?_)
  refine fcC (slenI 0 rfl) (fun hm0 => ?_)
  refine sq (rg (ag (nl (th (sq (rg (mv (mv (cal0 (φs := [sl 1 intE l, intP pq]) (φ := int (idxF pq l)) ⟨rfl, rfl, trivial⟩ (prog15.IndexFunc_ok _ _) T.ent100 (bi rfl rfl b_geq (ag (nl (th (rt ?_))))))))))))))
  have hr0 : (decide (0 ≤ (idxF pq l))) = (l.any pq) := by
    exact idx_any
  have hall : ∀ x0, (decide (0 ≤ (idxF pq l))) = x0 → resAV [bl (decide (0 ≤ (idxF pq l)))] = resAV [bl x0] := by rintro _ rfl; rfl
  exact rE () [.tmp 4] rfl [bl (decide (0 ≤ (idxF pq l)))] ⟨.tmp rfl, trivial⟩ (hall _ hr0) trivial (by first | exact .inr rfl | exact .inl rfl)

theorem containsW_ok (l : List Int) (al : List ByteArray) : Fn0 Tryd.prog 71 [ints l, clo 72 [fp [strs al]]] (bl (l.any (fun a => decide (a < 0) || decide ((al.length : Int) ≤ a)))) := by
  refine fn_args (fun {w F vs} h => ?_) (ContainsFunc_ok l (fun a => decide (a < 0) || decide ((al.length : Int) ≤ a)))
  match vs, h with
  | [_, _], ⟨h1, h2, _⟩ => exact ⟨h1, clo_pf T.ent72 (fun a _ => Word1_ok a al) h2, trivial⟩

theorem pWord_ok (al : List ByteArray) (l : List Int) :
    Fn0 Tryd.prog 47 [strs al, ints l] (bl (wordOK (al.length : Int) l)) := by
  refine fnI Tryd.func47 rfl rfl (fun w0 F0 => ?_)
  refine fcC (slenI 0 rfl) (fun hm0 => ?_)
  refine fcC (slenI 1 rfl) (fun hm1 => ?_)
  refine sq (rg (bx1 (key := 2) (φ := sl 1 strE al) rfl fun b2 => (ag (nl (th (sq (rg (fzv 2 2 rfl rfl (mv (lnF rfl T.sl28 (bi rfl rfl b_leq (mv ?_))))))))))))
  apply gAnd (t := 8) (pd := 13) rfl
  rotate_left
  · intro hg0 fin
    have hg0' := hg0
    try simp at hg0'
    exact gy rfl rfl rfl hg0 (mv (gy rfl rfl rfl hg0 (mkf (gy rfl rfl rfl hg0 (cal0 (φs := [sl 1 intE l, clo 72 [fp [sl 1 strE al]]]) (φ := bl (l.any (fun a => decide (a < 0) || decide ((al.length : Int) ≤ a)))) ⟨rfl, rfl, trivial⟩ (containsW_ok l al) T.ent71 (gy rfl rfl rfl hg0 (no rfl (pkT rfl hg0 rfl (drp (X := [(12, _), (11, _), (10, _), (9, _)]) ⟨rfl, rfl, rfl, rfl, trivial⟩ (fin))))))))))
  · intro hg0 fin
    exact gn rfl rfl rfl hg0 rfl rfl (gn rfl rfl rfl hg0 rfl rfl (gn rfl rfl rfl hg0 rfl rfl (gn rfl rfl rfl hg0 rfl rfl (pkF rfl hg0 rfl (drp (X := [(12, _), (11, _), (10, _), (9, _)]) ⟨rfl, rfl, rfl, rfl, trivial⟩ (fin))))))
  refine ag (nl (th (rt ?_)))
  have hr0 : ((decide ((l.length : Int) ≤ 10000)) && (!(l.any (fun a => decide (a < 0) || decide ((al.length : Int) ≤ a))))) = (wordOK (al.length : Int) l) := by
    exact word_any
  have hall : ∀ x0, ((decide ((l.length : Int) ≤ 10000)) && (!(l.any (fun a => decide (a < 0) || decide ((al.length : Int) ≤ a))))) = x0 → resAV [bl ((decide ((l.length : Int) ≤ 10000)) && (!(l.any (fun a => decide (a < 0) || decide ((al.length : Int) ≤ a)))))] = resAV [bl x0] := by rintro _ rfl; rfl
  exact rE () [.tmp 4] rfl [bl ((decide ((l.length : Int) ≤ 10000)) && (!(l.any (fun a => decide (a < 0) || decide ((al.length : Int) ≤ a)))))] ⟨.tmp rfl, trivial⟩ (hall _ hr0) trivial (by first | exact .inr rfl | exact .inl rfl)

theorem Follow_ok (s : SSpec) (hs : okSpec s) (l : List Int) (hl : ∀ k, k < l.length → 0 ≤ ix l k ∧ ix l k < (s.actions.length : Int)) :
    Fn0 Tryd.prog 48 [spec s, ints l] (tup [int (if goS s l < 0 then 0 else goS s l), bl (decide (0 ≤ goS s l))]) := by
  refine fnI Tryd.func48 rfl rfl (fun w0 F0 => ?_)
  have hf0 := hs.few0
  refine fcC (inhS 0 rfl) (fun hS0 => ?_)
  obtain ⟨hsa0, hss0, hse0⟩ := spec_lens hS0
  refine fcC (slenI 1 rfl) (fun hm1 => ?_)
  refine sq (rg (bx (key := 2) (cs := [sl 1 strE s.actions, sl 2 stateE s.states]) rfl fun b2 => (ag (ag (nl (th (sq (rg (ag (nl (th (sq (sq (rg (mv (lnF rfl T.sl28 (mv (nl (th (bk ?_))))))))))))))))))))
  have hI0_0 : 0 ≤ l.length := by
    first | omega | simp
  have hI0_1 : (0 : Int) = (l.take 0).foldl (stepS s) 0 ∧ 0 ≤ (0 : Int) := by
    exact ⟨rfl, by omega⟩
  refine lp (κ := Nat × Int) (fun p => [(2, ptr 2 b2 0), (6, int p.2), (9, sl 1 intE l), (10, int (l.length : Int)), (11, int (p.1 : Int))]) (fun p => [(2, cell b2 [sl 1 strE s.actions, sl 2 stateE s.states])]) (fun p => (p.1 ≤ l.length) ∧ (p.2 = (l.take p.1).foldl (stepS s) 0 ∧ 0 ≤ p.2)) (fun p => l.length - p.1) ⟨0, (0 : Int)⟩ ⟨hI0_0, hI0_1⟩ ⟨id, id, id, id, id, trivial⟩ ⟨⟨rfl, id⟩, trivial⟩ ?_
  intro ⟨k, cur⟩ hG0
  obtain ⟨hk0, hI0⟩ : (k ≤ l.length) ∧ (cur = (l.take k).foldl (stepS s) 0 ∧ 0 ≤ cur) := hG0
  show Ct _ _ _ _ [(2, ptr 2 b2 0), (6, int cur), (9, sl 1 intE l), (10, int (l.length : Int)), (11, int (k : Int))] [(2, cell b2 [sl 1 strE s.actions, sl 2 stateE s.states])] _
  have hbd := go_bd hs hl k (by omega)
  rw [← hI0.1] at hbd
  refine sq (rg (bi rfl rfl b_lss (nl (th (sq ?_)))))
  refine cd rfl (fun hc0 => ?_) (fun hc0 => ?_)
  · try simp at hc0
    have hl0 := hl k (by omega)
    have hst := hs.st cur.toNat (by omega)
    have hsl := hst.len
    have hcur : (l.take (k + 1)).foldl (stepS s) 0 = ix (ix s.states cur.toNat).next (ix l k).toNat := by rw [go_succ (by omega), ← hI0.1]; unfold stepS; rw [if_neg (by omega)]
    refine sk (th (sq (bk (sq (rg (iF rfl rfl T.sl28 (by omega) (by first | exact gN (by omega) | exact gI (by omega) (by omega)) (lF rfl rfl T.one3 (ag (nl (th (sq (rg (fP rfl T.fld25_1 (lP rfl rfl rfl T.one23 (mv (iF rfl rfl T.sl23 (by omega) (by first | exact gN (by omega) | exact gI (by omega) (by omega)) (fF rfl T.fld69_1 (lF rfl rfl T.one28 (mv (iF rfl rfl T.sl28 (by omega) (by first | exact gN (by omega) | exact gI (by omega) (by omega)) (lF rfl rfl T.one3 (ag (nl (th (sq (rg (mv (bi rfl rfl b_lss (nl (th ?_))))))))))))))))))))))))))))))
    refine cd rfl (fun hc1 => ?_) (fun hc1 => ?_)
    · try simp at hc1
      have hng : goS s l < 0 := by
        by_cases e : k + 1 < l.length
        · rw [go_cut e (by rw [hcur]; omega)]; omega
        · unfold goS; rw [← List.take_length (l := l), show l.length = k + 1 by omega, hcur]; omega
      refine sq (rg (ag (ag (nl (th (rt (rb (rt_ (rt_ (rb (rt_ ?_)))))))))))
      have hr0 : (0 : Int) = (if goS s l < 0 then 0 else goS s l) := by
        rw [if_pos hng]
      have hr1 : false = (decide (0 ≤ goS s l)) := by
        rw [decide_eq_false (by omega)]
      have hall : ∀ x0 x1, 0 = x0 → false = x1 → resAV [int 0, bl false] = resAV [int x0, bl x1] := by rintro _ _ rfl rfl; rfl
      exact rE () [.tmp 4, .tmp 5] rfl [int 0, bl false] ⟨.tmp rfl, .tmp rfl, trivial⟩ (hall _ _ hr0 hr1) trivial (by first | exact .inr rfl | exact .inl rfl)
    · try simp at hc1
      refine sk (eb (th (rg (bi rfl rfl (b_add (by unfold I64; omega)) (mv (nl ?_))))))
      have hN0 : (k + 1) ≤ l.length := by
        first | omega | simp_all
      have hN1 : (ix ((ix s.states cur.toNat).next) ((ix l k).toNat)) = (l.take (k + 1)).foldl (stepS s) 0 ∧ 0 ≤ (ix ((ix s.states cur.toNat).next) ((ix l k).toNat)) := by
        exact ⟨hcur.symm, by omega⟩
      exact ln (⟨k + 1, ix ((ix s.states cur.toNat).next) ((ix l k).toNat)⟩ : Nat × Int) ⟨hN0, hN1⟩ (by first | omega | (dsimp only; omega)) ⟨id, id, id, id, id, trivial⟩ ⟨⟨rfl, id⟩, trivial⟩
  · try simp at hc0
    refine ex (xt_ (xt_ (xb (th (sq (rg (mv (ag (ag (nl (th (rt ?_))))))))))))
    have hr0 : (cur : Int) = (if goS s l < 0 then 0 else goS s l) := by
      have hg : goS s l = cur := by unfold goS; rw [hI0.1, show k = l.length by omega, List.take_length]
      rw [hg, if_neg (by omega)]
    have hr1 : true = (decide (0 ≤ goS s l)) := by
      have hg : goS s l = cur := by unfold goS; rw [hI0.1, show k = l.length by omega, List.take_length]
      rw [hg, decide_eq_true (by omega)]
    have hall : ∀ x0 x1, cur = x0 → true = x1 → resAV [int cur, bl true] = resAV [int x0, bl x1] := by rintro _ _ rfl rfl; rfl
    exact rE () [.tmp 4, .tmp 5] rfl [int cur, bl true] ⟨.tmp rfl, .tmp rfl, trivial⟩ (hall _ _ hr0 hr1) trivial (by first | exact .inr rfl | exact .inl rfl)

theorem From_ok (s : SSpec) (hsm : smallSpec s) (x : Int) :
    Fn0 Tryd.prog 23 [tabbed (spec s), int x] (tup [spec (fromS s x), int (fromE s x)]) := by
  refine fnI Tryd.func23 rfl rfl (fun w0 F0 => ?_)
  refine tbI 0 9999 rfl ?_
  refine fcC (inhS 0 rfl) (fun hS0 => ?_)
  obtain ⟨hsa0, hss0, hse0⟩ := spec_lens hS0
  refine sq (rg (bx (key := 2) (cs := [sl 1 strE s.actions, sl 2 stateE s.states]) rfl fun b2 => (al (key := 4) T.z25 (ex_cons (ex_cons (ex_nil))) fun b4 => (ag (nl (th (sq (bk (sq (rg (lPA rfl rfl T.agg25 rfl (cal0 (φs := [agg [sl 1 strE s.actions, sl 2 stateE s.states]]) (φ := bl (specOK s)) ⟨rfl, trivial⟩ (prog2.Valid_ok s (by assumption)) T.ent39 (no rfl (ag (nl (th ?_))))))))))))))))
  refine cd rfl (fun hc0 => ?_) (fun hc0 => ?_)
  · try simp at hc0
    refine sq (rg (bd (css := []) T.st25 (ex_cons (ex_cons (ex_nil))) trivial (sPA (cs' := [eqv (.slice none 0 0), eqv (.slice none 0 0)]) rfl rfl rfl T.agg25 rfl rfl (ag (nl (th (rt (rb (rt_ ?_)))))))))
    refine kncA 4 0 (sl 1 strE []) rfl rfl slnil ?_
    refine kncA 4 1 (sl 2 stateE []) rfl rfl slnil ?_
    have hr0 : [] = ((fromS s x).actions) := by
      unfold fromS; rw [if_neg (by simp [hc0])]
    have hr1 : [] = ((fromS s x).states) := by
      unfold fromS; rw [if_neg (by simp [hc0])]
    have hr2 : (30 : Int) = (fromE s x) := by
      unfold fromE; rw [if_neg (by simp [hc0])]
    have hall : ∀ x0 x1 x2, [] = x0 → [] = x1 → 30 = x2 → resAV [agg [sl 1 strE [], sl 2 stateE []], int 30] = resAV [agg [sl 1 strE x0, sl 2 stateE x1], int x2] := by rintro _ _ _ rfl rfl rfl; rfl
    exact rE () [.cell 4 25, .tmp 5] rfl [agg [sl 1 strE [], sl 2 stateE []], int 30] ⟨.agg rfl rfl T.agg25 rfl rfl, .tmp rfl, trivial⟩ (hall _ _ _ hr0 hr1 hr2) trivial (by first | exact .inr rfl | exact .inl rfl)
  · try simp at hc0
    have hs := okSpec_of hc0
    refine sq (rg (mv (bi rfl rfl b_lss (mv ?_))))
    apply gOr (t := 16) (pd := 22) rfl
    rotate_left
    · intro hg0 fin
      have hg0' := hg0
      try simp at hg0'
      exact gy rfl rfl rfl hg0 (mv (gy rfl rfl rfl hg0 (fP rfl T.fld25_1 (gy rfl rfl rfl hg0 (lP rfl rfl rfl T.one23 (gy rfl rfl rfl hg0 (fc (slenI 19 rfl) fun hm19 => (lnF rfl T.sl23 (gy rfl rfl rfl hg0 (bi rfl rfl b_geq (pkF rfl hg0 rfl (drp (X := [(21, _), (20, _), (19, _), (18, _), (17, _)]) ⟨rfl, rfl, rfl, rfl, rfl, trivial⟩ (fin)))))))))))))
    · intro hg0 fin
      exact gn rfl rfl rfl hg0 rfl rfl (gn rfl rfl rfl hg0 rfl rfl (gn rfl rfl rfl hg0 rfl rfl (gn rfl rfl rfl hg0 rfl rfl (gn rfl rfl rfl hg0 rfl rfl (pkT rfl hg0 rfl (drp (X := [(21, _), (20, _), (19, _), (18, _), (17, _)]) ⟨rfl, rfl, rfl, rfl, rfl, trivial⟩ (fin)))))))
    refine ag (nl (th ?_))
    refine cd rfl (fun hc1 => ?_) (fun hc1 => ?_)
    · try simp at hc1
      refine sq (rg (bd (css := []) T.st25 (ex_cons (ex_cons (ex_nil))) trivial (sPA (cs' := [eqv (.slice none 0 0), eqv (.slice none 0 0)]) rfl rfl rfl T.agg25 rfl rfl (ag (nl (th (rt (rb (rt_ ?_)))))))))
      refine kncA 4 0 (sl 1 strE []) rfl rfl slnil ?_
      refine kncA 4 1 (sl 2 stateE []) rfl rfl slnil ?_
      have hr0 : [] = ((fromS s x).actions) := by
        unfold fromS; rw [if_neg (by omega)]
      have hr1 : [] = ((fromS s x).states) := by
        unfold fromS; rw [if_neg (by omega)]
      have hr2 : (1 : Int) = (fromE s x) := by
        unfold fromE; rw [if_pos hc0, if_neg (by omega)]
      have hall : ∀ x0 x1 x2, [] = x0 → [] = x1 → 1 = x2 → resAV [agg [sl 1 strE [], sl 2 stateE []], int 1] = resAV [agg [sl 1 strE x0, sl 2 stateE x1], int x2] := by rintro _ _ _ rfl rfl rfl; rfl
      exact rE () [.cell 4 25, .tmp 5] rfl [agg [sl 1 strE [], sl 2 stateE []], int 1] ⟨.agg rfl rfl T.agg25 rfl rfl, .tmp rfl, trivial⟩ (hall _ _ _ hr0 hr1 hr2) trivial (by first | exact .inr rfl | exact .inl rfl)
    · try simp at hc1
      have hto := turnedS_ok hs (x := x) (by omega) (by omega)
      refine sk (eb (th (sq (rg (lPA rfl rfl T.agg25 rfl (mv (cal0 (φs := [agg [sl 1 strE s.actions, sl 2 stateE s.states], int x]) (φ := agg [sl 1 strE ((turnedS s x).actions), sl 2 stateE ((turnedS s x).states)]) ⟨rfl, rfl, trivial⟩ (prog15.turned_ok s (by assumption) x (by omega) (by omega)) T.ent46 (tbU (ψ := tab) 27 9999 rfl rfl (cal0 (φs := [both (agg [sl 1 strE ((turnedS s x).actions), sl 2 stateE ((turnedS s x).states)]) tab]) (φ := tup [agg [sl 1 strE (((leastR (turnedS s x)).1).actions), sl 2 stateE (((leastR (turnedS s x)).1).states)], sl 1 intE ((leastR (turnedS s x)).2)]) ⟨rfl, trivial⟩ (prog12.Merged_ok (turnedS s x) (by assumption)) T.ent41 (mv (xt rfl rfl (xt rfl rfl (al (key := 6) T.z25 (ex_cons (ex_cons (ex_nil))) fun b6 => (sPA (cs' := [sl 1 strE (((leastR (turnedS s x)).1).actions), sl 2 stateE (((leastR (turnedS s x)).1).states)]) rfl rfl rfl T.agg25 rfl rfl (ag (nl (th (sq (rg (lPA rfl rfl T.agg25 rfl (sPA (cs' := [sl 1 strE (((leastR (turnedS s x)).1).actions), sl 2 stateE (((leastR (turnedS s x)).1).states)]) rfl rfl rfl T.agg25 rfl rfl (ag (nl (th (rt ?_)))))))))))))))))))))))))
      have hr0 : (((leastR (turnedS s x)).1).actions) = ((fromS s x).actions) := by
        unfold fromS; rw [if_pos ⟨hc0, by omega, by omega⟩]
      have hr1 : (((leastR (turnedS s x)).1).states) = ((fromS s x).states) := by
        unfold fromS; rw [if_pos ⟨hc0, by omega, by omega⟩]
      have hr2 : (0 : Int) = (fromE s x) := by
        unfold fromE; rw [if_pos hc0, if_pos (by omega)]
      have hall : ∀ x0 x1 x2, (((leastR (turnedS s x)).1).actions) = x0 → (((leastR (turnedS s x)).1).states) = x1 → 0 = x2 → resAV [agg [sl 1 strE (((leastR (turnedS s x)).1).actions), sl 2 stateE (((leastR (turnedS s x)).1).states)], int 0] = resAV [agg [sl 1 strE x0, sl 2 stateE x1], int x2] := by rintro _ _ _ rfl rfl rfl; rfl
      exact rE () [.cell 4 25, .tmp 5] rfl [agg [sl 1 strE (((leastR (turnedS s x)).1).actions), sl 2 stateE (((leastR (turnedS s x)).1).states)], int 0] ⟨.agg rfl rfl T.agg25 rfl rfl, .tmp rfl, trivial⟩ (hall _ _ _ hr0 hr1 hr2) trivial (by first | exact .inr rfl | exact .inl rfl)

theorem Residual_ok (s : SSpec) (hsm : smallSpec s) (l : List Int) :
    Fn0 Tryd.prog 24 [tabbed (spec s), ints l] (tup [spec (resS s l), bl (resB s l), int (resE s l)]) := by
  refine fnI Tryd.func24 rfl rfl (fun w0 F0 => ?_)
  refine tbI 0 9999 rfl ?_
  refine fcC (inhS 0 rfl) (fun hS0 => ?_)
  obtain ⟨hsa0, hss0, hse0⟩ := spec_lens hS0
  refine fcC (slenI 1 rfl) (fun hm1 => ?_)
  refine sq (rg (bx (key := 2) (cs := [sl 1 strE s.actions, sl 2 stateE s.states]) rfl fun b2 => (al (key := 4) T.z25 (ex_cons (ex_cons (ex_nil))) fun b4 => (ag (ag (nl (th (sq (bk (sq (rg (lPA rfl rfl T.agg25 rfl (cal0 (φs := [agg [sl 1 strE s.actions, sl 2 stateE s.states]]) (φ := bl (specOK s)) ⟨rfl, trivial⟩ (prog2.Valid_ok s (by assumption)) T.ent39 (no rfl (ag (nl (th ?_)))))))))))))))))
  refine cd rfl (fun hc0 => ?_) (fun hc0 => ?_)
  · try simp at hc0
    refine sq (rg (bd (css := []) T.st25 (ex_cons (ex_cons (ex_nil))) trivial (sPA (cs' := [eqv (.slice none 0 0), eqv (.slice none 0 0)]) rfl rfl rfl T.agg25 rfl rfl (ag (ag (nl (th (rt (rb (rt_ ?_))))))))))
    refine kncA 4 0 (sl 1 strE []) rfl rfl slnil ?_
    refine kncA 4 1 (sl 2 stateE []) rfl rfl slnil ?_
    have hr0 : [] = ((resS s l).actions) := by
      unfold resS; rw [if_neg (by simp [hc0])]
    have hr1 : [] = ((resS s l).states) := by
      unfold resS; rw [if_neg (by simp [hc0])]
    have hr2 : false = (resB s l) := by
      unfold resB; rw [hc0]; rfl
    have hr3 : (30 : Int) = (resE s l) := by
      unfold resE; rw [if_neg (by simp [hc0])]
    have hall : ∀ x0 x1 x2 x3, [] = x0 → [] = x1 → false = x2 → 30 = x3 → resAV [agg [sl 1 strE [], sl 2 stateE []], bl false, int 30] = resAV [agg [sl 1 strE x0, sl 2 stateE x1], bl x2, int x3] := by rintro _ _ _ _ rfl rfl rfl rfl; rfl
    exact rE () [.cell 4 25, .tmp 5, .tmp 6] rfl [agg [sl 1 strE [], sl 2 stateE []], bl false, int 30] ⟨.agg rfl rfl T.agg25 rfl rfl, .tmp rfl, .tmp rfl, trivial⟩ (hall _ _ _ _ hr0 hr1 hr2 hr3) trivial (by first | exact .inr rfl | exact .inl rfl)
  · try simp at hc0
    have hs := okSpec_of hc0
    refine sq (rg (fP rfl T.fld25_0 (lP rfl rfl rfl T.one22 (mv (cal0 (φs := [sl 1 strE s.actions, sl 1 intE l]) (φ := bl (wordOK (s.actions.length : Int) l)) ⟨rfl, rfl, trivial⟩ (prog15.pWord_ok s.actions l) T.ent47 (no rfl (ag (nl (th ?_)))))))))
    refine cd rfl (fun hc1 => ?_) (fun hc1 => ?_)
    · try simp at hc1
      refine sq (rg (bd (css := []) T.st25 (ex_cons (ex_cons (ex_nil))) trivial (sPA (cs' := [eqv (.slice none 0 0), eqv (.slice none 0 0)]) rfl rfl rfl T.agg25 rfl rfl (ag (ag (nl (th (rt (rb (rt_ ?_))))))))))
      refine kncA 4 0 (sl 1 strE []) rfl rfl slnil ?_
      refine kncA 4 1 (sl 2 stateE []) rfl rfl slnil ?_
      have hr0 : [] = ((resS s l).actions) := by
        unfold resS; rw [if_neg (by simp [hc1])]
      have hr1 : [] = ((resS s l).states) := by
        unfold resS; rw [if_neg (by simp [hc1])]
      have hr2 : false = (resB s l) := by
        unfold resB; rw [hc0, hc1]; rfl
      have hr3 : (1 : Int) = (resE s l) := by
        unfold resE; rw [if_pos hc0, if_neg (by simp [hc1])]
      have hall : ∀ x0 x1 x2 x3, [] = x0 → [] = x1 → false = x2 → 1 = x3 → resAV [agg [sl 1 strE [], sl 2 stateE []], bl false, int 1] = resAV [agg [sl 1 strE x0, sl 2 stateE x1], bl x2, int x3] := by rintro _ _ _ _ rfl rfl rfl rfl; rfl
      exact rE () [.cell 4 25, .tmp 5, .tmp 6] rfl [agg [sl 1 strE [], sl 2 stateE []], bl false, int 1] ⟨.agg rfl rfl T.agg25 rfl rfl, .tmp rfl, .tmp rfl, trivial⟩ (hall _ _ _ _ hr0 hr1 hr2 hr3) trivial (by first | exact .inr rfl | exact .inl rfl)
    · try simp at hc1
      have hwo : wordOK (s.actions.length : Int) l = true := by simpa using hc1
      have hgb := go_bd hs (fun _ => word_ix hwo) l.length (Nat.le_refl _)
      rw [List.take_length] at hgb
      refine sk (eb (th (sq (rg (lPA rfl rfl T.agg25 rfl (mv (cal0 (φs := [agg [sl 1 strE s.actions, sl 2 stateE s.states], sl 1 intE l]) (φ := tup [int (if goS s l < 0 then 0 else goS s l), bl (decide (0 ≤ goS s l))]) ⟨rfl, rfl, trivial⟩ (prog15.Follow_ok s (by assumption) l (fun _ => word_ix (by assumption))) T.ent48 (mv (xt rfl rfl (xt rfl rfl (ag (ag (nl (th (sq (sq (rg (mv (no rfl (nl (th ?_)))))))))))))))))))))
      refine cd rfl (fun hc2 => ?_) (fun hc2 => ?_)
      · try simp at hc2
        refine sq (rg (bd (css := []) T.st25 (ex_cons (ex_cons (ex_nil))) trivial (sPA (cs' := [eqv (.slice none 0 0), eqv (.slice none 0 0)]) rfl rfl rfl T.agg25 rfl rfl (ag (ag (nl (th (rt (rt_ ?_)))))))))
        refine kncA 4 0 (sl 1 strE []) rfl rfl slnil ?_
        refine kncA 4 1 (sl 2 stateE []) rfl rfl slnil ?_
        have hr0 : [] = ((resS s l).actions) := by
          unfold resS; rw [if_neg (by omega)]
        have hr1 : [] = ((resS s l).states) := by
          unfold resS; rw [if_neg (by omega)]
        have hr2 : false = (resB s l) := by
          unfold resB; rw [hc0, hwo, decide_eq_false (by omega)]; rfl
        have hr3 : (0 : Int) = (resE s l) := by
          unfold resE; rw [if_pos hc0, if_pos hwo]
        have hall : ∀ x0 x1 x2 x3, [] = x0 → [] = x1 → false = x2 → 0 = x3 → resAV [agg [sl 1 strE [], sl 2 stateE []], bl false, int 0] = resAV [agg [sl 1 strE x0, sl 2 stateE x1], bl x2, int x3] := by rintro _ _ _ _ rfl rfl rfl rfl; rfl
        exact rE () [.cell 4 25, .tmp 5, .tmp 6] rfl [agg [sl 1 strE [], sl 2 stateE []], bl false, int 0] ⟨.agg rfl rfl T.agg25 rfl rfl, .tmp rfl, .tmp rfl, trivial⟩ (hall _ _ _ _ hr0 hr1 hr2 hr3) trivial (by first | exact .inr rfl | exact .inl rfl)
      · try simp at hc2
        have hgs : 0 ≤ goS s l := by simpa using hc2
        have hgl : goS s l < (s.states.length : Int) := hgb.2
        have hto := turnedS_ok hs hgs hgl
        refine sk (th (sq (rg (kn 7 (int (goS s l)) rfl (by rw [if_neg (show ¬ goS s l < 0 by omega)]; exact fun h => h) (lPA rfl rfl T.agg25 rfl (mv (cal0 (φs := [agg [sl 1 strE s.actions, sl 2 stateE s.states], int (goS s l)]) (φ := agg [sl 1 strE ((turnedS s (goS s l)).actions), sl 2 stateE ((turnedS s (goS s l)).states)]) ⟨rfl, rfl, trivial⟩ (prog15.turned_ok s (by assumption) (goS s l) (by omega) (by omega)) T.ent46 (tbU (ψ := tab) 35 9999 rfl rfl (cal0 (φs := [both (agg [sl 1 strE ((turnedS s (goS s l)).actions), sl 2 stateE ((turnedS s (goS s l)).states)]) tab]) (φ := tup [agg [sl 1 strE (((leastR (turnedS s (goS s l))).1).actions), sl 2 stateE (((leastR (turnedS s (goS s l))).1).states)], sl 1 intE ((leastR (turnedS s (goS s l))).2)]) ⟨rfl, trivial⟩ (prog12.Merged_ok (turnedS s (goS s l)) (by assumption)) T.ent41 (mv (xt rfl rfl (xt rfl rfl (al (key := 9) T.z25 (ex_cons (ex_cons (ex_nil))) fun b9 => (sPA (cs' := [sl 1 strE (((leastR (turnedS s (goS s l))).1).actions), sl 2 stateE (((leastR (turnedS s (goS s l))).1).states)]) rfl rfl rfl T.agg25 rfl rfl (ag (nl (th (sq (rg (lPA rfl rfl T.agg25 rfl (sPA (cs' := [sl 1 strE (((leastR (turnedS s (goS s l))).1).actions), sl 2 stateE (((leastR (turnedS s (goS s l))).1).states)]) rfl rfl rfl T.agg25 rfl rfl (ag (ag (nl (th (rt ?_))))))))))))))))))))))))))
        have hr0 : (((leastR (turnedS s (goS s l))).1).actions) = ((resS s l).actions) := by
          unfold resS; rw [if_pos ⟨hc0, hwo, hgs⟩]
        have hr1 : (((leastR (turnedS s (goS s l))).1).states) = ((resS s l).states) := by
          unfold resS; rw [if_pos ⟨hc0, hwo, hgs⟩]
        have hr2 : true = (resB s l) := by
          unfold resB; rw [hc0, hwo, decide_eq_true hgs]; rfl
        have hr3 : (0 : Int) = (resE s l) := by
          unfold resE; rw [if_pos hc0, if_pos hwo]
        have hall : ∀ x0 x1 x2 x3, (((leastR (turnedS s (goS s l))).1).actions) = x0 → (((leastR (turnedS s (goS s l))).1).states) = x1 → true = x2 → 0 = x3 → resAV [agg [sl 1 strE (((leastR (turnedS s (goS s l))).1).actions), sl 2 stateE (((leastR (turnedS s (goS s l))).1).states)], bl true, int 0] = resAV [agg [sl 1 strE x0, sl 2 stateE x1], bl x2, int x3] := by rintro _ _ _ _ rfl rfl rfl rfl; rfl
        exact rE () [.cell 4 25, .tmp 5, .tmp 6] rfl [agg [sl 1 strE (((leastR (turnedS s (goS s l))).1).actions), sl 2 stateE (((leastR (turnedS s (goS s l))).1).states)], bl true, int 0] ⟨.agg rfl rfl T.agg25 rfl rfl, .tmp rfl, .tmp rfl, trivial⟩ (hall _ _ _ _ hr0 hr1 hr2 hr3) trivial (by first | exact .inr rfl | exact .inl rfl)
end prog15
end Go.Proofs.YtolpjmllmlahfaaDoor



namespace Go.Proofs.YtolpjmllmlahfaaDoor
open AL Go
set_option maxRecDepth 100000
set_option linter.all false

open ref01 ref03 ref04 ref06 prog prog2 prog3 prog10 prog11 prog12 prog13 prog14 prog15 starts Part TurnM Itoa

namespace prog16
namespace T
theorem map164 : MapT Tryd.prog 164 9 3 smE smD := mapT_str (by kernel_rfl) (by kernel_rfl)
theorem zv3 : ∀ w F, ∃ u, (zeroValue 3).run Tryd.prog w = .ok u w ∧ (int 0).p w F u := zeroV_of (v := .int .i64 0) (by kernel_rfl) _ (fun _ _ => eqv_rfl)
theorem ent119 : Ent Tryd.prog 119 := ent_of (by kernel_rfl)
theorem ent92 : Ent Tryd.prog 92 := ent_of (by kernel_rfl)
theorem ent94 : Ent Tryd.prog 94 := ent_of (by kernel_rfl)
theorem agg25 : IsAgg Tryd.prog 25 2 := isAgg_of (by kernel_rfl)
theorem ent8 : Ent Tryd.prog 8 := ent_of (by kernel_rfl)
theorem ent9 : Ent Tryd.prog 9 := ent_of (by kernel_rfl)
theorem ent10 : Ent Tryd.prog 10 := ent_of (by kernel_rfl)
theorem fld25_1 : FieldAt Tryd.prog 25 1 1 := fieldAt_of (by kernel_rfl)
theorem one23 : IsOne Tryd.prog 23 := isOne_of (by kernel_rfl)
theorem sl23 : IsSlice Tryd.prog 23 69 2 := isSlice_of (by kernel_rfl)
theorem fld25_0 : FieldAt Tryd.prog 25 0 0 := fieldAt_of (by kernel_rfl)
theorem one22 : IsOne Tryd.prog 22 := isOne_of (by kernel_rfl)
theorem sl22 : IsSlice Tryd.prog 22 9 1 := isSlice_of (by kernel_rfl)
theorem ent20 : Ent Tryd.prog 20 := ent_of (by kernel_rfl)
theorem z25 : ZeroIs Tryd.prog 25 [.slice none 0 0, .slice none 0 0] := zeroIs_of (by kernel_rfl)
theorem ent21 : Ent Tryd.prog 21 := ent_of (by kernel_rfl)
theorem ent22 : Ent Tryd.prog 22 := ent_of (by kernel_rfl)
theorem ent14 : Ent Tryd.prog 14 := ent_of (by kernel_rfl)
theorem ent23 : Ent Tryd.prog 23 := ent_of (by kernel_rfl)
theorem mk28 : MakeT Tryd.prog 28 3 1 8 [.int .i64 0] := makeT_of (by kernel_rfl) (by kernel_rfl)
theorem ent24 : Ent Tryd.prog 24 := ent_of (by kernel_rfl)
theorem ent19 : Ent Tryd.prog 19 := ent_of (by kernel_rfl)
theorem bool4 : Tryd.prog.underlying 4 = some .bool := by kernel_rfl
end T

theorem LeastStarts_ok (s : SSpec) (hsm : smallSpec s) (x : Int) (l : List Int) (hlb : l.length ≤ 17592186044416) :
    Fn0 Tryd.prog 4 [tabbed (spec s), int x, ints l] (bl true) := by
  refine fnI Tryd.func4 rfl rfl (fun w0 F0 => ?_)
  refine tbI 0 9999 rfl ?_
  refine fcC (inhS 0 rfl) (fun hS0 => ?_)
  obtain ⟨hsa0, hss0, hse0⟩ := spec_lens hS0
  refine fcC (slenI 2 rfl) (fun hm2 => ?_)
  refine sq (rg (bx (key := 3) (cs := [sl 1 strE s.actions, sl 2 stateE s.states]) rfl fun b3 => (ag (nl (th (sq (sq (rg (lPA rfl rfl T.agg25 rfl (cal0 (φs := [agg [sl 1 strE s.actions, sl 2 stateE s.states]]) (φ := bl (lightS s)) ⟨rfl, trivial⟩ (prog14.light_ok s) T.ent8 (no rfl (nl (th ?_)))))))))))))
  refine cd rfl (fun hc0 => ?_) (fun hc0 => ?_)
  · try simp at hc0
    refine sq (rg (calT (ψ := tab) (φs := []) (φ := bl true) trivial (prog14.awake_ok) T.ent9 9999 rfl rfl (ag (nl (th (rt (rt_ ?_)))))))
    exact rE () [.tmp 6] rfl [bl true] ⟨.tmp rfl, trivial⟩ (rfl) trivial (by first | exact .inr rfl | exact .inl rfl)
  · try simp at hc0
    have hsz := light_size hc0
    refine sk (th (sq (rg (lPA rfl rfl T.agg25 rfl (cal0 (φs := [agg [sl 1 strE s.actions, sl 2 stateE s.states]]) (φ := bl (specOK s)) ⟨rfl, trivial⟩ (ref03.Is_ok s) T.ent10 (ag (nl (th (sq (rg (mv (mv ?_))))))))))))
    apply gAnd (t := 25) (pd := 28) rfl
    rotate_left
    · intro hg0 fin
      have hg0' := hg0
      try simp at hg0'
      exact gy rfl rfl rfl hg0 (mv (gy rfl rfl rfl hg0 (bi rfl rfl b_geq (pkT rfl hg0 rfl (drp (X := [(27, _), (26, _)]) ⟨rfl, rfl, trivial⟩ (fin))))))
    · intro hg0 fin
      exact gn rfl rfl rfl hg0 rfl rfl (gn rfl rfl rfl hg0 rfl rfl (pkF rfl hg0 rfl (drp (X := [(27, _), (26, _)]) ⟨rfl, rfl, trivial⟩ (fin))))
    refine mv ?_
    apply gAnd (t := 29) (pd := 35) rfl
    rotate_left
    · intro hg1 fin
      have hg1' := hg1
      try simp at hg1'
      exact gy rfl rfl rfl hg1 (mv (gy rfl rfl rfl hg1 (fP rfl T.fld25_1 (gy rfl rfl rfl hg1 (lP rfl rfl rfl T.one23 (gy rfl rfl rfl hg1 (fc (slenI 32 rfl) fun hm32 => (lnF rfl T.sl23 (gy rfl rfl rfl hg1 (bi rfl rfl b_lss (pkT rfl hg1 rfl (drp (X := [(34, _), (33, _), (32, _), (31, _), (30, _)]) ⟨rfl, rfl, rfl, rfl, rfl, trivial⟩ (fin)))))))))))))
    · intro hg1 fin
      exact gn rfl rfl rfl hg1 rfl rfl (gn rfl rfl rfl hg1 rfl rfl (gn rfl rfl rfl hg1 rfl rfl (gn rfl rfl rfl hg1 rfl rfl (gn rfl rfl rfl hg1 rfl rfl (pkF rfl hg1 rfl (drp (X := [(34, _), (33, _), (32, _), (31, _), (30, _)]) ⟨rfl, rfl, rfl, rfl, rfl, trivial⟩ (fin)))))))
    refine ag (ag (nl (th (sq (rg (mv (mv ?_)))))))
    apply gAnd (t := 37) (pd := 43) rfl
    rotate_left
    · intro hg2 fin
      have hg2' := hg2
      try simp at hg2'
      exact gy rfl rfl rfl hg2 (fP rfl T.fld25_0 (gy rfl rfl rfl hg2 (lP rfl rfl rfl T.one22 (gy rfl rfl rfl hg2 (fc (slenI 39 rfl) fun hm39 => (lnF rfl T.sl22 (gy rfl rfl rfl hg2 (mv (gy rfl rfl rfl hg2 (cal0 (φs := [int (s.actions.length : Int), sl 1 intE l]) (φ := bl (wordOK (s.actions.length : Int) l)) ⟨rfl, rfl, trivial⟩ (starts.Word_ok (s.actions.length : Int) l) T.ent20 (pkT rfl hg2 rfl (drp (X := [(42, _), (41, _), (40, _), (39, _), (38, _)]) ⟨rfl, rfl, rfl, rfl, rfl, trivial⟩ (fin)))))))))))))
    · intro hg2 fin
      exact gn rfl rfl rfl hg2 rfl rfl (gn rfl rfl rfl hg2 rfl rfl (gn rfl rfl rfl hg2 rfl rfl (gn rfl rfl rfl hg2 rfl rfl (gn rfl rfl rfl hg2 rfl rfl (pkF rfl hg2 rfl (drp (X := [(42, _), (41, _), (40, _), (39, _), (38, _)]) ⟨rfl, rfl, rfl, rfl, rfl, trivial⟩ (fin)))))))
    refine ag (nl (th (sq (rg (al (key := 11) T.z25 (ex_cons (ex_cons (ex_nil))) fun b11 => (knc 11 0 (sl 1 strE []) rfl rfl slnil (knc 11 1 (sl 2 stateE []) rfl rfl slnil (al (key := 12) T.z25 (ex_cons (ex_cons (ex_nil))) fun b12 => (knc 12 0 (sl 1 strE []) rfl rfl slnil (knc 12 1 (sl 2 stateE []) rfl rfl slnil (nl (th (sq (sq (rg (mv (nl (th ?_))))))))))))))))))
    refine jn (κ := (List ByteArray) × (List SState)) (fun p => [(1, int x), (2, sl 1 intE l), (3, ptr 3 b3 0), (6, bl false), (7, bl (specOK s)), (8, bl (((specOK s) && (decide (0 ≤ x))) && (decide (x < (s.states.length : Int))))), (9, int (-1)), (10, bl ((specOK s) && (wordOK (s.actions.length : Int) l))), (11, ptr 11 b11 0), (12, ptr 12 b12 0), (9999, tab)]) (fun p => [(3, cell b3 [sl 1 strE s.actions, sl 2 stateE s.states]), (11, cell b11 [sl 1 strE p.1, sl 2 stateE p.2]), (12, cell b12 [sl 1 strE [], sl 2 stateE []])]) (fun p => (⟨p.1, p.2⟩ : SSpec) = fromS s x) ?_ ?_
    ·
      refine cd rfl (fun hc1 => ?_) (fun hc1 => ?_)
      · skip
        have hmay := hc1
        simp only [Bool.and_eq_true, decide_eq_true_eq] at hmay
        have hs := okSpec_of hmay.1.1
        refine rg (lPA rfl rfl T.agg25 rfl (mv (cal0 (φs := [agg [sl 1 strE s.actions, sl 2 stateE s.states], int x]) (φ := agg [sl 1 strE (((leastR (turnedS s x)).1).actions), sl 2 stateE (((leastR (turnedS s x)).1).states)]) ⟨rfl, rfl, trivial⟩ (starts.From_ok s (by assumption) x (by omega) (by omega) (by omega)) T.ent21 (sPA (cs' := [sl 1 strE (((leastR (turnedS s x)).1).actions), sl 2 stateE (((leastR (turnedS s x)).1).states)]) rfl rfl rfl T.agg25 rfl rfl (nl ?_)))))
        have hN0 : (⟨(((leastR (turnedS s x)).1).actions), (((leastR (turnedS s x)).1).states)⟩ : SSpec) = fromS s x := by
          unfold fromS; rw [if_pos ⟨hmay.1.1, hmay.1.2, hmay.2⟩]
        exact jx ⟨((leastR (turnedS s x)).1).actions, ((leastR (turnedS s x)).1).states⟩ hN0 ⟨id, id, id, id, id, id, id, id, id, id, id, trivial⟩ ⟨⟨rfl, id⟩, ⟨rfl, id⟩, ⟨rfl, id⟩, trivial⟩
      · skip
        refine sk ?_
        have hN0 : (⟨([] : List ByteArray), ([] : List SState)⟩ : SSpec) = fromS s x := by
          unfold fromS; rw [if_neg (by intro ⟨a, b, c⟩; simp [a, b, c] at hc1)]
        exact jx ⟨([] : List ByteArray), ([] : List SState)⟩ hN0 ⟨id, id, id, id, id, id, id, id, id, id, id, trivial⟩ ⟨⟨rfl, id⟩, ⟨rfl, id⟩, ⟨rfl, id⟩, trivial⟩
    · intro ⟨fa, fs⟩ hG
      have hJ1 : (⟨fa, fs⟩ : SSpec) = fromS s x := hG
      skip
      show At _ _ _ [(1, int x), (2, sl 1 intE l), (3, ptr 3 b3 0), (6, bl false), (7, bl (specOK s)), (8, bl (((specOK s) && (decide (0 ≤ x))) && (decide (x < (s.states.length : Int))))), (9, int (-1)), (10, bl ((specOK s) && (wordOK (s.actions.length : Int) l))), (11, ptr 11 b11 0), (12, ptr 12 b12 0), (9999, tab)] [(3, cell b3 [sl 1 strE s.actions, sl 2 stateE s.states]), (11, cell b11 [sl 1 strE fa, sl 2 stateE fs]), (12, cell b12 [sl 1 strE [], sl 2 stateE []])]
      refine th (sq (sq (rg (mv (nl (th ?_))))))
      refine jn (κ := Int) (fun p => [(1, int x), (2, sl 1 intE l), (3, ptr 3 b3 0), (6, bl false), (7, bl (specOK s)), (8, bl (((specOK s) && (decide (0 ≤ x))) && (decide (x < (s.states.length : Int))))), (9, int p), (10, bl ((specOK s) && (wordOK (s.actions.length : Int) l))), (11, ptr 11 b11 0), (12, ptr 12 b12 0), (9999, tab)]) (fun p => [(3, cell b3 [sl 1 strE s.actions, sl 2 stateE s.states]), (11, cell b11 [sl 1 strE fa, sl 2 stateE fs]), (12, cell b12 [sl 1 strE [], sl 2 stateE []])]) (fun p => p = if (specOK s && wordOK (s.actions.length : Int) l) = true then goS s l else -1) ?_ ?_
      ·
        refine cd rfl (fun hc2 => ?_) (fun hc2 => ?_)
        · skip
          have hrd := hc2
          simp only [Bool.and_eq_true] at hrd
          have hs := okSpec_of hrd.1
          have hwo := hrd.2
          refine rg (lPA rfl rfl T.agg25 rfl (mv (cal0 (φs := [agg [sl 1 strE s.actions, sl 2 stateE s.states], int 0, sl 1 intE l]) (φ := int (goS s l)) ⟨rfl, rfl, rfl, trivial⟩ (starts.Go_ok s (by assumption) l (fun _ => word_ix (by assumption))) T.ent22 (ag (nl ?_)))))
          have hN0 : (goS s l) = if (specOK s && wordOK (s.actions.length : Int) l) = true then goS s l else -1 := by
            rw [if_pos hc2]
          exact jx (goS s l) hN0 ⟨id, id, id, id, id, id, id, id, id, id, id, trivial⟩ ⟨⟨rfl, id⟩, ⟨rfl, id⟩, ⟨rfl, id⟩, trivial⟩
        · skip
          refine sk ?_
          have hN0 : (-1 : Int) = if (specOK s && wordOK (s.actions.length : Int) l) = true then goS s l else -1 := by
            rw [if_neg (by simp [hc2])]
          exact jx (-1 : Int) hN0 ⟨id, id, id, id, id, id, id, id, id, id, id, trivial⟩ ⟨⟨rfl, id⟩, ⟨rfl, id⟩, ⟨rfl, id⟩, trivial⟩
      · intro to hG
        have hJ2 : to = if (specOK s && wordOK (s.actions.length : Int) l) = true then goS s l else -1 := hG
        skip
        show At _ _ _ [(1, int x), (2, sl 1 intE l), (3, ptr 3 b3 0), (6, bl false), (7, bl (specOK s)), (8, bl (((specOK s) && (decide (0 ≤ x))) && (decide (x < (s.states.length : Int))))), (9, int to), (10, bl ((specOK s) && (wordOK (s.actions.length : Int) l))), (11, ptr 11 b11 0), (12, ptr 12 b12 0), (9999, tab)] [(3, cell b3 [sl 1 strE s.actions, sl 2 stateE s.states]), (11, cell b11 [sl 1 strE fa, sl 2 stateE fs]), (12, cell b12 [sl 1 strE [], sl 2 stateE []])]
        refine th (sq (sq (rg (mv (bi rfl rfl b_geq (nl (th ?_)))))))
        refine jn (κ := (List ByteArray) × (List SState)) (fun p => [(1, int x), (2, sl 1 intE l), (3, ptr 3 b3 0), (6, bl false), (7, bl (specOK s)), (8, bl (((specOK s) && (decide (0 ≤ x))) && (decide (x < (s.states.length : Int))))), (9, int to), (10, bl ((specOK s) && (wordOK (s.actions.length : Int) l))), (11, ptr 11 b11 0), (12, ptr 12 b12 0), (9999, tab)]) (fun p => [(3, cell b3 [sl 1 strE s.actions, sl 2 stateE s.states]), (11, cell b11 [sl 1 strE fa, sl 2 stateE fs]), (12, cell b12 [sl 1 strE p.1, sl 2 stateE p.2])]) (fun p => (⟨p.1, p.2⟩ : SSpec) = resS s l) ?_ ?_
        ·
          refine cd rfl (fun hc3 => ?_) (fun hc3 => ?_)
          · try simp at hc3
            have hrd : specOK s = true ∧ wordOK (s.actions.length : Int) l = true := by
              by_cases e : (specOK s && wordOK (s.actions.length : Int) l) = true
              · simpa using e
              · rw [if_neg e] at hJ2; omega
            have hs := okSpec_of hrd.1
            have hto : to = goS s l := by rw [hJ2, hrd.1, hrd.2]; rfl
            have hgb := go_bd hs (fun _ => word_ix hrd.2) l.length (Nat.le_refl _)
            rw [List.take_length] at hgb
            have hgl : goS s l < (s.states.length : Int) := hgb.2
            refine rg (lPA rfl rfl T.agg25 rfl (mv (cal0 (φs := [agg [sl 1 strE s.actions, sl 2 stateE s.states], int to]) (φ := agg [sl 1 strE (((leastR (turnedS s to)).1).actions), sl 2 stateE (((leastR (turnedS s to)).1).states)]) ⟨rfl, rfl, trivial⟩ (starts.From_ok s (by assumption) to (by omega) (by omega) (by omega)) T.ent21 (sPA (cs' := [sl 1 strE (((leastR (turnedS s to)).1).actions), sl 2 stateE (((leastR (turnedS s to)).1).states)]) rfl rfl rfl T.agg25 rfl rfl (nl ?_)))))
            have hN0 : (⟨(((leastR (turnedS s to)).1).actions), (((leastR (turnedS s to)).1).states)⟩ : SSpec) = resS s l := by
              unfold resS; rw [if_pos ⟨hrd.1, hrd.2, by omega⟩, hto]
            exact jx ⟨((leastR (turnedS s to)).1).actions, ((leastR (turnedS s to)).1).states⟩ hN0 ⟨id, id, id, id, id, id, id, id, id, id, id, trivial⟩ ⟨⟨rfl, id⟩, ⟨rfl, id⟩, ⟨rfl, id⟩, trivial⟩
          · try simp at hc3
            refine sk ?_
            have hN0 : (⟨([] : List ByteArray), ([] : List SState)⟩ : SSpec) = resS s l := by
              unfold resS; rw [if_neg (by intro ⟨a, b, c⟩; rw [a, b] at hJ2; simp at hJ2; omega)]
            exact jx ⟨([] : List ByteArray), ([] : List SState)⟩ hN0 ⟨id, id, id, id, id, id, id, id, id, id, id, trivial⟩ ⟨⟨rfl, id⟩, ⟨rfl, id⟩, ⟨rfl, id⟩, trivial⟩
        · intro ⟨ga, gs⟩ hG
          have hJ3 : (⟨ga, gs⟩ : SSpec) = resS s l := hG
          skip
          show At _ _ _ [(1, int x), (2, sl 1 intE l), (3, ptr 3 b3 0), (6, bl false), (7, bl (specOK s)), (8, bl (((specOK s) && (decide (0 ≤ x))) && (decide (x < (s.states.length : Int))))), (9, int to), (10, bl ((specOK s) && (wordOK (s.actions.length : Int) l))), (11, ptr 11 b11 0), (12, ptr 12 b12 0), (9999, tab)] [(3, cell b3 [sl 1 strE s.actions, sl 2 stateE s.states]), (11, cell b11 [sl 1 strE fa, sl 2 stateE fs]), (12, cell b12 [sl 1 strE ga, sl 2 stateE gs])]
          refine th (sq (rg (lPA rfl rfl T.agg25 rfl (cal0 (φs := [agg [sl 1 strE s.actions, sl 2 stateE s.states]]) (φ := agg [sl 1 strE s.actions, sl 2 stateE s.states]) ⟨rfl, trivial⟩ (ref03.Copy_ok s (by omega)) T.ent14 (mv (tbU (ψ := tab) 59 9999 rfl rfl (cal0 (φs := [both (agg [sl 1 strE s.actions, sl 2 stateE s.states]) tab, int x]) (φ := tup [agg [sl 1 strE ((fromS s x).actions), sl 2 stateE ((fromS s x).states)], int (fromE s x)]) ⟨rfl, rfl, trivial⟩ (prog15.From_ok s (by assumption) x) T.ent23 (mv (xt rfl rfl (xt rfl rfl (al (key := 13) T.z25 (ex_cons (ex_cons (ex_nil))) fun b13 => (sPA (cs' := [sl 1 strE ((fromS s x).actions), sl 2 stateE ((fromS s x).states)]) rfl rfl rfl T.agg25 rfl rfl (ag (nl (th (sq (rg (lPA rfl rfl T.agg25 rfl (cal0 (φs := [agg [sl 1 strE s.actions, sl 2 stateE s.states]]) (φ := agg [sl 1 strE s.actions, sl 2 stateE s.states]) ⟨rfl, trivial⟩ (ref03.Copy_ok s (by omega)) T.ent14 (mv (appendF (enc := intE) (ys := l) rfl rfl T.mk28 (by unfold maxL; omega) (tbU (ψ := tab) 66 9999 rfl rfl (cal0 (φs := [both (agg [sl 1 strE s.actions, sl 2 stateE s.states]) tab, sl 1 intE l]) (φ := tup [agg [sl 1 strE ((resS s l).actions), sl 2 stateE ((resS s l).states)], bl (resB s l), int (resE s l)]) ⟨rfl, rfl, trivial⟩ (prog15.Residual_ok s (by assumption) l) T.ent24 (mv (xt rfl rfl (xt rfl rfl (xt rfl rfl (al (key := 15) T.z25 (ex_cons (ex_cons (ex_nil))) fun b15 => (sPA (cs' := [sl 1 strE ((resS s l).actions), sl 2 stateE ((resS s l).states)]) rfl rfl rfl T.agg25 rfl rfl (ag (ag (nl (th (sq (sq (rg (lPA rfl rfl T.agg25 rfl (lPA rfl rfl T.agg25 rfl (cal0 (φs := [agg [sl 1 strE ((fromS s x).actions), sl 2 stateE ((fromS s x).states)], agg [sl 1 strE fa, sl 2 stateE fs]]) (φ := bl (decide (fromS s x = (⟨fa, fs⟩ : SSpec)))) ⟨rfl, rfl, trivial⟩ (ref03.Same_ok (fromS s x) (⟨fa, fs⟩ : SSpec)) T.ent19 (no rfl (mv ?_)))))))))))))))))))))))))))))))))))))))))
          apply gOr (t := 77) (pd := 82) rfl
          rotate_left
          · intro hg3 fin
            have hg3' := hg3
            try simp at hg3'
            exact gy rfl rfl rfl hg3 (lPA rfl rfl T.agg25 rfl (gy rfl rfl rfl hg3 (lPA rfl rfl T.agg25 rfl (gy rfl rfl rfl hg3 (cal0 (φs := [agg [sl 1 strE ((resS s l).actions), sl 2 stateE ((resS s l).states)], agg [sl 1 strE ga, sl 2 stateE gs]]) (φ := bl (decide (resS s l = (⟨ga, gs⟩ : SSpec)))) ⟨rfl, rfl, trivial⟩ (ref03.Same_ok (resS s l) (⟨ga, gs⟩ : SSpec)) T.ent19 (gy rfl rfl rfl hg3 (no rfl (pkF rfl hg3 rfl (drp (X := [(81, _), (80, _), (79, _), (78, _)]) ⟨rfl, rfl, rfl, rfl, trivial⟩ (fin))))))))))
          · intro hg3 fin
            exact gn rfl rfl rfl hg3 rfl rfl (gn rfl rfl rfl hg3 rfl rfl (gn rfl rfl rfl hg3 rfl rfl (gn rfl rfl rfl hg3 rfl rfl (pkT rfl hg3 rfl (drp (X := [(81, _), (80, _), (79, _), (78, _)]) ⟨rfl, rfl, rfl, rfl, trivial⟩ (fin))))))
          refine mv ?_
          apply gOr (t := 83) (pd := 88) rfl
          rotate_left
          · intro hg4 fin
            have hg4' := hg4
            try simp at hg4'
            exact gy rfl rfl rfl hg4 (mv (gy rfl rfl rfl hg4 (mv (gy rfl rfl rfl hg4 (bi rfl rfl b_geq (gy rfl rfl rfl hg4 (bi rfl rfl (b_neqB T.bool4) (pkF rfl hg4 rfl (drp (X := [(87, _), (86, _), (85, _), (84, _)]) ⟨rfl, rfl, rfl, rfl, trivial⟩ (fin))))))))))
          · intro hg4 fin
            exact gn rfl rfl rfl hg4 rfl rfl (gn rfl rfl rfl hg4 rfl rfl (gn rfl rfl rfl hg4 rfl rfl (gn rfl rfl rfl hg4 rfl rfl (pkT rfl hg4 rfl (drp (X := [(87, _), (86, _), (85, _), (84, _)]) ⟨rfl, rfl, rfl, rfl, trivial⟩ (fin))))))
          refine nl (th ?_)
          refine cd rfl (fun hc4 => ?_) (fun hc4 => ?_)
          · skip
            have hB : resB s l = decide (0 ≤ to) := by
              unfold resB
              rw [hJ2]
              by_cases e : (specOK s && wordOK (s.actions.length : Int) l) = true
              · rw [e, if_pos rfl]; rfl
              · rw [if_neg e]; rw [Bool.not_eq_true] at e; rw [e]; rfl
            exact absurd hc4 (by rw [hJ1, hJ3, hB]; simp)
          · skip
            refine sk (th (sq (sq (rg (mv (no rfl (nl (th ?_))))))))
            refine cd rfl (fun hc5 => ?_) (fun hc5 => ?_)
            · try simp at hc5
              refine sq (rg (mv (bi rfl rfl b_eql (mv ?_))))
              apply gAnd (t := 93) (pd := 96) rfl
              rotate_left
              · intro hg5 fin
                have hg5' := hg5
                try simp at hg5'
                exact gy rfl rfl rfl hg5 (mv (gy rfl rfl rfl hg5 (bi rfl rfl b_eql (pkT rfl hg5 rfl (drp (X := [(95, _), (94, _)]) ⟨rfl, rfl, trivial⟩ (fin))))))
              · intro hg5 fin
                exact gn rfl rfl rfl hg5 rfl rfl (gn rfl rfl rfl hg5 rfl rfl (pkF rfl hg5 rfl (drp (X := [(95, _), (94, _)]) ⟨rfl, rfl, trivial⟩ (fin))))
              refine mv ?_
              apply gAnd (t := 97) (pd := 99) rfl
              rotate_left
              · intro hg6 fin
                have hg6' := hg6
                try simp at hg6'
                exact gy rfl rfl rfl hg6 (calT (ψ := tab) (φs := []) (φ := bl true) trivial (prog14.awake_ok) T.ent9 9999 rfl rfl (pkT rfl hg6 rfl (drp (X := [(98, _)]) ⟨rfl, trivial⟩ (fin))))
              · intro hg6 fin
                exact gn rfl rfl rfl hg6 rfl rfl (pkF rfl hg6 rfl (drp (X := [(98, _)]) ⟨rfl, trivial⟩ (fin)))
              refine ag (nl (th (rt (rt_ ?_))))
              have hr0 : (((decide ((fromE s x) = 30)) && (decide ((resE s l) = 30))) && true) = true := by
                unfold fromE resE; simp [hc5]
              have hall : ∀ x0, (((decide ((fromE s x) = 30)) && (decide ((resE s l) = 30))) && true) = x0 → resAV [bl (((decide ((fromE s x) = 30)) && (decide ((resE s l) = 30))) && true)] = resAV [bl x0] := by rintro _ rfl; rfl
              exact rE () [.tmp 6] rfl [bl (((decide ((fromE s x) = 30)) && (decide ((resE s l) = 30))) && true)] ⟨.tmp rfl, trivial⟩ (hall _ hr0) trivial (by first | exact .inr rfl | exact .inl rfl)
            · try simp at hc5
              refine sk (th (sq (rg (mv (bi rfl rfl b_eql (mv (bi rfl rfl (b_eqlB T.bool4) (mv ?_))))))))
              apply gAnd (t := 104) (pd := 110) rfl
              rotate_left
              · intro hg7 fin
                have hg7' := hg7
                try simp at hg7'
                refine gy rfl rfl rfl hg7 (mv (gy rfl rfl rfl hg7 (mv ?_)))
                apply gOr (t := 106) (pd := 109) rfl
                rotate_left
                · intro hg8 fin
                  have hg8' := hg8
                  try simp at hg8'
                  exact gy rfl rfl rfl hg8 (mv (gy rfl rfl rfl hg8 (bi rfl rfl b_eql (gy rfl rfl rfl hg7 (pkF rfl hg8 rfl (drp (X := [(108, _), (107, _)]) ⟨rfl, rfl, trivial⟩ (fin)))))))
                · intro hg8 fin
                  exact gn rfl rfl rfl hg8 rfl rfl (gn rfl rfl rfl hg8 rfl rfl (gy rfl rfl rfl hg7 (pkT rfl hg8 rfl (drp (X := [(108, _), (107, _)]) ⟨rfl, rfl, trivial⟩ (fin)))))
                exact pkT rfl hg7 rfl (drp (X := [(109, _), (106, _), (105, _)]) ⟨rfl, rfl, rfl, trivial⟩ (fin))
              · intro hg7 fin
                exact gn rfl rfl rfl hg7 rfl rfl (gn rfl rfl rfl hg7 rfl rfl (gu rfl rfl rfl rfl rfl (gu rfl rfl rfl rfl rfl (gn rfl rfl rfl hg7 rfl rfl (pkF rfl hg7 rfl (drp (X := [(109, _), (108, _), (107, _), (106, _), (105, _)]) ⟨rfl, rfl, rfl, rfl, rfl, trivial⟩ (fin)))))))
              refine mv ?_
              apply gAnd (t := 111) (pd := 116) rfl
              rotate_left
              · intro hg9 fin
                have hg9' := hg9
                try simp at hg9'
                exact gy rfl rfl rfl hg9 (mv (gy rfl rfl rfl hg9 (bi rfl rfl b_eql (gy rfl rfl rfl hg9 (mv (gy rfl rfl rfl hg9 (bi rfl rfl (b_eqlB T.bool4) (pkT rfl hg9 rfl (drp (X := [(115, _), (114, _), (113, _), (112, _)]) ⟨rfl, rfl, rfl, rfl, trivial⟩ (fin))))))))))
              · intro hg9 fin
                exact gn rfl rfl rfl hg9 rfl rfl (gn rfl rfl rfl hg9 rfl rfl (gn rfl rfl rfl hg9 rfl rfl (gn rfl rfl rfl hg9 rfl rfl (pkF rfl hg9 rfl (drp (X := [(115, _), (114, _), (113, _), (112, _)]) ⟨rfl, rfl, rfl, rfl, trivial⟩ (fin))))))
              refine mv ?_
              apply gAnd (t := 117) (pd := 123) rfl
              rotate_left
              · intro hg10 fin
                have hg10' := hg10
                try simp at hg10'
                refine gy rfl rfl rfl hg10 (mv (gy rfl rfl rfl hg10 (mv ?_)))
                apply gOr (t := 119) (pd := 122) rfl
                rotate_left
                · intro hg11 fin
                  have hg11' := hg11
                  try simp at hg11'
                  exact gy rfl rfl rfl hg11 (mv (gy rfl rfl rfl hg11 (bi rfl rfl b_eql (gy rfl rfl rfl hg10 (pkF rfl hg11 rfl (drp (X := [(121, _), (120, _)]) ⟨rfl, rfl, trivial⟩ (fin)))))))
                · intro hg11 fin
                  exact gn rfl rfl rfl hg11 rfl rfl (gn rfl rfl rfl hg11 rfl rfl (gy rfl rfl rfl hg10 (pkT rfl hg11 rfl (drp (X := [(121, _), (120, _)]) ⟨rfl, rfl, trivial⟩ (fin)))))
                exact pkT rfl hg10 rfl (drp (X := [(122, _), (119, _), (118, _)]) ⟨rfl, rfl, rfl, trivial⟩ (fin))
              · intro hg10 fin
                exact gn rfl rfl rfl hg10 rfl rfl (gn rfl rfl rfl hg10 rfl rfl (gu rfl rfl rfl rfl rfl (gu rfl rfl rfl rfl rfl (gn rfl rfl rfl hg10 rfl rfl (pkF rfl hg10 rfl (drp (X := [(122, _), (121, _), (120, _), (119, _), (118, _)]) ⟨rfl, rfl, rfl, rfl, rfl, trivial⟩ (fin)))))))
              refine mv ?_
              apply gAnd (t := 124) (pd := 126) rfl
              rotate_left
              · intro hg12 fin
                have hg12' := hg12
                try simp at hg12'
                exact gy rfl rfl rfl hg12 (calT (ψ := tab) (φs := []) (φ := bl true) trivial (prog14.awake_ok) T.ent9 9999 rfl rfl (pkT rfl hg12 rfl (drp (X := [(125, _)]) ⟨rfl, trivial⟩ (fin))))
              · intro hg12 fin
                exact gn rfl rfl rfl hg12 rfl rfl (pkF rfl hg12 rfl (drp (X := [(125, _)]) ⟨rfl, trivial⟩ (fin)))
              refine ag (nl (th (rt ?_)))
              have hr0 : ((((((decide ((fromE s x) = 0)) == (((specOK s) && (decide (0 ≤ x))) && (decide (x < (s.states.length : Int))))) && ((((specOK s) && (decide (0 ≤ x))) && (decide (x < (s.states.length : Int)))) || (decide ((fromE s x) = 1)))) && ((decide ((resE s l) = 0)) == ((specOK s) && (wordOK (s.actions.length : Int) l)))) && (((specOK s) && (wordOK (s.actions.length : Int) l)) || (decide ((resE s l) = 1)))) && true) = true := by
                unfold fromE resE; rw [if_pos hc5, if_pos hc5, hc5]
                by_cases h1 : 0 ≤ x <;> by_cases h2 : x < (s.states.length : Int) <;> by_cases h3 : wordOK (s.actions.length : Int) l = true <;> simp [h1, h2, h3]
              have hall : ∀ x0, ((((((decide ((fromE s x) = 0)) == (((specOK s) && (decide (0 ≤ x))) && (decide (x < (s.states.length : Int))))) && ((((specOK s) && (decide (0 ≤ x))) && (decide (x < (s.states.length : Int)))) || (decide ((fromE s x) = 1)))) && ((decide ((resE s l) = 0)) == ((specOK s) && (wordOK (s.actions.length : Int) l)))) && (((specOK s) && (wordOK (s.actions.length : Int) l)) || (decide ((resE s l) = 1)))) && true) = x0 → resAV [bl ((((((decide ((fromE s x) = 0)) == (((specOK s) && (decide (0 ≤ x))) && (decide (x < (s.states.length : Int))))) && ((((specOK s) && (decide (0 ≤ x))) && (decide (x < (s.states.length : Int)))) || (decide ((fromE s x) = 1)))) && ((decide ((resE s l) = 0)) == ((specOK s) && (wordOK (s.actions.length : Int) l)))) && (((specOK s) && (wordOK (s.actions.length : Int) l)) || (decide ((resE s l) = 1)))) && true)] = resAV [bl x0] := by rintro _ rfl; rfl
              exact rE () [.tmp 6] rfl [bl ((((((decide ((fromE s x) = 0)) == (((specOK s) && (decide (0 ≤ x))) && (decide (x < (s.states.length : Int))))) && ((((specOK s) && (decide (0 ≤ x))) && (decide (x < (s.states.length : Int)))) || (decide ((fromE s x) = 1)))) && ((decide ((resE s l) = 0)) == ((specOK s) && (wordOK (s.actions.length : Int) l)))) && (((specOK s) && (wordOK (s.actions.length : Int) l)) || (decide ((resE s l) = 1)))) && true)] ⟨.tmp rfl, trivial⟩ (hall _ hr0) trivial (by first | exact .inr rfl | exact .inl rfl)
end prog16
end Go.Proofs.YtolpjmllmlahfaaDoor
