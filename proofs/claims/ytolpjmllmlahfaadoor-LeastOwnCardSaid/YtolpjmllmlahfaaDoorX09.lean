/- The walks of the functions and the plain laws. Own texts of this claim, packed: LawOpen, LawOpen2, TurnM, starts, prog15. -/
import Derived.Test.YtolpjmllmlahfaaDoorX07
import Derived.Test.YtolpjmllmlahfaaDoorX08
import Derived.Test.YtolpjmllmlahfaaDoorRows
import Derived.ProofKit
import Derived.LaidMore
import Derived.Lib.LaidTab
import Derived.Lib.SmallJoins
import Derived.OpenShut
import Derived.Stop.Joined
import Derived.Test.YtolpjmllmlahfaaDoorX06
import Derived.Test.YtolpjmllmlahfaaDoorX02
import Derived.Test.YtolpjmllmlahfaaDoorX04
set_option linter.all false
/- A law's argument of this seat opened: a specification. Under no conditions: general lemmas of this program. -/









namespace Go.Proofs.YtolpjmllmlahfaaDoor
open AL Go ref01 ref03 ref04 ref06 prog prog2 Itoa
open Go.ChangeShapes Go.WideShapes Go.ChangeAt Go.WideElems Go.RowKit
set_option maxRecDepth 100000
set_option linter.all false
namespace LawOpen
theorem laidOut : laidOutB Tryd.prog = true := by kernel_rfl
theorem own : ownKnob Tryd.prog.godebug = none := by kernel_rfl
theorem weights_agg {H : Type} {P : Program} {t : TypeId} {fs : Array Field} {ps : List (DataW H)} (h : P.underlying t = some (.struct fs)) : (DataW.agg ps : DataW H).weights P t = DataW.weightsEach P (fs.toList.map (·.type)) ps := by
  simp [DataW.weights, h]
section
variable {H : Type} {enc : TypeId × Value → H} {W : World}
attribute [local semireducible] agg in
theorem open_stateA {m : Nat} {cs : List Value} {y : DataW H × List MemPlace} (h : DataW.trod enc Tryd.prog W 0 (fun _ => true) true m 69 cs = some y) (hz : ∀ k ∈ y.1.weights Tryd.prog 69, k ≤ reachBytes) (hl : cs.length = 2) :
    ∃ x : SState, All2 W (allF W) (stateE x) cs ∧ ∀ t ∈ x.accept, t < 2 ^ 63 := by
  obtain ⟨y0, y1, n, hx, _, h0, h1⟩ := trod_struct2 Tryd.underlying69 h
  subst hx
  have hz : ∀ k ∈ y0.1.weights Tryd.prog 28 ++ (y1.1.weights Tryd.prog 28 ++ []), k ≤ reachBytes := by
    have e : (DataW.agg [y0.1, y1.1] : DataW H).weights Tryd.prog 69 = y0.1.weights Tryd.prog 28 ++ (y1.1.weights Tryd.prog 28 ++ []) := by
      rw [weights_agg Tryd.underlying69]
      simp [DataW.weightsEach]
    rw [← e]; exact hz
  have c28 : Tryd.prog.cellsOf 28 = 1 := by kernel_rfl
  have c3 : Tryd.prog.cellsOf 3 = 1 := by kernel_rfl
  have b3 : 1 ≤ Tryd.prog.bytesOf 3 := by have : Tryd.prog.bytesOf 3 = 8 := by kernel_rfl
                                          omega
  match cs, hl with
  | [v0, v1], _ =>
    have h0 : DataW.trod enc Tryd.prog W 0 (fun _ => true) true n 28 (([v0, v1].drop 0).take (Tryd.prog.cellsOf 28)) = some y0 := h0
    have h1 : DataW.trod enc Tryd.prog W 0 (fun _ => true) true n 28 (([v0, v1].drop 1).take (Tryd.prog.cellsOf 28)) = some y1 := h1
    rw [c28] at h0 h1
    obtain ⟨ys, g1, g2⟩ := open_intsA Tryd.underlying28 Tryd.underlying3 c3 b3 h0 (fun k hk => hz k (List.mem_append.2 (.inl hk)))
    obtain ⟨zs, g3, _⟩ := open_intsA Tryd.underlying28 Tryd.underlying3 c3 b3 h1 (fun k hk => hz k (List.mem_append.2 (.inr (List.mem_append.2 (.inl hk)))))
    exact ⟨⟨ys, zs⟩, ⟨g1, g3, trivial⟩, fun t ht => by have := g2 t ht; omega⟩
attribute [local semireducible] agg in
theorem open_specA {r : Reach} {b0 : Nat} {v : Value} {d : DataW H} {p : List MemPlace} (hv : Value.okWide Tryd.prog W r b0 25 v) (h : DataW.Trod enc Tryd.prog W 0 (fun _ => true) true 25 v d p) (hz : ∀ k ∈ d.weights Tryd.prog 25, k ≤ reachBytes) :
    ∃ s : SSpec, (spec s).p W (allF W) v ∧ smallSpec s := by
  obtain ⟨v0, v1, y0, y1, n, rfl, rfl, rfl, h0, h1⟩ := Go.Joins.open_agg2 Tryd.underlying25 (by kernel_rfl) (by kernel_rfl) hv h
  have hz : ∀ k ∈ y0.1.weights Tryd.prog 22 ++ (y1.1.weights Tryd.prog 23 ++ []), k ≤ reachBytes := by
    have e : (DataW.agg [y0.1, y1.1] : DataW H).weights Tryd.prog 25 = y0.1.weights Tryd.prog 22 ++ (y1.1.weights Tryd.prog 23 ++ []) := by
      rw [weights_agg Tryd.underlying25]
      simp [DataW.weightsEach]
    rw [← e]; exact hz
  have c9 : Tryd.prog.cellsOf 9 = 1 := by kernel_rfl
  have b9 : 1 ≤ Tryd.prog.bytesOf 9 := by have : Tryd.prog.bytesOf 9 = 16 := by kernel_rfl
                                          omega
  have c69 : Tryd.prog.cellsOf 69 = 2 := by kernel_rfl
  have b69 : 1 ≤ Tryd.prog.bytesOf 69 := by have : Tryd.prog.bytesOf 69 = 48 := by kernel_rfl
                                            omega
  obtain ⟨al, g1⟩ := open_strsA Tryd.underlying22 Tryd.underlying9 c9 b9 h0 (fun k hk => hz k (List.mem_append.2 (.inl hk)))
  obtain ⟨xs, g2, g3⟩ := open_slA (n := 2) (E := stateE) Tryd.underlying23 c69 (by decide) b69 h1 (fun k hk => hz k (List.mem_append.2 (.inr (List.mem_append.2 (.inl hk))))) (fun x => ∀ t ∈ x.accept, t < 2 ^ 63) (fun m cs y hy hw hl => open_stateA hy hw hl)
  refine ⟨⟨al, xs⟩, ⟨[v0, v1], rfl, g1, g2, trivial⟩, fun k hk i hi => ?_⟩
  have hk : k < xs.length := hk
  have hi : i < (ix xs k).accept.length := hi
  exact g3 (ix xs k) (Rungs.ix_memS hk) _ (Rungs.ix_mem hi)
end
abbrev laid3 : List (String × DataW Unit) := [("math/bits.deBruijn32tab", Rows.laid_math_bits_deBruijn32tab), ("math/bits.deBruijn64tab", Rows.laid_math_bits_deBruijn64tab), ("internal/strconv.uint64pow10", Rows.laid_internal_strconv_uint64pow10)]
theorem tab_of_laid {W : World} (h : laidMetH Tryd.prog laid3 W) (v : Value) : tab.p W (allF W) v := by
  rw [MakeChecks.laidMetH_plain _ _ _ (by kernel_rfl)] at h
  obtain ⟨ps, ⟨g0, t0, cs0, f0, p0, q0, hg0, ht0, hv0, hd0, ⟨g1, t1, cs1, f1, p1, q1, hg1, ht1, hv1, hd1, ⟨g2, t2, cs2, f2, p2, q2, hg2, ht2, hv2, hd2, _, _⟩, _⟩, _⟩, _, _⟩ := h
  have e0 : g2 = 0 := Option.some.inj (hg2.symm.trans (show Tryd.prog.globalNamed "internal/strconv.uint64pow10" = some 0 by kernel_rfl))
  subst e0
  have e1 : t2 = 208 := Option.some.inj (ht2.symm.trans (show (Tryd.prog.globals[0]?).map (·.type) = some 208 by kernel_rfl))
  subst e1
  have hc := Lib.cells_of_tab (zs := Lib.pow10Tab) (k := .u64) Tryd.underlying208 Tryd.underlying168 (by kernel_rfl) (by kernel_rfl) hd2
  refine ⟨0, by kernel_rfl, ?_, ?_⟩
  · have h2 := hv2
    unfold World.var? at h2
    rw [show Tryd.prog.globalNamed "internal/strconv.uint64pow10" = some 0 by kernel_rfl] at h2
    simp only [Option.bind_some] at h2
    show 0 < W.heap.size
    cases hh : W.heap[0]? with
    | none => rw [hh] at h2; cases h2
    | some o => exact (Array.getElem?_eq_some_iff.1 hh).1
  · unfold Lib.TabIs tabName
    rw [hv2, ← hc]
end LawOpen
end Go.Proofs.YtolpjmllmlahfaaDoor

/- A law's arguments of this seat opened: a word. Under no conditions: general lemmas of this program. -/

namespace Go.Proofs.YtolpjmllmlahfaaDoor
open AL Go ref01 ref03 ref04 ref06 prog prog2 Itoa LawOpen
open Go.ChangeShapes Go.WideShapes Go.ChangeAt Go.WideElems Go.RowKit
set_option maxRecDepth 100000
set_option linter.all false
namespace LawOpen2
theorem door_met (os : Os) (args : Array Value) : laidMetH Tryd.prog laid3 ((World.doorLaid Tryd.prog 400 os).forCall (fun _ _ => 0) ⟨#[], args, []⟩).memory :=
  laidMetH_of_parts3 (fuel := 8) (laidMet_of_run' 8 (by kernel_rfl) (by kernel_rfl)) (by kernel_rfl) (by kernel_rfl)
theorem open_wordA {H : Type} {enc : TypeId × Value → H} {W : World} {r : Reach} {b0 : Nat} {v : Value} {d : DataW H} {p : List MemPlace} (hv : Value.okWide Tryd.prog W r b0 28 v) (h : DataW.Trod enc Tryd.prog W 0 (fun _ => true) true 28 v d p) (hz : ∀ k ∈ d.weights Tryd.prog 28, k ≤ reachBytes) :
    ∃ l : List Int, (ints l).p W (allF W) v ∧ l.length ≤ 17592186044416 := by
  obtain ⟨A, n, c, rfl⟩ := okWide_slice Tryd.underlying28 hv
  obtain ⟨fuel, hf⟩ := h
  have b3 : Tryd.prog.bytesOf 3 = 8 := by kernel_rfl
  obtain ⟨ys, g1, _, g3⟩ := open_intsW Tryd.underlying28 Tryd.underlying3 (by kernel_rfl) (by omega) hf hz
  rw [b3] at g3
  exact ⟨ys, g1, by unfold maxL at g3; omega⟩
end LawOpen2
end Go.Proofs.YtolpjmllmlahfaaDoor

/- The plain law of another first state: the states 0 and x change places. -/


namespace Go.Proofs.YtolpjmllmlahfaaDoor
open AL Go ref01 ref03 ref04 ref06 MergeM Rungs
set_option linter.all false
namespace TurnM
def swapI (x k : Int) : Int := if k = 0 then x else if k = x then 0 else k
def turnState (x : Int) (y : SState) : SState := ⟨y.accept, y.next.map (swapI x)⟩
def turnedS (s : SSpec) (x : Int) : SSpec := ⟨s.actions, (List.range s.states.length).map fun (i : Nat) => turnState x (ix s.states (swapI x (i : Int)).toNat)⟩
theorem swapI_lt {x k : Int} {n : Nat} (h0 : 0 ≤ x) (hx : x < (n : Int)) (hk0 : 0 ≤ k) (hk : k < (n : Int)) : 0 ≤ swapI x k ∧ swapI x k < (n : Int) := by
  unfold swapI; split
  · omega
  · split <;> omega
theorem swapI_bd {x k : Int} {n : Nat} (h0 : 0 ≤ x) (hx : x < (n : Int)) (hk0 : -1 ≤ k) (hk : k < (n : Int)) : -1 ≤ swapI x k ∧ swapI x k < (n : Int) ∧ (0 ≤ swapI x k ↔ 0 ≤ k) := by
  unfold swapI; split
  · omega
  · split <;> omega
theorem swapI_swap {x k : Int} (h0 : 0 ≤ x) : swapI x (swapI x k) = k := by
  unfold swapI
  repeat' split
  all_goals omega
theorem ix_mapS {α β : Type} [Inhabited α] [Inhabited β] {f : α → β} {l : List α} {k : Nat} (h : k < l.length) : ix (l.map f) k = f (ix l k) := by
  rw [ix_get (by simpa using h), ix_get h, List.getElem_map]
theorem drop_ixS {α : Type} [Inhabited α] {l : List α} {k : Nat} (h : k < l.length) : l.drop k = ix l k :: l.drop (k + 1) := by
  rw [ix_get h]; exact List.drop_eq_getElem_cons h
theorem mapd_ix {α : Type} [Inhabited α] {f : α → α} {l : List α} {k : Nat} (h : k < l.length) : ix ((l.take k).map f ++ l.drop k) k = ix l k := by
  have hl : ((l.take k).map f).length = k := by simp; omega
  rw [drop_ixS h]
  unfold ix
  rw [List.getD_eq_getElem?_getD, List.getElem?_append_right (by omega), hl, Nat.sub_self]; rfl
theorem mapd_set {α : Type} [Inhabited α] {f : α → α} {l : List α} {k : Nat} (h : k < l.length) : ((l.take k).map f ++ l.drop k).set k (f (ix l k)) = (l.take (k + 1)).map f ++ l.drop (k + 1) := by
  have hl : ((l.take k).map f).length = k := by simp; omega
  rw [drop_ixS h, List.set_append_right _ _ (by omega), hl, Nat.sub_self, List.set_cons_zero, take_s h, List.map_append]
  simp only [List.map_cons, List.map_nil, List.append_assoc, List.cons_append, List.nil_append]
theorem mapd_keep {α : Type} [Inhabited α] {f : α → α} {l : List α} {k : Nat} (h : k < l.length) (hf : f (ix l k) = ix l k) : (l.take k).map f ++ l.drop k = (l.take (k + 1)).map f ++ l.drop (k + 1) := by
  rw [drop_ixS h, take_s h, List.map_append]
  simp only [List.map_cons, List.map_nil, List.append_assoc, List.cons_append, List.nil_append, hf]
/-- Two places of a list changed. -/
theorem swap_list {α : Type} [Inhabited α] (l : List α) {x : Nat} (hx : x < l.length) : (l.set 0 (ix l x)).set x (ix l 0) = (List.range l.length).map fun (i : Nat) => ix l (swapI x (i : Int)).toNat := by
  apply List.ext_getElem
  · simp
  · intro i h1 h2
    simp only [List.length_set] at h1
    rw [List.getElem_map, List.getElem_range, List.getElem_set, List.getElem_set]
    unfold swapI
    by_cases e1 : x = i
    · subst e1
      rw [if_pos rfl]
      by_cases e2 : (x : Int) = 0
      · have : x = 0 := by omega
        subst this; rfl
      · rw [if_neg e2, if_pos rfl]; rfl
    · rw [if_neg e1]
      by_cases e2 : 0 = i
      · subst e2; simp
      · rw [if_neg e2, if_neg (by omega), if_neg (by omega), Int.toNat_natCast, ix_get h1]
theorem map_swap {α β : Type} [Inhabited α] [Inhabited β] (f : α → β) (l : List α) (i j : Nat) (hi : i < l.length) (hj : j < l.length) : ((l.set i (ix l j)).set j (ix l i)).map f = ((l.map f).set i (ix (l.map f) j)).set j (ix (l.map f) i) := by
  rw [List.map_set, List.map_set, ix_mapS hi, ix_mapS hj]
/-- What the reference makes: the pairs of what is accepted and of where it leads, changed and turned. -/
theorem swapped_eq {s : SSpec} {x : Nat} (hx : x < s.states.length) {ps : List (List Int × Value)} {nss : List (List Int)} (h1 : ps.map Prod.fst = s.states.map SState.accept) (h2 : nss = s.states.map SState.next) :
    ((((ps.set 0 (ix ps x)).set x (ix ps 0)).map Prod.fst).zip (((nss.set 0 (ix nss x)).set x (ix nss 0)).map (List.map (swapI x)))).map (fun p : List Int × List Int => [ints p.1] ++ [sl 1 intE p.2]) = (turnedS s (x : Int)).states.map stateE := by
  have hl : ps.length = s.states.length := by simpa using congrArg List.length h1
  have hn : nss.length = s.states.length := by rw [h2]; simp
  rw [map_swap Prod.fst ps 0 x (by omega) (by omega), h1, swap_list (s.states.map SState.accept) (by simpa using hx), swap_list nss (by omega)]
  apply List.ext_getElem
  · simp [turnedS, hn]
  · intro i g1 g2
    simp only [turnedS, List.length_map, List.length_range] at g2
    have hr := swapI_lt (x := (x : Int)) (k := (i : Int)) (n := s.states.length) (by omega) (by omega) (by omega) (by omega)
    simp only [List.getElem_map, List.getElem_zip, List.getElem_range, turnedS, turnState, stateE]
    rw [h2, ix_mapS (by omega), ix_mapS (by omega)]
    rfl
theorem turned_len {s : SSpec} {x : Int} : (turnedS s x).states.length = s.states.length := by simp [turnedS]
theorem turned_ix {s : SSpec} {x : Int} {i : Nat} (h : i < s.states.length) : ix (turnedS s x).states i = turnState x (ix s.states (swapI x i).toNat) := ix_map_range h
theorem turnedS_ok {s : SSpec} (hs : okSpec s) {x : Int} (h0 : 0 ≤ x) (hx : x < (s.states.length : Int)) : okSpec (turnedS s x) := by
  refine ⟨hs.acts, hs.n8, by rw [turned_len]; exact hs.few0, by rw [turned_len]; exact hs.few1, fun k hk => ?_⟩
  rw [turned_len] at hk ⊢
  rw [turned_ix hk]
  have hr := swapI_lt (x := x) (k := (k : Int)) h0 hx (by omega) (by omega)
  have h := hs.st (swapI x k).toNat (by omega)
  have hix : ∀ a, a < s.actions.length → ix ((ix s.states (swapI x k).toNat).next.map (swapI x)) a = swapI x (ix (ix s.states (swapI x k).toNat).next a) := fun a ha => ix_mapS (by rw [h.len]; exact ha)
  refine ⟨by show (List.map _ _).length = _; rw [List.length_map]; exact h.len, fun a ha => ?_, h.ac, fun i hi a ha => ?_, h.rise⟩
  · show -1 ≤ ix (List.map _ _) a ∧ ix (List.map _ _) a < _
    rw [hix a ha]
    have := h.nx a ha
    have := swapI_bd h0 hx this.1 this.2
    omega
  · obtain ⟨g1, g2⟩ := h.go i hi a ha
    refine ⟨g1, ?_⟩
    show 0 ≤ ix (List.map _ _) a
    rw [hix a g1]
    have := h.nx a g1
    have := swapI_bd h0 hx this.1 this.2
    omega
end TurnM
end Go.Proofs.YtolpjmllmlahfaaDoor




namespace Go.Proofs.YtolpjmllmlahfaaDoor
open AL Go
set_option maxRecDepth 100000
set_option linter.all false

open ref01 ref03 ref04 ref06 prog2 Part TurnM
def nxE : List Int × Value → List AV := fun p => [ints p.1, eqv (sv p.2)]
instance (x : List Int × Value) : OneAll (nxE x) := inferInstanceAs (OneAll [ints x.1, eqv (sv x.2)])
abbrev NxI (s : SSpec) : Type := { i : Value × List (List Int × Value) // i.2.map Prod.fst = s.states.map SState.accept }
def wordOK (n : Int) (l : List Int) : Bool := decide ((l.length : Int) ≤ 10000) && l.all fun a => decide (0 ≤ a) && decide (a < n)
theorem word_ix {n : Int} {l : List Int} (h : wordOK n l = true) {k : Nat} (hk : k < l.length) : 0 ≤ ix l k ∧ ix l k < n := by
  unfold wordOK at h
  simp only [Bool.and_eq_true, decide_eq_true_eq] at h
  have := List.all_eq_true.1 h.2 (ix l k) (Rungs.ix_memS hk)
  simpa using this
def stepS (s : SSpec) (x a : Int) : Int := if x < 0 then -1 else ix (ix s.states x.toNat).next a.toNat
def goS (s : SSpec) (l : List Int) : Int := l.foldl (stepS s) 0
theorem go_succ {s : SSpec} {l : List Int} {k : Nat} (h : k < l.length) : (l.take (k + 1)).foldl (stepS s) 0 = stepS s ((l.take k).foldl (stepS s) 0) (ix l k) := by
  rw [take_s h, List.foldl_append]; rfl
theorem go_neg {s : SSpec} : ∀ (l : List Int) {x : Int}, x < 0 → l ≠ [] → l.foldl (stepS s) x = -1
  | [], _, _, h => absurd rfl h
  | [a], x, hx, _ => by show stepS s x a = -1; unfold stepS; rw [if_pos hx]
  | a :: b :: l, x, hx, _ => by
    show (b :: l).foldl (stepS s) (stepS s x a) = -1
    exact go_neg (b :: l) (by unfold stepS; rw [if_pos hx]; omega) (by simp)
theorem go_cut {s : SSpec} {l : List Int} {k : Nat} (hk : k < l.length) (h : (l.take k).foldl (stepS s) 0 < 0) : goS s l = -1 := by
  unfold goS
  rw [← List.take_append_drop k l, List.foldl_append]
  exact go_neg _ h (by intro e; have := congrArg List.length e; simp at this; omega)
theorem go_bd {s : SSpec} (hs : okSpec s) {l : List Int} (hl : ∀ k, k < l.length → 0 ≤ ix l k ∧ ix l k < (s.actions.length : Int)) : ∀ k, k ≤ l.length → -1 ≤ (l.take k).foldl (stepS s) 0 ∧ (l.take k).foldl (stepS s) 0 < (s.states.length : Int)
  | 0, _ => by have := hs.few0; simp; omega
  | k + 1, h => by
    rw [go_succ (by omega)]
    have ih := go_bd hs hl k (by omega)
    have hn := hs.few0
    generalize (l.take k).foldl (stepS s) 0 = c at ih
    unfold stepS
    split
    · omega
    · have h2 := (hs.st c.toNat (by omega)).nx (ix l k).toNat (by have := hl k (by omega); omega)
      omega

namespace starts
namespace T
theorem z25 : ZeroIs Tryd.prog 25 [.slice none 0 0, .slice none 0 0] := zeroIs_of (by kernel_rfl)
theorem fld25_0 : FieldAt Tryd.prog 25 0 0 := fieldAt_of (by kernel_rfl)
theorem one22 : IsOne Tryd.prog 22 := isOne_of (by kernel_rfl)
theorem mk22 : MakeT Tryd.prog 22 9 1 16 [.string ⟨#[]⟩] := makeT_of (by kernel_rfl) (by kernel_rfl)
theorem st25 : StructT Tryd.prog 25 [(0, 1), (1, 1)] [.slice none 0 0, .slice none 0 0] := structT_of (by kernel_rfl) (by kernel_rfl)
theorem agg25 : IsAgg Tryd.prog 25 2 := isAgg_of (by kernel_rfl)
theorem fld25_1 : FieldAt Tryd.prog 25 1 1 := fieldAt_of (by kernel_rfl)
theorem one23 : IsOne Tryd.prog 23 := isOne_of (by kernel_rfl)
theorem sl23 : IsSlice Tryd.prog 23 69 2 := isSlice_of (by kernel_rfl)
theorem agg69 : IsAgg Tryd.prog 69 2 := isAgg_of (by kernel_rfl)
theorem z69 : ZeroIs Tryd.prog 69 [.slice none 0 0, .slice none 0 0] := zeroIs_of (by kernel_rfl)
theorem fld69_0 : FieldAt Tryd.prog 69 0 0 := fieldAt_of (by kernel_rfl)
theorem one28 : IsOne Tryd.prog 28 := isOne_of (by kernel_rfl)
theorem mk28 : MakeT Tryd.prog 28 3 1 8 [.int .i64 0] := makeT_of (by kernel_rfl) (by kernel_rfl)
theorem fld69_1 : FieldAt Tryd.prog 69 1 1 := fieldAt_of (by kernel_rfl)
theorem st69 : StructT Tryd.prog 69 [(0, 1), (1, 1)] [.slice none 0 0, .slice none 0 0] := structT_of (by kernel_rfl) (by kernel_rfl)
theorem mk23 : MakeT Tryd.prog 23 69 2 48 [.slice none 0 0, .slice none 0 0] := makeT_of (by kernel_rfl) (by kernel_rfl)
theorem mixed : Tryd.prog.follows .mixedOrders = true := by kernel_rfl
theorem ent14 : Ent Tryd.prog 14 := ent_of (by kernel_rfl)
theorem sl28 : IsSlice Tryd.prog 28 3 1 := isSlice_of (by kernel_rfl)
theorem one3 : IsOne Tryd.prog 3 := isOne_of (by kernel_rfl)
theorem ent45 : Ent Tryd.prog 45 := ent_of (by kernel_rfl)
theorem ent12 : Ent Tryd.prog 12 := ent_of (by kernel_rfl)
theorem ent44 : Ent Tryd.prog 44 := ent_of (by kernel_rfl)
end T

theorem CopyN_ok (s : SSpec) (hs : size s ≤ 1000000) :
    AL.Fn Tryd.prog 14 [spec s] [] (fun _ (i : NxI s) => agg [strs s.actions, osl 230 (sv i.1.1)]) (fun i => [(230, own (sv i.1.1) 69 2 nxE i.1.2), (231, bigown (i.1.2.map sv2) 3 1 intE (s.states.map SState.next) none)]) := by
  refine fnI Tryd.func14 rfl rfl (fun w0 F0 => ?_)
  obtain ⟨hb0, hb1⟩ := size_bd s
  refine fcC (inhS 0 rfl) (fun hS0 => ?_)
  obtain ⟨hsa0, hss0, hse0⟩ := spec_lens hS0
  refine sq (rg (bx (key := 1) (cs := [sl 1 strE s.actions, sl 2 stateE s.states]) rfl fun b1 => (al (key := 2) T.z25 (ex_cons (ex_cons (ex_nil))) fun b2 => (nl (th (sq (rg (fP rfl T.fld25_0 (lP rfl rfl rfl T.one22 (appendF (enc := strE) (ys := s.actions) rfl rfl T.mk22 (by unfold maxL; omega) (bd (css := [(0, _)]) T.st25 (ex_cons (ex_cons (ex_nil))) ⟨rfl, rfl, p1 (φ := sl 1 strE s.actions) rfl, trivial⟩ (al (key := 3) T.z25 (ex_cons (ex_cons (ex_nil))) fun b3 => (sPA (cs' := [sl 1 strE s.actions, eqv (.slice none 0 0)]) rfl rfl rfl T.agg25 rfl rfl (nl (th (sq (sq (rg (fP rfl T.fld25_1 (lP rfl rfl rfl T.one23 (fc (slenI 11 rfl) fun hm11 => (lnF rfl T.sl23 (mv (nl (th (bk ?_))))))))))))))))))))))))))
  refine nwC 230 69 2 nxE (kncC 3 1 (osl 230 (.slice none 0 0)) rfl rfl eq_osl (nbBC 231 0 3 1 intE ?_))
  have hI0_0 : 0 ≤ s.states.length := by
    first | omega | simp
  have hI0_1 : ([] : List (List Int × Value)).map Prod.fst = (s.states.take 0).map SState.accept ∧ ([] : List (List Int)) = (s.states.take 0).map SState.next := by
    exact ⟨rfl, rfl⟩
  refine lp (κ := Nat × Value × (List (List Int × Value)) × (List (List Int))) (fun p => [(2, ptr 2 b2 0), (3, ptr 3 b3 0), (11, sl 2 stateE s.states), (12, int (s.states.length : Int)), (13, int (p.1 : Int))]) (fun p => [(1, cell b1 [sl 1 strE s.actions, sl 2 stateE s.states]), (2, cell b2 [eqv (.slice none 0 0), eqv (.slice none 0 0)]), (3, cell b3 [sl 1 strE s.actions, osl 230 p.2.1]), (230, own p.2.1 69 2 nxE p.2.2.1), (231, bigown (p.2.2.1.map sv2) 3 1 intE p.2.2.2 none)]) (fun p => (p.1 ≤ s.states.length) ∧ (p.2.2.1.map Prod.fst = (s.states.take p.1).map SState.accept ∧ p.2.2.2 = (s.states.take p.1).map SState.next)) (fun p => s.states.length - p.1) ⟨0, (.slice none 0 0), ([] : List (List Int × Value)), ([] : List (List Int))⟩ ⟨hI0_0, hI0_1⟩ ⟨id, id, id, id, id, trivial⟩ ⟨⟨rfl, id⟩, ⟨rfl, id⟩, ⟨rfl, id⟩, ⟨rfl, id⟩, ⟨rfl, id⟩, trivial⟩ ?_
  intro ⟨k, v, ps, nss⟩ hG0
  obtain ⟨hk0, hI0⟩ : (k ≤ s.states.length) ∧ (ps.map Prod.fst = (s.states.take k).map SState.accept ∧ nss = (s.states.take k).map SState.next) := hG0
  show Ct _ _ _ _ [(2, ptr 2 b2 0), (3, ptr 3 b3 0), (11, sl 2 stateE s.states), (12, int (s.states.length : Int)), (13, int (k : Int))] [(1, cell b1 [sl 1 strE s.actions, sl 2 stateE s.states]), (2, cell b2 [eqv (.slice none 0 0), eqv (.slice none 0 0)]), (3, cell b3 [sl 1 strE s.actions, osl 230 v]), (230, own v 69 2 nxE ps), (231, bigown (ps.map sv2) 3 1 intE nss none)] _
  have hlen : ps.length ≤ k := by have := congrArg List.length hI0.1; simp at this; omega
  refine sq (rg (bi rfl rfl b_lss (nl (th (sq ?_)))))
  refine cd rfl (fun hc0 => ?_) (fun hc0 => ?_)
  · try simp at hc0
    have hb2 := hb1 k (by omega)
    refine sk (th (sq (bk (sq (rg (iF rfl rfl T.sl23 (by omega) (by first | exact gN (by omega) | exact gI (by omega) (by omega)) (lFA rfl T.agg69 (Nat.le_of_ble_eq_true rfl) (al (key := 5) T.z69 (ex_cons (ex_cons (ex_nil))) fun b5 => (sPA (cs' := [sl 1 intE ((ix s.states k).accept), sl 1 intE ((ix s.states k).next)]) rfl rfl rfl T.agg69 rfl rfl (nl (th ?_)))))))))))
    refine drH (nh := 10) [0, 1, 0, 4, 12, 0, 32, 124, 252, 508, 1023, 2047, 4095] [(none, []), (none, [3]), (none, []), (none, [5]), (none, []), (none, []), (none, [5]), (some 240, []), (none, []), (none, [])] T.mixed (by kernel_rfl) (by kernel_rfl) ?_
    refine stv (d := 17) (fun β0 => ptr 3 b3 1) [] rfl (fun β β' hb => rfl) (fun β0 _ _ _ _ gq gh kq => fP (gq.1.trans rfl) T.fld25_1 kq) ?_
    refine stv (d := 18) (fun β0 => osl 230 v) [3] rfl (fun β β' hb => rfl) (fun β0 _ _ _ _ gq gh kq => lP (gq.1.trans rfl) (gh.1.trans rfl) rfl T.one23 kq) ?_
    refine stv (d := 19) (fun β0 => ptr 5 b5 0) [] rfl (fun β β' hb => rfl) (fun β0 _ _ _ _ gq gh kq => fP (gq.1.trans rfl) T.fld69_0 kq) ?_
    refine stv (d := 20) (fun β0 => sl 1 intE ((ix s.states k).accept)) [5] rfl (fun β β' hb => rfl) (fun β0 _ _ _ _ gq gh kq => lP (gq.1.trans rfl) (gh.1.trans rfl) rfl T.one28 kq) ?_
    refine stv (d := 21) (fun β0 => sl 1 intE ((ix s.states k).accept)) [] rfl (fun β β' hb => rfl) (fun β0 _ _ _ _ gq gh kq => appendF (enc := intE) (ys := (ix s.states k).accept) rfl (gq.1.trans rfl) T.mk28 (by unfold maxL; omega) kq) ?_
    refine stv (d := 22) (fun β0 => ptr 5 b5 1) [] rfl (fun β β' hb => rfl) (fun β0 _ _ _ _ gq gh kq => fP (gq.1.trans rfl) T.fld69_1 kq) ?_
    refine stv (d := 23) (fun β0 => sl 1 intE ((ix s.states k).next)) [5] rfl (fun β β' hb => rfl) (fun β0 _ _ _ _ gq gh kq => lP (gq.1.trans rfl) (gh.1.trans rfl) rfl T.one28 kq) ?_
    refine stc (d := 24) (e := 3) (n := 1) (enc := intE) (xs := (ix s.states k).next) 240 [] rfl (fun β0 _ _ _ _ gq gh kq => apO 240 (gq.1.trans rfl) rfl T.mk28 (by unfold maxL at *; omega) (by unfold maxL at *; omega) fun v => kq v) ?_
    refine stv (d := 25) (fun β0 => agg [sl 1 intE ((ix s.states k).accept), eqv (sv (sv (β0 7)))]) [] rfl (fun β β' hb => by first | rw [hb 7 rfl] | (dsimp only; rw [hb 7 rfl])) (fun β0 _ _ _ _ gq gh kq => bd (css := [(0, _), (1, _)]) T.st69 (ex_cons (ex_cons (ex_nil))) ⟨rfl, rfl, p1 (φ := sl 1 intE ((ix s.states k).accept)) (by exact (gq.1.trans rfl)), ⟨rfl, rfl, p1 (φ := osl 240 (sv (β0 7))) (by exact (gq.2.1.trans rfl)), trivial⟩⟩ (kd (φ' := agg [ints (ix s.states k).accept, eqv (sv (sv (β0 7)))]) (agg_le (cs := [ints (ix s.states k).accept, osl 240 (sv (β0 7))]) (ds := [ints (ix s.states k).accept, eqv (sv (sv (β0 7)))]) ⟨fun h => h, fun h => osl_sv h, trivial⟩) kq)) ?_
    refine stv (d := 26) (fun β0 => sl 2 nxE [((ix s.states k).accept, (sv (β0 7)))]) [] rfl (fun β β' hb => by first | rw [hb 7 rfl] | (dsimp only; rw [hb 7 rfl])) (fun β0 _ _ _ _ gq gh kq => bsE (enc := nxE) (xs := [((ix s.states k).accept, (sv (β0 7)))]) (css := [[sl 1 intE ((ix s.states k).accept), eqv (sv (sv (β0 7)))]]) T.mk23 ⟨rfl, rfl, pA (cs := [sl 1 intE ((ix s.states k).accept), eqv (sv (sv (β0 7)))]) (by exact (gq.1.trans rfl)), trivial⟩ rfl rfl rfl rfl kq) ?_
    refine pnH fun β0 => (ap (key := 230) (zs := [((ix s.states k).accept, (sv (β0 7)))]) osl_eq rfl rfl rfl T.mk23 (by unfold maxL at *; simp; omega) (by unfold maxL at *; simp; omega) fun v27 => (fP rfl T.fld25_1 (storePO rfl rfl rfl rfl T.one23 rfl (psQ (ps := ps) ((ix s.states k).accept) 231 240 rfl rfl (by decide) (nl (eb (th (rg (bi rfl rfl (b_add (by unfold I64; omega)) (mv (nl ?_)))))))))))
    have hN0 : (k + 1) ≤ s.states.length := by
      first | omega | simp_all
    have hN1 : (ps ++ [((ix s.states k).accept, (sv (β0 7)))]).map Prod.fst = (s.states.take (k + 1)).map SState.accept ∧ (nss ++ [(ix s.states k).next]) = (s.states.take (k + 1)).map SState.next := by
      rw [take_s (by omega), List.map_append, List.map_append, List.map_append, hI0.1, hI0.2]
      exact ⟨rfl, rfl⟩
    exact ln (⟨k + 1, v27, ps ++ [((ix s.states k).accept, (sv (β0 7)))], nss ++ [(ix s.states k).next]⟩ : Nat × Value × (List (List Int × Value)) × (List (List Int))) ⟨hN0, hN1⟩ (by first | omega | (dsimp only; omega)) ⟨id, id, id, id, id, trivial⟩ ⟨⟨rfl, id⟩, ⟨rfl, id⟩, ⟨rfl, id⟩, ⟨rfl, id⟩, ⟨rfl, id⟩, trivial⟩
  · try simp at hc0
    refine ex (xt_ (xt_ (xb (th (sq (rg (fc (svI 230 rfl) fun hsv230 => ?_)))))))
    rw [← hsv230]
    refine lPA rfl rfl T.agg25 rfl (sPA (cs' := [sl 1 strE s.actions, osl 230 (sv v)]) rfl rfl rfl T.agg25 rfl rfl (nl (th (rt ?_))))
    obtain ⟨hp1, hp2⟩ := hI0
    rw [show k = s.states.length by omega, List.take_length] at hp1 hp2
    subst hp2
    exact rE ⟨(v, ps), hp1⟩ [.cell 2 25] rfl [agg [sl 1 strE s.actions, osl 230 (sv v)]] ⟨.agg rfl rfl T.agg25 rfl rfl, trivial⟩ (rfl) ⟨⟨rfl, id⟩, ⟨rfl, id⟩, trivial⟩ (by first | exact .inr rfl | exact .inl rfl)

theorem SwappedN_ok (s : SSpec) (hs : okSpec s) (hz : size s ≤ 1000000) (x : Nat) (hx : x < s.states.length) :
    Fn0 Tryd.prog 45 [spec s, int (x : Int)] (spec (turnedS s (x : Int))) := by
  refine fnI Tryd.func45 rfl rfl (fun w0 F0 => ?_)
  have hf0 := hs.few0; have hf1 := hs.few1; have hn8 := hs.n8
  refine fcC (inhS 0 rfl) (fun hS0 => ?_)
  obtain ⟨hsa0, hss0, hse0⟩ := spec_lens hS0
  refine sq (rg (bx (key := 2) (cs := [sl 1 strE s.actions, sl 2 stateE s.states]) rfl fun b2 => (al (key := 4) T.z25 (ex_cons (ex_cons (ex_nil))) fun b4 => (nl (th (sq (rg (lPA rfl rfl T.agg25 rfl (cl (CopyN_ok s (by omega)) T.ent14 trivial fun N10 i10 => ?_)))))))))
  have hps := i10.2
  have hpl : i10.1.2.length = s.states.length := by simpa using congrArg List.length hps
  refine al (key := 5) T.z25 (ex_cons (ex_cons (ex_nil))) fun b5 => (sPA (cs' := [sl 1 strE s.actions, osl 230 (sv i10.1.1)]) rfl rfl rfl T.agg25 rfl rfl (nl (th (sq ?_))))
  refine drH (nh := 18) [0, 1, 0, 4, 0, 0, 32, 0, 224, 480, 0, 1024, 3072, 7168, 16355, 32739, 65535, 131071] [(none, []), (none, [5]), (none, []), (none, [5]), (none, []), (none, []), (none, [5]), (none, []), (none, [230]), (none, [230]), (none, []), (none, [5]), (none, [230]), (none, [230]), (none, [230]), (some 230, [230]), (none, [230]), (some 230, [230])] T.mixed (by kernel_rfl) (by kernel_rfl) ?_
  refine stv (d := 11) (fun β0 => ptr 5 b5 1) [] rfl (fun β β' hb => rfl) (fun β0 _ _ _ _ gq gh kq => fP (gq.1.trans rfl) T.fld25_1 kq) ?_
  refine stv (d := 12) (fun β0 => osl 230 (sv i10.1.1)) [5] rfl (fun β β' hb => rfl) (fun β0 _ _ _ _ gq gh kq => lP (gq.1.trans rfl) (gh.1.trans rfl) rfl T.one23 kq) ?_
  refine stv (d := 13) (fun β0 => ptr 5 b5 1) [] rfl (fun β β' hb => rfl) (fun β0 _ _ _ _ gq gh kq => fP (gq.1.trans rfl) T.fld25_1 kq) ?_
  refine stv (d := 14) (fun β0 => osl 230 (sv i10.1.1)) [5] rfl (fun β β' hb => rfl) (fun β0 _ _ _ _ gq gh kq => lP (gq.1.trans rfl) (gh.1.trans rfl) rfl T.one23 kq) ?_
  refine stv (d := 15) (fun β0 => int (x : Int)) [] rfl (fun β β' hb => rfl) (fun β0 _ _ _ _ gq gh kq => mv' (gq.1.trans rfl) kq) ?_
  refine stv (d := 16) (fun β0 => ptr 5 b5 1) [] rfl (fun β β' hb => rfl) (fun β0 _ _ _ _ gq gh kq => fP (gq.1.trans rfl) T.fld25_1 kq) ?_
  refine stv (d := 17) (fun β0 => osl 230 (sv i10.1.1)) [5] rfl (fun β β' hb => rfl) (fun β0 _ _ _ _ gq gh kq => lP (gq.1.trans rfl) (gh.1.trans rfl) rfl T.one23 kq) ?_
  refine stv (d := 18) (fun β0 => int (x : Int)) [] rfl (fun β β' hb => rfl) (fun β0 _ _ _ _ gq gh kq => mv' (gq.1.trans rfl) kq) ?_
  refine stv (d := 19) (fun β0 => eptr 230 (sv i10.1.1) 2 x 0) [230] rfl (fun β β' hb => rfl) (fun β0 _ _ _ _ gq gh kq => iO (gq.1.trans rfl) (gh.1.trans rfl) (gq.2.1.trans rfl) T.sl23 (by omega) (by omega) kq) ?_
  refine stv (d := 20) (fun β0 => agg [sl 1 intE ((ix i10.1.2 x).1), eqv (sv (ix i10.1.2 x).2)]) [230] rfl (fun β β' hb => rfl) (fun β0 _ _ _ _ gq gh kq => lOA (gq.1.trans rfl) (gh.1.trans rfl) (by first | exact gN (by omega) | exact gI (by omega) (by omega)) T.agg69 (by decide) kq) ?_
  refine stv (d := 21) (fun β0 => ptr 5 b5 1) [] rfl (fun β β' hb => rfl) (fun β0 _ _ _ _ gq gh kq => fP (gq.1.trans rfl) T.fld25_1 kq) ?_
  refine stv (d := 22) (fun β0 => osl 230 (sv i10.1.1)) [5] rfl (fun β β' hb => rfl) (fun β0 _ _ _ _ gq gh kq => lP (gq.1.trans rfl) (gh.1.trans rfl) rfl T.one23 kq) ?_
  refine stv (d := 23) (fun β0 => eptr 230 (sv i10.1.1) 2 0 0) [230] rfl (fun β β' hb => rfl) (fun β0 _ _ _ _ gq gh kq => iO (gq.1.trans rfl) (gh.1.trans rfl) rfl T.sl23 (by omega) (by omega) kq) ?_
  refine stv (d := 24) (fun β0 => agg [sl 1 intE ((ix i10.1.2 0).1), eqv (sv (ix i10.1.2 0).2)]) [230] rfl (fun β β' hb => rfl) (fun β0 _ _ _ _ gq gh kq => lOA (gq.1.trans rfl) (gh.1.trans rfl) (by first | exact gN (by omega) | exact gI (by omega) (by omega)) T.agg69 (by decide) kq) ?_
  refine stv (d := 25) (fun β0 => eptr 230 (sv i10.1.1) 2 0 0) [230] rfl (fun β β' hb => rfl) (fun β0 _ _ _ _ gq gh kq => iO (gq.1.trans rfl) (gh.1.trans rfl) rfl T.sl23 (by omega) (by omega) kq) ?_
  refine stw 230 (fun β0 => own (sv i10.1.1) 69 2 nxE (i10.1.2.set 0 (ix i10.1.2 x))) [230] rfl (fun β β' hb => rfl) (fun β0 _ _ _ _ gq gh kq => sOA (cs' := [sl 1 intE ((ix i10.1.2 x).1), eqv (sv (ix i10.1.2 x).2)]) (gq.1.trans rfl) (gh.1.trans rfl) (gq.2.1.trans rfl) T.agg69 rfl (gN (by (try simp); omega)) rfl (y' := (ix i10.1.2 x)) rfl kq) ?_
  refine stv (d := 26) (fun β0 => eptr 230 (sv i10.1.1) 2 x 0) [230] rfl (fun β β' hb => rfl) (fun β0 _ _ _ _ gq gh kq => iO (gq.1.trans rfl) (gh.1.trans rfl) (gq.2.1.trans rfl) T.sl23 (by omega) (by simp; omega) kq) ?_
  refine stw 230 (fun β0 => own (sv i10.1.1) 69 2 nxE ((i10.1.2.set 0 (ix i10.1.2 x)).set x (ix i10.1.2 0))) [230] rfl (fun β β' hb => rfl) (fun β0 _ _ _ _ gq gh kq => sOA (cs' := [sl 1 intE ((ix i10.1.2 0).1), eqv (sv (ix i10.1.2 0).2)]) (gq.1.trans rfl) (gh.1.trans rfl) (gq.2.1.trans rfl) T.agg69 rfl (gN (by (try simp); omega)) rfl (y' := (ix i10.1.2 0)) rfl kq) ?_
  refine pnH fun β0 => (nl (th (sq (sq (rg (swQ 231 0 x rfl (by omega) (by omega) (by simp; omega) (fP rfl T.fld25_1 (lP rfl rfl rfl T.one23 (lnO rfl rfl T.sl23 (mv (nl (th (bk ?_)))))))))))))
  have hI0_0 : 0 ≤ s.states.length := by
    first | omega | simp
  have hI0_1 : (((s.states.map SState.next).set 0 (ix (s.states.map SState.next) x)).set x (ix (s.states.map SState.next) 0)) = ((((s.states.map SState.next).set 0 (ix (s.states.map SState.next) x)).set x (ix (s.states.map SState.next) 0)).take 0).map (List.map (swapI (x : Int))) ++ (((s.states.map SState.next).set 0 (ix (s.states.map SState.next) x)).set x (ix (s.states.map SState.next) 0)).drop 0 := by
    rfl
  refine lp (κ := Nat × (List (List Int))) (fun p => [(1, int (x : Int)), (4, ptr 4 b4 0), (5, ptr 5 b5 0), (29, int (((i10.1.2.set 0 (ix i10.1.2 x)).set x (ix i10.1.2 0)).length : Int)), (30, int (p.1 : Int))]) (fun p => [(2, cell b2 [sl 1 strE s.actions, sl 2 stateE s.states]), (4, cell b4 [eqv (.slice none 0 0), eqv (.slice none 0 0)]), (5, cell b5 [sl 1 strE s.actions, osl 230 (sv i10.1.1)]), (230, own (sv i10.1.1) 69 2 nxE ((i10.1.2.set 0 (ix i10.1.2 x)).set x (ix i10.1.2 0))), (231, bigown (((i10.1.2.set 0 (ix i10.1.2 x)).set x (ix i10.1.2 0)).map sv2) 3 1 intE p.2 none)]) (fun p => (p.1 ≤ s.states.length) ∧ (p.2 = ((((s.states.map SState.next).set 0 (ix (s.states.map SState.next) x)).set x (ix (s.states.map SState.next) 0)).take p.1).map (List.map (swapI (x : Int))) ++ (((s.states.map SState.next).set 0 (ix (s.states.map SState.next) x)).set x (ix (s.states.map SState.next) 0)).drop p.1)) (fun p => s.states.length - p.1) ⟨0, ((s.states.map SState.next).set 0 (ix (s.states.map SState.next) x)).set x (ix (s.states.map SState.next) 0)⟩ ⟨hI0_0, hI0_1⟩ ⟨id, id, id, id, id, trivial⟩ ⟨⟨rfl, id⟩, ⟨rfl, id⟩, ⟨rfl, id⟩, ⟨rfl, id⟩, ⟨rfl, id⟩, trivial⟩ ?_
  intro ⟨k, ns⟩ hG0
  obtain ⟨hk0, hI0⟩ : (k ≤ s.states.length) ∧ (ns = ((((s.states.map SState.next).set 0 (ix (s.states.map SState.next) x)).set x (ix (s.states.map SState.next) 0)).take k).map (List.map (swapI (x : Int))) ++ (((s.states.map SState.next).set 0 (ix (s.states.map SState.next) x)).set x (ix (s.states.map SState.next) 0)).drop k) := hG0
  show Ct _ _ _ _ [(1, int (x : Int)), (4, ptr 4 b4 0), (5, ptr 5 b5 0), (29, int (((i10.1.2.set 0 (ix i10.1.2 x)).set x (ix i10.1.2 0)).length : Int)), (30, int (k : Int))] [(2, cell b2 [sl 1 strE s.actions, sl 2 stateE s.states]), (4, cell b4 [eqv (.slice none 0 0), eqv (.slice none 0 0)]), (5, cell b5 [sl 1 strE s.actions, osl 230 (sv i10.1.1)]), (230, own (sv i10.1.1) 69 2 nxE ((i10.1.2.set 0 (ix i10.1.2 x)).set x (ix i10.1.2 0))), (231, bigown (((i10.1.2.set 0 (ix i10.1.2 x)).set x (ix i10.1.2 0)).map sv2) 3 1 intE ns none)] _
  have hnsl : ns.length = s.states.length := by rw [hI0]; simp; omega
  have hPl : ((i10.1.2.set 0 (ix i10.1.2 x)).set x (ix i10.1.2 0)).length = s.states.length := by simp; omega
  refine sq (rg (bi rfl rfl b_lss (nl (th (sq ?_)))))
  refine cd rfl (fun hc0 => ?_) (fun hc0 => ?_)
  · try simp at hc0
    refine sk (th (sq (bk (sq (rg (mv (ag (nl (th (sq (rg (fP rfl T.fld25_1 (lP rfl rfl rfl T.one23 (mv (iO rfl rfl rfl T.sl23 (by omega) (by omega) (fO rfl T.fld69_1 (lO rfl rfl (by first | exact gN (by omega) | exact gI (by omega) (by omega)) rfl T.one28 (tkQ 231 381 k rfl rfl (by decide) (by simp; omega) (gK (by omega)) (kn 38 (osl 381 (sv (ix ((i10.1.2.set 0 (ix i10.1.2 x)).set x (ix i10.1.2 0)) k).2)) rfl eq_osl ?_)))))))))))))))))))
    refine fc (olen 381 rfl) (fun hol => ?_)
    have hol2 : (ix ns k).length ≤ 140737488355328 := hol
    refine lnO rfl rfl T.sl28 (mv (nl (th (bk ?_))))
    have hI1_0 : 0 ≤ (ix ns k).length := by
      first | omega | simp
    have hI1_1 : (ix ns k) = ((ix ns k).take 0).map (swapI (x : Int)) ++ (ix ns k).drop 0 := by
      simp
    refine lp (κ := Nat × (List Int)) (fun p => [(1, int (x : Int)), (4, ptr 4 b4 0), (5, ptr 5 b5 0), (6, int (k : Int)), (29, int (((i10.1.2.set 0 (ix i10.1.2 x)).set x (ix i10.1.2 0)).length : Int)), (30, int (k : Int)), (38, osl 381 (sv (ix ((i10.1.2.set 0 (ix i10.1.2 x)).set x (ix i10.1.2 0)) k).2)), (39, int ((ix ns k).length : Int)), (40, int (p.1 : Int))]) (fun p => [(2, cell b2 [sl 1 strE s.actions, sl 2 stateE s.states]), (4, cell b4 [eqv (.slice none 0 0), eqv (.slice none 0 0)]), (5, cell b5 [sl 1 strE s.actions, osl 230 (sv i10.1.1)]), (230, own (sv i10.1.1) 69 2 nxE ((i10.1.2.set 0 (ix i10.1.2 x)).set x (ix i10.1.2 0))), (231, bigown (((i10.1.2.set 0 (ix i10.1.2 x)).set x (ix i10.1.2 0)).map sv2) 3 1 intE ns (some k)), (381, own (sv (ix ((i10.1.2.set 0 (ix i10.1.2 x)).set x (ix i10.1.2 0)) k).2) 3 1 intE p.2)]) (fun p => (p.1 ≤ (ix ns k).length) ∧ (p.2 = ((ix ns k).take p.1).map (swapI (x : Int)) ++ (ix ns k).drop p.1)) (fun p => (ix ns k).length - p.1) ⟨0, ix ns k⟩ ⟨hI1_0, hI1_1⟩ ⟨id, id, id, id, id, id, id, id, id, trivial⟩ ⟨⟨rfl, id⟩, ⟨rfl, id⟩, ⟨rfl, id⟩, ⟨rfl, id⟩, ⟨rfl, id⟩, ⟨rfl, id⟩, trivial⟩ ?_
    intro ⟨k1, nx⟩ hG1
    obtain ⟨hk1, hI1⟩ : (k1 ≤ (ix ns k).length) ∧ (nx = ((ix ns k).take k1).map (swapI (x : Int)) ++ (ix ns k).drop k1) := hG1
    show Ct _ _ _ _ [(1, int (x : Int)), (4, ptr 4 b4 0), (5, ptr 5 b5 0), (6, int (k : Int)), (29, int (((i10.1.2.set 0 (ix i10.1.2 x)).set x (ix i10.1.2 0)).length : Int)), (30, int (k : Int)), (38, osl 381 (sv (ix ((i10.1.2.set 0 (ix i10.1.2 x)).set x (ix i10.1.2 0)) k).2)), (39, int ((ix ns k).length : Int)), (40, int (k1 : Int))] [(2, cell b2 [sl 1 strE s.actions, sl 2 stateE s.states]), (4, cell b4 [eqv (.slice none 0 0), eqv (.slice none 0 0)]), (5, cell b5 [sl 1 strE s.actions, osl 230 (sv i10.1.1)]), (230, own (sv i10.1.1) 69 2 nxE ((i10.1.2.set 0 (ix i10.1.2 x)).set x (ix i10.1.2 0))), (231, bigown (((i10.1.2.set 0 (ix i10.1.2 x)).set x (ix i10.1.2 0)).map sv2) 3 1 intE ns (some k)), (381, own (sv (ix ((i10.1.2.set 0 (ix i10.1.2 x)).set x (ix i10.1.2 0)) k).2) 3 1 intE nx)] _
    have hnxl : nx.length = (ix ns k).length := by rw [hI1]; simp; omega
    refine sq (rg (bi rfl rfl b_lss (nl (th (sq ?_)))))
    refine cd rfl (fun hc1 => ?_) (fun hc1 => ?_)
    · try simp at hc1
      have hv : ix nx k1 = ix (ix ns k) k1 := by rw [hI1]; exact mapd_ix (by omega)
      refine sk (th (sq (bk (sq (rg (mv (iO rfl rfl rfl T.sl28 (by omega) (by omega) (lO rfl rfl (by first | exact gN (by omega) | exact gI (by omega) (by omega)) rfl T.one3 (ag (ag (nl (th (sq (rg (mv (bi rfl rfl b_eql (nl (th ?_))))))))))))))))))
      refine cd rfl (fun hc2 => ?_) (fun hc2 => ?_)
      · try simp at hc2
        refine rg (fP rfl T.fld25_1 (lP rfl rfl rfl T.one23 (mv (iO rfl rfl rfl T.sl23 (by omega) (by omega) (fO rfl T.fld69_1 (lO rfl rfl (by first | exact gN (by omega) | exact gI (by omega) (by omega)) rfl T.one28 (kn 52 (osl 381 (sv (ix ((i10.1.2.set 0 (ix i10.1.2 x)).set x (ix i10.1.2 0)) k).2)) rfl (eq_osl) (mv (mv (iO rfl rfl rfl T.sl28 (by omega) (by omega) (sO (φ := int (x : Int)) rfl rfl rfl T.one3 (by first | exact gN (by omega) | exact gI (by omega) (by omega)) rfl (y' := (x : Int)) rfl (nl (eb (th (rg (bi rfl rfl (b_add (by unfold I64; omega)) (mv (nl ?_))))))))))))))))))
        have hN0 : (k1 + 1) ≤ (ix ns k).length := by
          first | omega | simp_all
        have hN1 : (nx.set k1 (x : Int)) = ((ix ns k).take (k1 + 1)).map (swapI (x : Int)) ++ (ix ns k).drop (k1 + 1) := by
          rw [hI1, ← mapd_set (by omega)]
          congr 1
          unfold swapI
          rw [hv] at hc2
          rw [if_pos hc2]
        exact ln (⟨k1 + 1, nx.set k1 (x : Int)⟩ : Nat × (List Int)) ⟨hN0, hN1⟩ (by first | omega | (dsimp only; omega)) ⟨id, id, id, id, id, id, id, id, id, trivial⟩ ⟨⟨rfl, id⟩, ⟨rfl, id⟩, ⟨rfl, id⟩, ⟨rfl, id⟩, ⟨rfl, id⟩, ⟨rfl, id⟩, trivial⟩
      · try simp at hc2
        refine sq (rg (mv (mv (bi rfl rfl b_eql (nl (th ?_))))))
        refine cd rfl (fun hc3 => ?_) (fun hc3 => ?_)
        · try simp at hc3
          refine rg (fP rfl T.fld25_1 (lP rfl rfl rfl T.one23 (mv (iO rfl rfl rfl T.sl23 (by omega) (by omega) (fO rfl T.fld69_1 (lO rfl rfl (by first | exact gN (by omega) | exact gI (by omega) (by omega)) rfl T.one28 (kn 64 (osl 381 (sv (ix ((i10.1.2.set 0 (ix i10.1.2 x)).set x (ix i10.1.2 0)) k).2)) rfl (eq_osl) (mv (iO rfl rfl rfl T.sl28 (by omega) (by omega) (sO (φ := int 0) rfl rfl rfl T.one3 (by first | exact gN (by omega) | exact gI (by omega) (by omega)) rfl (y' := 0) rfl (nl (eb (th (rg (bi rfl rfl (b_add (by unfold I64; omega)) (mv (nl ?_)))))))))))))))))
          have hN0 : (k1 + 1) ≤ (ix ns k).length := by
            first | omega | simp_all
          have hN1 : (nx.set k1 0) = ((ix ns k).take (k1 + 1)).map (swapI (x : Int)) ++ (ix ns k).drop (k1 + 1) := by
            rw [hI1, ← mapd_set (by omega)]
            congr 1
            unfold swapI
            rw [hv] at hc2 hc3
            rw [if_neg hc2, if_pos hc3]
          exact ln (⟨k1 + 1, nx.set k1 0⟩ : Nat × (List Int)) ⟨hN0, hN1⟩ (by first | omega | (dsimp only; omega)) ⟨id, id, id, id, id, id, id, id, id, trivial⟩ ⟨⟨rfl, id⟩, ⟨rfl, id⟩, ⟨rfl, id⟩, ⟨rfl, id⟩, ⟨rfl, id⟩, ⟨rfl, id⟩, trivial⟩
        · try simp at hc3
          refine sk (eb (th (rg (bi rfl rfl (b_add (by unfold I64; omega)) (mv (nl ?_))))))
          have hN0 : (k1 + 1) ≤ (ix ns k).length := by
            first | omega | simp_all
          have hN1 : nx = ((ix ns k).take (k1 + 1)).map (swapI (x : Int)) ++ (ix ns k).drop (k1 + 1) := by
            rw [hI1]
            exact mapd_keep (by omega) (by unfold swapI; rw [hv] at hc2 hc3; rw [if_neg hc2, if_neg hc3])
          exact ln (⟨k1 + 1, nx⟩ : Nat × (List Int)) ⟨hN0, hN1⟩ (by first | omega | (dsimp only; omega)) ⟨id, id, id, id, id, id, id, id, id, trivial⟩ ⟨⟨rfl, id⟩, ⟨rfl, id⟩, ⟨rfl, id⟩, ⟨rfl, id⟩, ⟨rfl, id⟩, ⟨rfl, id⟩, trivial⟩
    · try simp at hc1
      refine ex (xt_ (xt_ (xb (eb (th (rg (gvQ 231 381 k rfl rfl (by decide) (by simp; omega) (bi rfl rfl (b_add (by unfold I64; omega)) (mv (nl ?_))))))))))
      have hN0 : (k + 1) ≤ s.states.length := by
        first | omega | simp_all
      have hN1 : (ns.set k nx) = ((((s.states.map SState.next).set 0 (ix (s.states.map SState.next) x)).set x (ix (s.states.map SState.next) 0)).take (k + 1)).map (List.map (swapI (x : Int))) ++ (((s.states.map SState.next).set 0 (ix (s.states.map SState.next) x)).set x (ix (s.states.map SState.next) 0)).drop (k + 1) := by
        rw [show k1 = (ix ns k).length by omega, List.take_length, List.drop_length, List.append_nil] at hI1
        rw [hI1]
        have hv : ix ns k = ix (((s.states.map SState.next).set 0 (ix (s.states.map SState.next) x)).set x (ix (s.states.map SState.next) 0)) k := by rw [hI0]; exact mapd_ix (by simp; omega)
        rw [hv, hI0]
        exact mapd_set (by simp; omega)
      exact ln (⟨k + 1, ns.set k nx⟩ : Nat × (List (List Int))) ⟨hN0, hN1⟩ (by first | omega | (dsimp only; omega)) ⟨id, id, id, id, id, trivial⟩ ⟨⟨rfl, id⟩, ⟨rfl, id⟩, ⟨rfl, id⟩, ⟨rfl, id⟩, ⟨rfl, id⟩, trivial⟩
  · try simp at hc0
    refine ex (xt_ (xt_ (xb (th (sq (rg (fzQ (pre := (fun a => [ints a])) 231 230 rfl rfl (by decide) (ownEq (enc' := stateE) (ys := (turnedS s (x : Int)).states) 230 rfl (by rw [hI0, List.take_of_length_le (by simp; omega), List.drop_of_length_le (by simp; omega), List.append_nil]; exact swapped_eq hx hps rfl) (fzc 5 230 1 rfl rfl rfl rfl (lPA rfl rfl T.agg25 rfl (sPA (cs' := [sl 1 strE s.actions, sl 2 stateE ((turnedS s (x : Int)).states)]) rfl rfl rfl T.agg25 rfl rfl (nl (th (rt ?_))))))))))))))
    have hr0 : s.actions = ((turnedS s (x : Int)).actions) := by
      rfl
    have hall : ∀ x0, s.actions = x0 → resAV [agg [sl 1 strE s.actions, sl 2 stateE ((turnedS s (x : Int)).states)]] = resAV [agg [sl 1 strE x0, sl 2 stateE ((turnedS s (x : Int)).states)]] := by rintro _ rfl; rfl
    exact rE () [.cell 4 25] rfl [agg [sl 1 strE s.actions, sl 2 stateE ((turnedS s (x : Int)).states)]] ⟨.agg rfl rfl T.agg25 rfl rfl, trivial⟩ (hall _ hr0) trivial (by first | exact .inr rfl | exact .inl rfl)

theorem Swapped_ok (s : SSpec) (hs : okSpec s) (x : Int) (h0 : 0 ≤ x) (hx : x < (s.states.length : Int)) (hz : size s ≤ 1000000) : Fn0 Tryd.prog 45 [spec s, int x] (spec (turnedS s x)) := by
  obtain ⟨n, rfl⟩ := Int.eq_ofNat_of_zero_le h0
  exact SwappedN_ok s hs hz n (by omega)

theorem From_ok (s : SSpec) (hs : okSpec s) (x : Int) (h0 : 0 ≤ x) (hx : x < (s.states.length : Int)) (hz : size s ≤ 1000000) :
    Fn0 Tryd.prog 21 [spec s, int x] (spec (leastR (turnedS s x)).1) := by
  refine fnI Tryd.func21 rfl rfl (fun w0 F0 => ?_)
  have hto := turnedS_ok hs h0 hx
  refine fcC (inhS 0 rfl) (fun hS0 => ?_)
  obtain ⟨hsa0, hss0, hse0⟩ := spec_lens hS0
  refine sq (rg (bx (key := 2) (cs := [sl 1 strE s.actions, sl 2 stateE s.states]) rfl fun b2 => (al (key := 4) T.z25 (ex_cons (ex_cons (ex_nil))) fun b4 => (nl (th (sq (rg (lPA rfl rfl T.agg25 rfl (mv (cal0 (φs := [agg [sl 1 strE s.actions, sl 2 stateE s.states], int x]) (φ := agg [sl 1 strE ((turnedS s x).actions), sl 2 stateE ((turnedS s x).states)]) ⟨rfl, rfl, trivial⟩ (starts.Swapped_ok s (by assumption) x (by omega) (by omega) (by omega)) T.ent45 (cal0 (φs := [agg [sl 1 strE ((turnedS s x).actions), sl 2 stateE ((turnedS s x).states)]]) (φ := tup [agg [sl 1 strE (((leastR (turnedS s x)).1).actions), sl 2 stateE (((leastR (turnedS s x)).1).states)], sl 1 intE ((leastR (turnedS s x)).2)]) ⟨rfl, trivial⟩ (ref06.Least_ok (turnedS s x) (by assumption)) T.ent12 (mv (xt rfl rfl (xt rfl rfl (al (key := 5) T.z25 (ex_cons (ex_cons (ex_nil))) fun b5 => (sPA (cs' := [sl 1 strE (((leastR (turnedS s x)).1).actions), sl 2 stateE (((leastR (turnedS s x)).1).states)]) rfl rfl rfl T.agg25 rfl rfl (ag (nl (th (sq (rg (lPA rfl rfl T.agg25 rfl (sPA (cs' := [sl 1 strE (((leastR (turnedS s x)).1).actions), sl 2 stateE (((leastR (turnedS s x)).1).states)]) rfl rfl rfl T.agg25 rfl rfl (nl (th (rt ?_))))))))))))))))))))))))))
  exact rE () [.cell 4 25] rfl [agg [sl 1 strE (((leastR (turnedS s x)).1).actions), sl 2 stateE (((leastR (turnedS s x)).1).states)]] ⟨.agg rfl rfl T.agg25 rfl rfl, trivial⟩ (rfl) trivial (by first | exact .inr rfl | exact .inl rfl)

theorem Go_ok (s : SSpec) (hs : okSpec s) (l : List Int) (hl : ∀ k, k < l.length → 0 ≤ ix l k ∧ ix l k < (s.actions.length : Int)) :
    Fn0 Tryd.prog 22 [spec s, int 0, ints l] (int (goS s l)) := by
  refine fnI Tryd.func22 rfl rfl (fun w0 F0 => ?_)
  have hf0 := hs.few0
  refine fcC (inhS 0 rfl) (fun hS0 => ?_)
  obtain ⟨hsa0, hss0, hse0⟩ := spec_lens hS0
  refine fcC (slenI 2 rfl) (fun hm2 => ?_)
  refine sq (rg (bx (key := 3) (cs := [sl 1 strE s.actions, sl 2 stateE s.states]) rfl fun b3 => (ag (nl (th (sq (sq (rg (mv (lnF rfl T.sl28 (mv (nl (th (bk ?_))))))))))))))
  have hI0_0 : 0 ≤ l.length := by
    first | omega | simp
  have hI0_1 : (0 : Int) = (l.take 0).foldl (stepS s) 0 := by
    rfl
  refine lp (κ := Nat × Int) (fun p => [(1, int p.2), (3, ptr 3 b3 0), (9, sl 1 intE l), (10, int (l.length : Int)), (11, int (p.1 : Int))]) (fun p => [(3, cell b3 [sl 1 strE s.actions, sl 2 stateE s.states])]) (fun p => (p.1 ≤ l.length) ∧ (p.2 = (l.take p.1).foldl (stepS s) 0)) (fun p => l.length - p.1) ⟨0, (0 : Int)⟩ ⟨hI0_0, hI0_1⟩ ⟨id, id, id, id, id, trivial⟩ ⟨⟨rfl, id⟩, trivial⟩ ?_
  intro ⟨k, cur⟩ hG0
  obtain ⟨hk0, hI0⟩ : (k ≤ l.length) ∧ (cur = (l.take k).foldl (stepS s) 0) := hG0
  show Ct _ _ _ _ [(1, int cur), (3, ptr 3 b3 0), (9, sl 1 intE l), (10, int (l.length : Int)), (11, int (k : Int))] [(3, cell b3 [sl 1 strE s.actions, sl 2 stateE s.states])] _
  have hbd := go_bd hs hl k (by omega)
  rw [← hI0] at hbd
  refine sq (rg (bi rfl rfl b_lss (nl (th (sq ?_)))))
  refine cd rfl (fun hc0 => ?_) (fun hc0 => ?_)
  · try simp at hc0
    have hl0 := hl k (by omega)
    refine sk (th (sq (bk (sq (rg (iF rfl rfl T.sl28 (by omega) (by first | exact gN (by omega) | exact gI (by omega) (by omega)) (lF rfl rfl T.one3 (ag (nl (th (sq (sq (rg (mv (bi rfl rfl b_lss (nl (th ?_)))))))))))))))))
    refine cd rfl (fun hc1 => ?_) (fun hc1 => ?_)
    · try simp at hc1
      refine sq (rg (ag (nl (th (rt (rt_ (rb (rt_ (rt_ (rb (rt_ ?_)))))))))))
      have hr0 : (-1 : Int) = (goS s l) := by
        rw [go_cut (k := k) (by omega) (by rw [← hI0]; omega)]
      have hall : ∀ x0, (-1) = x0 → resAV [int (-1)] = resAV [int x0] := by rintro _ rfl; rfl
      exact rE () [.tmp 6] rfl [int (-1)] ⟨.tmp rfl, trivial⟩ (hall _ hr0) trivial (by first | exact .inr rfl | exact .inl rfl)
    · try simp at hc1
      have hst := hs.st cur.toNat (by omega)
      have hsl := hst.len
      refine sk (th (rg (fP rfl T.fld25_1 (lP rfl rfl rfl T.one23 (mv (iF rfl rfl T.sl23 (by omega) (by first | exact gN (by omega) | exact gI (by omega) (by omega)) (fF rfl T.fld69_1 (lF rfl rfl T.one28 (mv (iF rfl rfl T.sl28 (by omega) (by first | exact gN (by omega) | exact gI (by omega) (by omega)) (lF rfl rfl T.one3 (ag (nl (eb (th (rg (bi rfl rfl (b_add (by unfold I64; omega)) (mv (nl ?_)))))))))))))))))))
      have hN0 : (k + 1) ≤ l.length := by
        first | omega | simp_all
      have hN1 : (ix ((ix s.states cur.toNat).next) ((ix l k).toNat)) = (l.take (k + 1)).foldl (stepS s) 0 := by
        rw [go_succ (by omega), ← hI0]
        unfold stepS
        rw [if_neg (by omega)]
      exact ln (⟨k + 1, ix ((ix s.states cur.toNat).next) ((ix l k).toNat)⟩ : Nat × Int) ⟨hN0, hN1⟩ (by first | omega | (dsimp only; omega)) ⟨id, id, id, id, id, trivial⟩ ⟨⟨rfl, id⟩, trivial⟩
  · try simp at hc0
    refine ex (xt_ (xt_ (xb (th (sq (rg (mv (ag (nl (th (rt ?_)))))))))))
    have hr0 : (cur : Int) = (goS s l) := by
      unfold goS; rw [hI0, show k = l.length by omega, List.take_length]
    have hall : ∀ x0, cur = x0 → resAV [int cur] = resAV [int x0] := by rintro _ rfl; rfl
    exact rE () [.tmp 6] rfl [int cur] ⟨.tmp rfl, trivial⟩ (hall _ hr0) trivial (by first | exact .inr rfl | exact .inl rfl)

theorem Actions_ok (n : Int) (l : List Int) :
    Fn0 Tryd.prog 44 [int n, ints l] (bl (l.all fun a => decide (0 ≤ a) && decide (a < n))) := by
  refine fnI Tryd.func44 rfl rfl (fun w0 F0 => ?_)
  refine fcC (slenI 1 rfl) (fun hm1 => ?_)
  refine sq (rg (ag (nl (th (sq (sq (rg (mv (lnF rfl T.sl28 (mv (nl (th (bk ?_)))))))))))))
  have hI0_0 : 0 ≤ l.length := by
    first | omega | simp
  have hI0_1 : ((l.take 0).all fun a => decide (0 ≤ a) && decide (a < n)) = true := by
    simp
  refine lp (κ := Nat) (fun p => [(0, int n), (7, sl 1 intE l), (8, int (l.length : Int)), (9, int (p : Int))]) (fun p => []) (fun p => (p ≤ l.length) ∧ (((l.take p).all fun a => decide (0 ≤ a) && decide (a < n)) = true)) (fun p => l.length - p) 0 ⟨hI0_0, hI0_1⟩ ⟨id, id, id, id, trivial⟩ trivial ?_
  intro k hG0
  obtain ⟨hk0, hI0⟩ : (k ≤ l.length) ∧ (((l.take k).all fun a => decide (0 ≤ a) && decide (a < n)) = true) := hG0
  refine sq (rg (bi rfl rfl b_lss (nl (th (sq ?_)))))
  refine cd rfl (fun hc0 => ?_) (fun hc0 => ?_)
  · try simp at hc0
    refine sk (th (sq (bk (sq (rg (iF rfl rfl T.sl28 (by omega) (by first | exact gN (by omega) | exact gI (by omega) (by omega)) (lF rfl rfl T.one3 (ag (nl (th (sq (rg (mv (bi rfl rfl b_lss (mv ?_)))))))))))))))
    apply gOr (t := 15) (pd := 19) rfl
    rotate_left
    · intro hg0 fin
      have hg0' := hg0
      try simp at hg0'
      exact gy rfl rfl rfl hg0 (mv (gy rfl rfl rfl hg0 (mv (gy rfl rfl rfl hg0 (bi rfl rfl b_geq (pkF rfl hg0 rfl (drp (X := [(18, _), (17, _), (16, _)]) ⟨rfl, rfl, rfl, trivial⟩ (fin))))))))
    · intro hg0 fin
      exact gn rfl rfl rfl hg0 rfl rfl (gn rfl rfl rfl hg0 rfl rfl (gn rfl rfl rfl hg0 rfl rfl (pkT rfl hg0 rfl (drp (X := [(18, _), (17, _), (16, _)]) ⟨rfl, rfl, rfl, trivial⟩ (fin)))))
    refine nl (th ?_)
    refine cd rfl (fun hc1 => ?_) (fun hc1 => ?_)
    · try simp at hc1
      refine sq (rg (ag (nl (th (rt (rb (rt_ (rt_ (rb (rt_ ?_))))))))))
      have hr0 : false = (l.all fun a => decide (0 ≤ a) && decide (a < n)) := by
        rw [all_fail (xs := l) (k := k) (by omega) (by simp; omega)]
      have hall : ∀ x0, false = x0 → resAV [bl false] = resAV [bl x0] := by rintro _ rfl; rfl
      exact rE () [.tmp 4] rfl [bl false] ⟨.tmp rfl, trivial⟩ (hall _ hr0) trivial (by first | exact .inr rfl | exact .inl rfl)
    · try simp at hc1
      refine sk (eb (th (rg (bi rfl rfl (b_add (by unfold I64; omega)) (mv (nl ?_))))))
      have hN0 : (k + 1) ≤ l.length := by
        first | omega | simp_all
      have hN1 : ((l.take (k + 1)).all fun a => decide (0 ≤ a) && decide (a < n)) = true := by
        rw [all_take_succ (by omega), hI0]
        simp
        omega
      exact ln (k + 1) ⟨hN0, hN1⟩ (by first | omega | (dsimp only; omega)) ⟨id, id, id, id, trivial⟩ trivial
  · try simp at hc0
    refine ex (xt_ (xt_ (xb (th (sq (rg (ag (nl (th (rt ?_))))))))))
    have hr0 : true = (l.all fun a => decide (0 ≤ a) && decide (a < n)) := by
      rw [show k = l.length by omega, List.take_length] at hI0
      rw [hI0]
    have hall : ∀ x0, true = x0 → resAV [bl true] = resAV [bl x0] := by rintro _ rfl; rfl
    exact rE () [.tmp 4] rfl [bl true] ⟨.tmp rfl, trivial⟩ (hall _ hr0) trivial (by first | exact .inr rfl | exact .inl rfl)

theorem Word_ok (n : Int) (l : List Int) :
    Fn0 Tryd.prog 20 [int n, ints l] (bl (wordOK n l)) := by
  refine fnI Tryd.func20 rfl rfl (fun w0 F0 => ?_)
  refine fcC (slenI 1 rfl) (fun hm1 => ?_)
  refine sq (rg (ag (nl (th (sq (rg (mv (lnF rfl T.sl28 (bi rfl rfl b_leq (mv ?_))))))))))
  apply gAnd (t := 8) (pd := 12) rfl
  rotate_left
  · intro hg0 fin
    have hg0' := hg0
    try simp at hg0'
    exact gy rfl rfl rfl hg0 (mv (gy rfl rfl rfl hg0 (mv (gy rfl rfl rfl hg0 (cal0 (φs := [int n, sl 1 intE l]) (φ := bl (l.all fun a => decide (0 ≤ a) && decide (a < n))) ⟨rfl, rfl, trivial⟩ (starts.Actions_ok n l) T.ent44 (pkT rfl hg0 rfl (drp (X := [(11, _), (10, _), (9, _)]) ⟨rfl, rfl, rfl, trivial⟩ (fin))))))))
  · intro hg0 fin
    exact gn rfl rfl rfl hg0 rfl rfl (gn rfl rfl rfl hg0 rfl rfl (gn rfl rfl rfl hg0 rfl rfl (pkF rfl hg0 rfl (drp (X := [(11, _), (10, _), (9, _)]) ⟨rfl, rfl, rfl, trivial⟩ (fin)))))
  refine ag (nl (th (rt ?_)))
  have hr0 : ((decide ((l.length : Int) ≤ 10000)) && (l.all fun a => decide (0 ≤ a) && decide (a < n))) = (wordOK n l) := by
    rfl
  have hall : ∀ x0, ((decide ((l.length : Int) ≤ 10000)) && (l.all fun a => decide (0 ≤ a) && decide (a < n))) = x0 → resAV [bl ((decide ((l.length : Int) ≤ 10000)) && (l.all fun a => decide (0 ≤ a) && decide (a < n)))] = resAV [bl x0] := by rintro _ rfl; rfl
  exact rE () [.tmp 4] rfl [bl ((decide ((l.length : Int) ≤ 10000)) && (l.all fun a => decide (0 ≤ a) && decide (a < n)))] ⟨.tmp rfl, trivial⟩ (hall _ hr0) trivial (by first | exact .inr rfl | exact .inl rfl)
end starts
end Go.Proofs.YtolpjmllmlahfaaDoor



namespace Go.Proofs.YtolpjmllmlahfaaDoor
open AL Go
set_option maxRecDepth 100000
set_option linter.all false

open ref01 ref03 ref04 ref06 prog prog2 prog3 prog10 prog11 prog12 prog13 starts Part TurnM Itoa
def intP (p : Int → Bool) : AV := pf Tryd.prog (fun _ : Int => True) (fun x => [int x]) (fun x => bl (p x))
def idxF (p : Int → Bool) (l : List Int) : Int := if l.any p = true then (l.findIdx p : Int) else -1
theorem idx_none {p : Int → Bool} {l : List Int} (h : ∀ k, k < l.length → p (ix l k) = false) : idxF p l = -1 := by
  unfold idxF
  rw [if_neg]
  intro h2
  obtain ⟨x, hx, hp⟩ := List.any_eq_true.1 h2
  obtain ⟨k, hk, rfl⟩ := List.getElem_of_mem hx
  have := h k hk
  rw [ix_get hk, hp] at this
  cases this
theorem idx_some {p : Int → Bool} {l : List Int} {k : Nat} (hk : k < l.length) (hp : p (ix l k) = true) (h : ∀ j, j < k → p (ix l j) = false) : idxF p l = (k : Int) := by
  unfold idxF
  rw [if_pos (List.any_eq_true.2 ⟨ix l k, Rungs.ix_memS hk, hp⟩)]
  congr 1
  refine (List.findIdx_eq hk).2 ⟨by rw [← ix_get hk]; exact hp, fun j hj => ?_⟩
  have := h j hj
  rw [ix_get (by omega)] at this
  simp [this]
theorem idx_any {p : Int → Bool} {l : List Int} : decide (0 ≤ idxF p l) = l.any p := by
  unfold idxF
  split
  · next h => rw [h]; simp
  · next h => simp at h ⊢; exact h
theorem word_any {n : Int} {l : List Int} : (decide ((l.length : Int) ≤ 10000) && !l.any fun a => decide (a < 0) || decide (n ≤ a)) = wordOK n l := by
  unfold wordOK
  congr 1
  rw [List.not_any_eq_all_not]
  congr 1
  funext a
  by_cases h1 : a < 0 <;> by_cases h2 : n ≤ a <;> simp [h1, h2] <;> omega
noncomputable def fromS (s : SSpec) (x : Int) : SSpec := if specOK s = true ∧ 0 ≤ x ∧ x < (s.states.length : Int) then (leastR (turnedS s x)).1 else ⟨[], []⟩
def fromE (s : SSpec) (x : Int) : Int := if specOK s = true then (if 0 ≤ x ∧ x < (s.states.length : Int) then 0 else 1) else 30
noncomputable def resS (s : SSpec) (l : List Int) : SSpec := if specOK s = true ∧ wordOK (s.actions.length : Int) l = true ∧ 0 ≤ goS s l then (leastR (turnedS s (goS s l))).1 else ⟨[], []⟩
def resB (s : SSpec) (l : List Int) : Bool := specOK s && wordOK (s.actions.length : Int) l && decide (0 ≤ goS s l)
def resE (s : SSpec) (l : List Int) : Int := if specOK s = true then (if wordOK (s.actions.length : Int) l = true then 0 else 1) else 30

namespace prog15
namespace T
theorem map164 : MapT Tryd.prog 164 9 3 smE smD := mapT_str (by kernel_rfl) (by kernel_rfl)
theorem zv3 : ∀ w F, ∃ u, (zeroValue 3).run Tryd.prog w = .ok u w ∧ (int 0).p w F u := zeroV_of (v := .int .i64 0) (by kernel_rfl) _ (fun _ _ => eqv_rfl)
theorem ent119 : Ent Tryd.prog 119 := ent_of (by kernel_rfl)
theorem ent92 : Ent Tryd.prog 92 := ent_of (by kernel_rfl)
theorem ent94 : Ent Tryd.prog 94 := ent_of (by kernel_rfl)
theorem ent72 : Ent Tryd.prog 72 := ent_of (by kernel_rfl)
theorem one3 : IsOne Tryd.prog 3 := isOne_of (by kernel_rfl)
theorem z25 : ZeroIs Tryd.prog 25 [.slice none 0 0, .slice none 0 0] := zeroIs_of (by kernel_rfl)
theorem fld25_0 : FieldAt Tryd.prog 25 0 0 := fieldAt_of (by kernel_rfl)
theorem one22 : IsOne Tryd.prog 22 := isOne_of (by kernel_rfl)
theorem st25 : StructT Tryd.prog 25 [(0, 1), (1, 1)] [.slice none 0 0, .slice none 0 0] := structT_of (by kernel_rfl) (by kernel_rfl)
theorem agg25 : IsAgg Tryd.prog 25 2 := isAgg_of (by kernel_rfl)
theorem fld25_1 : FieldAt Tryd.prog 25 1 1 := fieldAt_of (by kernel_rfl)
theorem one23 : IsOne Tryd.prog 23 := isOne_of (by kernel_rfl)
theorem sl23 : IsSlice Tryd.prog 23 69 2 := isSlice_of (by kernel_rfl)
theorem ent70 : Ent Tryd.prog 70 := ent_of (by kernel_rfl)
theorem agg69 : IsAgg Tryd.prog 69 2 := isAgg_of (by kernel_rfl)
theorem z69 : ZeroIs Tryd.prog 69 [.slice none 0 0, .slice none 0 0] := zeroIs_of (by kernel_rfl)
theorem mixed : Tryd.prog.follows .mixedOrders = true := by kernel_rfl
theorem fld69_0 : FieldAt Tryd.prog 69 0 0 := fieldAt_of (by kernel_rfl)
theorem one28 : IsOne Tryd.prog 28 := isOne_of (by kernel_rfl)
theorem st69 : StructT Tryd.prog 69 [(0, 1), (1, 1)] [.slice none 0 0, .slice none 0 0] := structT_of (by kernel_rfl) (by kernel_rfl)
theorem fld69_1 : FieldAt Tryd.prog 69 1 1 := fieldAt_of (by kernel_rfl)
theorem sl28 : IsSlice Tryd.prog 28 3 1 := isSlice_of (by kernel_rfl)
theorem mk28 : MakeT Tryd.prog 28 3 1 8 [.int .i64 0] := makeT_of (by kernel_rfl) (by kernel_rfl)
theorem mk23 : MakeT Tryd.prog 23 69 2 48 [.slice none 0 0, .slice none 0 0] := makeT_of (by kernel_rfl) (by kernel_rfl)
theorem sl22 : IsSlice Tryd.prog 22 9 1 := isSlice_of (by kernel_rfl)
theorem ent100 : Ent Tryd.prog 100 := ent_of (by kernel_rfl)
theorem ent71 : Ent Tryd.prog 71 := ent_of (by kernel_rfl)
theorem ent39 : Ent Tryd.prog 39 := ent_of (by kernel_rfl)
theorem ent46 : Ent Tryd.prog 46 := ent_of (by kernel_rfl)
theorem ent41 : Ent Tryd.prog 41 := ent_of (by kernel_rfl)
theorem ent47 : Ent Tryd.prog 47 := ent_of (by kernel_rfl)
theorem ent48 : Ent Tryd.prog 48 := ent_of (by kernel_rfl)
end T

theorem turned1_ok (i x : Int) :
    Fn0 Tryd.prog 70 [int i, fp [int x]] (int (swapI x i)) := by
  refine fnI Tryd.func70 rfl rfl (fun w0 F0 => ?_)
  refine sq (rg (ag (nl (th (sq (sq (rg (mv (nl (th (bk (sq (rg (bi rfl rfl b_eql (ag (nl (th ?_)))))))))))))))))
  refine cd rfl (fun hc0 => ?_) (fun hc0 => ?_)
  · try simp at hc0
    refine sq (rg (lF rfl rfl T.one3 (ag (nl (th (rt (rb (rt_ ?_))))))))
    have hr0 : (x : Int) = (swapI x i) := by
      unfold swapI; rw [if_pos hc0]
    have hall : ∀ x0, x = x0 → resAV [int x] = resAV [int x0] := by rintro _ rfl; rfl
    exact rE () [.tmp 3] rfl [int x] ⟨.tmp rfl, trivial⟩ (hall _ hr0) trivial (by first | exact .inr rfl | exact .inl rfl)
  · try simp at hc0
    refine sq (rg (lF rfl rfl T.one3 (bi rfl rfl b_eql (ag (nl (th ?_))))))
    refine cd rfl (fun hc1 => ?_) (fun hc1 => ?_)
    · try simp at hc1
      refine sq (rg (ag (nl (th (rt (rb (rt_ ?_)))))))
      have hr0 : (0 : Int) = (swapI x i) := by
        unfold swapI; rw [if_neg hc0, if_pos hc1]
      have hall : ∀ x0, 0 = x0 → resAV [int 0] = resAV [int x0] := by rintro _ rfl; rfl
      exact rE () [.tmp 3] rfl [int 0] ⟨.tmp rfl, trivial⟩ (hall _ hr0) trivial (by first | exact .inr rfl | exact .inl rfl)
    · try simp at hc1
      refine sk (eb (th (sq (rg (mv (ag (nl (th (rt ?_)))))))))
      have hr0 : (i : Int) = (swapI x i) := by
        unfold swapI; rw [if_neg hc0, if_neg hc1]
      have hall : ∀ x0, i = x0 → resAV [int i] = resAV [int x0] := by rintro _ rfl; rfl
      exact rE () [.tmp 3] rfl [int i] ⟨.tmp rfl, trivial⟩ (hall _ hr0) trivial (by first | exact .inr rfl | exact .inl rfl)

theorem turned_ok (s : SSpec) (hs : okSpec s) (x : Int) (h0 : 0 ≤ x) (hx : x < (s.states.length : Int)) :
    Fn0 Tryd.prog 46 [spec s, int x] (spec (turnedS s x)) := by
  refine fnI Tryd.func46 rfl rfl (fun w0 F0 => ?_)
  have hf0 := hs.few0; have hf1 := hs.few1; have hn8 := hs.n8
  refine fcC (inhS 0 rfl) (fun hS0 => ?_)
  obtain ⟨hsa0, hss0, hse0⟩ := spec_lens hS0
  refine sq (rg (bx (key := 2) (cs := [sl 1 strE s.actions, sl 2 stateE s.states]) rfl fun b2 => (bx1 (key := 3) (φ := int x) rfl fun b3 => (al (key := 4) T.z25 (ex_cons (ex_cons (ex_nil))) fun b4 => (nl (th (sq (rg (fzv 3 3 rfl rfl (fP rfl T.fld25_0 (lP rfl rfl rfl T.one22 (bd (css := [(0, _)]) T.st25 (ex_cons (ex_cons (ex_nil))) ⟨rfl, rfl, p1 (φ := sl 1 strE s.actions) rfl, trivial⟩ (al (key := 5) T.z25 (ex_cons (ex_cons (ex_nil))) fun b5 => (sPA (cs' := [sl 1 strE s.actions, eqv (.slice none 0 0)]) rfl rfl rfl T.agg25 rfl rfl (nl (th (sq (rg (mkf (ag (nl (th (sq (sq (rg (fP rfl T.fld25_1 (lP rfl rfl rfl T.one23 (fc (slenI 17 rfl) fun hm17 => (lnF rfl T.sl23 (mv (nl (th (bk ?_)))))))))))))))))))))))))))))))))
  refine nwC 50 69 2 stateE (kncC 5 1 (osl 50 (.slice none 0 0)) rfl rfl eq_osl ?_)
  have hI0_0 : 0 ≤ s.states.length := by
    first | omega | simp
  have hI0_1 : ([] : List SState) = (turnedS s x).states.take 0 := by
    rfl
  refine lp (κ := Nat × Value × (List SState)) (fun p => [(2, ptr 2 b2 0), (4, ptr 4 b4 0), (5, ptr 5 b5 0), (6, clo 70 [fp [int x]]), (18, int (s.states.length : Int)), (19, int (p.1 : Int))]) (fun p => [(2, cell b2 [sl 1 strE s.actions, sl 2 stateE s.states]), (4, cell b4 [eqv (.slice none 0 0), eqv (.slice none 0 0)]), (5, cell b5 [sl 1 strE s.actions, osl 50 p.2.1]), (50, own p.2.1 69 2 stateE p.2.2)]) (fun p => (p.1 ≤ s.states.length) ∧ (p.2.2 = (turnedS s x).states.take p.1)) (fun p => s.states.length - p.1) ⟨0, (.slice none 0 0), ([] : List SState)⟩ ⟨hI0_0, hI0_1⟩ ⟨id, id, id, id, id, id, trivial⟩ ⟨⟨rfl, id⟩, ⟨rfl, id⟩, ⟨rfl, id⟩, ⟨rfl, id⟩, trivial⟩ ?_
  intro ⟨k, v, acc⟩ hG0
  obtain ⟨hk0, hI0⟩ : (k ≤ s.states.length) ∧ (acc = (turnedS s x).states.take k) := hG0
  show Ct _ _ _ _ [(2, ptr 2 b2 0), (4, ptr 4 b4 0), (5, ptr 5 b5 0), (6, clo 70 [fp [int x]]), (18, int (s.states.length : Int)), (19, int (k : Int))] [(2, cell b2 [sl 1 strE s.actions, sl 2 stateE s.states]), (4, cell b4 [eqv (.slice none 0 0), eqv (.slice none 0 0)]), (5, cell b5 [sl 1 strE s.actions, osl 50 v]), (50, own v 69 2 stateE acc)] _
  have hlen : acc.length ≤ k := by rw [hI0]; simp; omega
  refine sq (rg (bi rfl rfl b_lss (nl (th (sq ?_)))))
  refine cd rfl (fun hc0 => ?_) (fun hc0 => ?_)
  · try simp at hc0
    have hr := swapI_lt (k := (k : Int)) h0 hx (by omega) (by omega)
    have hst := hs.st (swapI x (k : Int)).toNat (by omega)
    have hsl := hst.len
    refine sk (th (sq (bk (sq (rg (mv (ag (nl (th (sq ?_))))))))))
    refine drH (nh := 9) [0, 1, 0, 0, 12, 31, 63, 0, 255] [(none, []), (none, [2]), (none, []), (none, []), (none, []), (none, []), (none, []), (some 8, []), (some 8, [8])] T.mixed (by kernel_rfl) (by kernel_rfl) ?_
    refine stv (d := 22) (fun β0 => ptr 2 b2 1) [] rfl (fun β β' hb => rfl) (fun β0 _ _ _ _ gq gh kq => fP (gq.1.trans rfl) T.fld25_1 kq) ?_
    refine stv (d := 23) (fun β0 => sl 2 stateE s.states) [2] rfl (fun β β' hb => rfl) (fun β0 _ _ _ _ gq gh kq => lP (gq.1.trans rfl) (gh.1.trans rfl) rfl T.one23 kq) ?_
    refine stv (d := 24) (fun β0 => clo 70 [fp [int x]]) [] rfl (fun β β' hb => rfl) (fun β0 _ _ _ _ gq gh kq => mv' (gq.1.trans rfl) kq) ?_
    refine stv (d := 25) (fun β0 => int (k : Int)) [] rfl (fun β β' hb => rfl) (fun β0 _ _ _ _ gq gh kq => mv' (gq.1.trans rfl) kq) ?_
    refine stv (d := 26) (fun β0 => int (swapI x (k : Int))) [] rfl (fun β β' hb => rfl) (fun β0 _ _ _ _ gq gh kq => calC0 (φs := [int (k : Int)]) (φ := int (swapI x (k : Int))) (gq.1.trans rfl) ⟨(gq.2.1.trans rfl), trivial⟩ (turned1_ok (k : Int) x) T.ent70 kq) ?_
    refine stv (d := 27) (fun β0 => fp [sl 1 intE ((ix s.states ((swapI x (k : Int)).toNat)).accept), sl 1 intE ((ix s.states ((swapI x (k : Int)).toNat)).next)]) [] rfl (fun β β' hb => rfl) (fun β0 _ _ _ _ gq gh kq => iF (gq.1.trans rfl) (gq.2.1.trans rfl) T.sl23 (by omega) (by first | exact gN (by omega) | exact gI (by omega) (by omega)) kq) ?_
    refine stv (d := 28) (fun β0 => agg [sl 1 intE ((ix s.states ((swapI x (k : Int)).toNat)).accept), sl 1 intE ((ix s.states ((swapI x (k : Int)).toNat)).next)]) [] rfl (fun β β' hb => rfl) (fun β0 _ _ _ _ gq gh kq => lFA (gq.1.trans rfl) T.agg69 (Nat.le_of_ble_eq_true rfl) kq) ?_
    refine sta 8 T.z69 (ex_cons (ex_cons (ex_nil))) ?_
    refine stw 8 (fun β0 => cell (gbk (β0 7)) [sl 1 intE ((ix s.states ((swapI x (k : Int)).toNat)).accept), sl 1 intE ((ix s.states ((swapI x (k : Int)).toNat)).next)]) [8] rfl (fun β β' hb => by first | rw [hb 7 rfl] | (dsimp only; rw [hb 7 rfl])) (fun β0 _ _ _ _ gq gh kq => sPA (cs' := [sl 1 intE ((ix s.states ((swapI x (k : Int)).toNat)).accept), sl 1 intE ((ix s.states ((swapI x (k : Int)).toNat)).next)]) (gq.1.trans rfl) (gh.1.trans rfl) (gq.2.1.trans rfl) T.agg69 rfl rfl kq) ?_
    refine pnH fun β0 => (nl (th (sq (rg (fP rfl T.fld69_0 (lP rfl rfl rfl T.one28 (bd (css := [(0, _)]) T.st69 (ex_cons (ex_cons (ex_nil))) ⟨rfl, rfl, p1 (φ := sl 1 intE ((ix s.states ((swapI x (k : Int)).toNat)).accept)) rfl, trivial⟩ (al (key := 9) T.z69 (ex_cons (ex_cons (ex_nil))) fun b9 => (sPA (cs' := [sl 1 intE ((ix s.states ((swapI x (k : Int)).toNat)).accept), eqv (.slice none 0 0)]) rfl rfl rfl T.agg69 rfl rfl (nl (th (sq (sq (rg (fP rfl T.fld69_1 (lP rfl rfl rfl T.one28 (fc (slenI 33 rfl) fun hm33 => (lnF rfl T.sl28 (mv (nl (th (bk ?_))))))))))))))))))))))
    refine nwC 90 3 1 intE (kncC 9 1 (osl 90 (.slice none 0 0)) rfl rfl eq_osl ?_)
    have hI1_0 : 0 ≤ ((ix s.states ((swapI x (k : Int)).toNat)).next).length := by
      first | omega | simp
    have hI1_1 : ([] : List Int) = ((ix s.states (swapI x (k : Int)).toNat).next.take 0).map (swapI x) := by
      rfl
    refine lp (κ := Nat × Value × (List Int)) (fun p => [(2, ptr 2 b2 0), (4, ptr 4 b4 0), (5, ptr 5 b5 0), (6, clo 70 [fp [int x]]), (9, ptr 9 b9 0), (18, int (s.states.length : Int)), (19, int (k : Int)), (33, sl 1 intE ((ix s.states ((swapI x (k : Int)).toNat)).next)), (34, int (((ix s.states ((swapI x (k : Int)).toNat)).next).length : Int)), (35, int (p.1 : Int))]) (fun p => [(2, cell b2 [sl 1 strE s.actions, sl 2 stateE s.states]), (4, cell b4 [eqv (.slice none 0 0), eqv (.slice none 0 0)]), (5, cell b5 [sl 1 strE s.actions, osl 50 v]), (8, cell (gbk (β0 7)) [sl 1 intE ((ix s.states ((swapI x (k : Int)).toNat)).accept), sl 1 intE ((ix s.states ((swapI x (k : Int)).toNat)).next)]), (9, cell b9 [sl 1 intE ((ix s.states (swapI x (k : Int)).toNat).accept), osl 90 p.2.1]), (50, own v 69 2 stateE acc), (90, own p.2.1 3 1 intE p.2.2)]) (fun p => (p.1 ≤ ((ix s.states ((swapI x (k : Int)).toNat)).next).length) ∧ (p.2.2 = ((ix s.states (swapI x (k : Int)).toNat).next.take p.1).map (swapI x))) (fun p => ((ix s.states ((swapI x (k : Int)).toNat)).next).length - p.1) ⟨0, (.slice none 0 0), ([] : List Int)⟩ ⟨hI1_0, hI1_1⟩ ⟨id, id, id, id, id, id, id, id, id, id, trivial⟩ ⟨⟨rfl, id⟩, ⟨rfl, id⟩, ⟨rfl, id⟩, ⟨rfl, id⟩, ⟨rfl, id⟩, ⟨rfl, id⟩, ⟨rfl, id⟩, trivial⟩ ?_
    intro ⟨k1, v9, nx⟩ hG1
    obtain ⟨hk1, hI1⟩ : (k1 ≤ ((ix s.states ((swapI x (k : Int)).toNat)).next).length) ∧ (nx = ((ix s.states (swapI x (k : Int)).toNat).next.take k1).map (swapI x)) := hG1
    show Ct _ _ _ _ [(2, ptr 2 b2 0), (4, ptr 4 b4 0), (5, ptr 5 b5 0), (6, clo 70 [fp [int x]]), (9, ptr 9 b9 0), (18, int (s.states.length : Int)), (19, int (k : Int)), (33, sl 1 intE ((ix s.states ((swapI x (k : Int)).toNat)).next)), (34, int (((ix s.states ((swapI x (k : Int)).toNat)).next).length : Int)), (35, int (k1 : Int))] [(2, cell b2 [sl 1 strE s.actions, sl 2 stateE s.states]), (4, cell b4 [eqv (.slice none 0 0), eqv (.slice none 0 0)]), (5, cell b5 [sl 1 strE s.actions, osl 50 v]), (8, cell (gbk (β0 7)) [sl 1 intE ((ix s.states ((swapI x (k : Int)).toNat)).accept), sl 1 intE ((ix s.states ((swapI x (k : Int)).toNat)).next)]), (9, cell b9 [sl 1 intE ((ix s.states (swapI x (k : Int)).toNat).accept), osl 90 v9]), (50, own v 69 2 stateE acc), (90, own v9 3 1 intE nx)] _
    have hnl : nx.length = k1 := by rw [hI1]; simp; omega
    refine sq (rg (bi rfl rfl b_lss (nl (th (sq ?_)))))
    refine cd rfl (fun hc1 => ?_) (fun hc1 => ?_)
    · try simp at hc1
      refine sk (th (sq (bk (sq (rg (iF rfl rfl T.sl28 (by omega) (by first | exact gN (by omega) | exact gI (by omega) (by omega)) (lF rfl rfl T.one3 (ag (nl (th ?_))))))))))
      refine drH (nh := 6) [0, 1, 0, 0, 12, 28, 63, 127, 255] [(none, []), (none, [9]), (none, []), (none, []), (none, []), (none, [])] T.mixed (by kernel_rfl) (by kernel_rfl) ?_
      refine stv (d := 39) (fun β1 => ptr 9 b9 1) [] rfl (fun β β' hb => rfl) (fun β1 _ _ _ _ gq gh kq => fP (gq.1.trans rfl) T.fld69_1 kq) ?_
      refine stv (d := 40) (fun β1 => osl 90 v9) [9] rfl (fun β β' hb => rfl) (fun β1 _ _ _ _ gq gh kq => lP (gq.1.trans rfl) (gh.1.trans rfl) rfl T.one28 kq) ?_
      refine stv (d := 41) (fun β1 => clo 70 [fp [int x]]) [] rfl (fun β β' hb => rfl) (fun β1 _ _ _ _ gq gh kq => mv' (gq.1.trans rfl) kq) ?_
      refine stv (d := 42) (fun β1 => int (ix ((ix s.states ((swapI x (k : Int)).toNat)).next) k1)) [] rfl (fun β β' hb => rfl) (fun β1 _ _ _ _ gq gh kq => mv' (gq.1.trans rfl) kq) ?_
      refine stv (d := 43) (fun β1 => int (swapI x (ix ((ix s.states ((swapI x (k : Int)).toNat)).next) k1))) [] rfl (fun β β' hb => rfl) (fun β1 _ _ _ _ gq gh kq => calC0 (φs := [int (ix ((ix s.states ((swapI x (k : Int)).toNat)).next) k1)]) (φ := int (swapI x (ix ((ix s.states ((swapI x (k : Int)).toNat)).next) k1))) (gq.1.trans rfl) ⟨(gq.2.1.trans rfl), trivial⟩ (turned1_ok (ix ((ix s.states ((swapI x (k : Int)).toNat)).next) k1) x) T.ent70 kq) ?_
      refine stv (d := 44) (fun β1 => sl 1 intE [(swapI x (ix ((ix s.states ((swapI x (k : Int)).toNat)).next) k1))]) [] rfl (fun β β' hb => rfl) (fun β1 _ _ _ _ gq gh kq => bsE (enc := intE) (xs := [(swapI x (ix ((ix s.states ((swapI x (k : Int)).toNat)).next) k1))]) (css := [[int (swapI x (ix ((ix s.states ((swapI x (k : Int)).toNat)).next) k1))]]) T.mk28 ⟨rfl, rfl, p1 (φ := int (swapI x (ix ((ix s.states ((swapI x (k : Int)).toNat)).next) k1))) (by exact (gq.1.trans rfl)), trivial⟩ rfl rfl rfl rfl kq) ?_
      refine pnH fun β1 => (ap (key := 90) (zs := [(swapI x (ix ((ix s.states ((swapI x (k : Int)).toNat)).next) k1))]) osl_eq rfl rfl rfl T.mk28 (by unfold maxL at *; simp; omega) (by unfold maxL at *; simp; omega) fun v45 => (fP rfl T.fld69_1 (storePO rfl rfl rfl rfl T.one28 rfl (nl (eb (th (rg (bi rfl rfl (b_add (by unfold I64; omega)) (mv (nl ?_))))))))))
      have hN0 : (k1 + 1) ≤ ((ix s.states ((swapI x (k : Int)).toNat)).next).length := by
        first | omega | simp_all
      have hN1 : (nx ++ [(swapI x (ix ((ix s.states ((swapI x (k : Int)).toNat)).next) k1))]) = ((ix s.states (swapI x (k : Int)).toNat).next.take (k1 + 1)).map (swapI x) := by
        rw [hI1, take_s (by omega), List.map_append]; rfl
      exact ln (⟨k1 + 1, v45, nx ++ [(swapI x (ix ((ix s.states ((swapI x (k : Int)).toNat)).next) k1))]⟩ : Nat × Value × (List Int)) ⟨hN0, hN1⟩ (by first | omega | (dsimp only; omega)) ⟨id, id, id, id, id, id, id, id, id, id, trivial⟩ ⟨⟨rfl, id⟩, ⟨rfl, id⟩, ⟨rfl, id⟩, ⟨rfl, id⟩, ⟨rfl, id⟩, ⟨rfl, id⟩, ⟨rfl, id⟩, trivial⟩
    · try simp at hc1
      refine ex (xt_ (xt_ (xb (th (rg (fP rfl T.fld25_1 (lP rfl rfl rfl T.one23 (fzc 9 90 1 rfl rfl rfl rfl (lPA rfl rfl T.agg69 rfl (bsE (enc := stateE) (xs := [(⟨(ix s.states (swapI x (k : Int)).toNat).accept, nx⟩)]) (css := [[sl 1 intE ((ix s.states (swapI x (k : Int)).toNat).accept), sl 1 intE nx]]) T.mk23 ⟨rfl, rfl, pA (cs := [sl 1 intE ((ix s.states (swapI x (k : Int)).toNat).accept), sl 1 intE nx]) rfl, trivial⟩ rfl rfl rfl rfl (ap (key := 50) (zs := [(⟨(ix s.states (swapI x (k : Int)).toNat).accept, nx⟩)]) osl_eq rfl rfl rfl T.mk23 (by unfold maxL at *; simp; omega) (by unfold maxL at *; simp; omega) fun v52 => (fP rfl T.fld25_1 (storePO rfl rfl rfl rfl T.one23 rfl (nl (eb (th (rg (bi rfl rfl (b_add (by unfold I64; omega)) (mv (nl ?_))))))))))))))))))))
      have hN0 : (k + 1) ≤ s.states.length := by
        first | omega | simp_all
      have hN1 : (acc ++ [(⟨(ix s.states (swapI x (k : Int)).toNat).accept, nx⟩)]) = (turnedS s x).states.take (k + 1) := by
        rw [hI0, take_s (by rw [turned_len]; omega), turned_ix (by omega)]
        unfold turnState
        rw [hI1, show k1 = (ix s.states (swapI x (k : Int)).toNat).next.length by omega, List.take_length]
      exact ln (⟨k + 1, v52, acc ++ [(⟨(ix s.states (swapI x (k : Int)).toNat).accept, nx⟩)]⟩ : Nat × Value × (List SState)) ⟨hN0, hN1⟩ (by first | omega | (dsimp only; omega)) ⟨id, id, id, id, id, id, trivial⟩ ⟨⟨rfl, id⟩, ⟨rfl, id⟩, ⟨rfl, id⟩, ⟨rfl, id⟩, trivial⟩
  · try simp at hc0
    refine ex (xt_ (xt_ (xb (th (sq (rg (fzc 5 50 1 rfl rfl rfl rfl (lPA rfl rfl T.agg25 rfl (sPA (cs' := [sl 1 strE s.actions, sl 2 stateE acc]) rfl rfl rfl T.agg25 rfl rfl (nl (th (rt ?_))))))))))))
    have hr0 : s.actions = ((turnedS s x).actions) := by
      rfl
    have hr1 : acc = ((turnedS s x).states) := by
      rw [hI0, List.take_of_length_le (by rw [turned_len]; omega)]
    have hall : ∀ x0 x1, s.actions = x0 → acc = x1 → resAV [agg [sl 1 strE s.actions, sl 2 stateE acc]] = resAV [agg [sl 1 strE x0, sl 2 stateE x1]] := by rintro _ _ rfl rfl; rfl
    exact rE () [.cell 4 25] rfl [agg [sl 1 strE s.actions, sl 2 stateE acc]] ⟨.agg rfl rfl T.agg25 rfl rfl, trivial⟩ (hall _ _ hr0 hr1) trivial (by first | exact .inr rfl | exact .inl rfl)

theorem Word1_ok (a : Int) (al : List ByteArray) :
    Fn0 Tryd.prog 72 [int a, fp [strs al]] (bl (decide (a < 0) || decide ((al.length : Int) ≤ a))) := by
  refine fnI Tryd.func72 rfl rfl (fun w0 F0 => ?_)
  refine sq (rg (ag (nl (th (sq (rg (mv (bi rfl rfl b_lss (mv ?_)))))))))
  apply gOr (t := 6) (pd := 11) rfl
  rotate_left
  · intro hg0 fin
    have hg0' := hg0
    try simp at hg0'
    exact gy rfl rfl rfl hg0 (mv (gy rfl rfl rfl hg0 (lF rfl rfl T.one22 (gy rfl rfl rfl hg0 (fc (slenI 8 rfl) fun hm8 => (lnF rfl T.sl22 (gy rfl rfl rfl hg0 (bi rfl rfl b_geq (pkF rfl hg0 rfl (drp (X := [(10, _), (9, _), (8, _), (7, _)]) ⟨rfl, rfl, rfl, rfl, trivial⟩ (fin)))))))))))
  · intro hg0 fin
    exact gn rfl rfl rfl hg0 rfl rfl (gn rfl rfl rfl hg0 rfl rfl (gn rfl rfl rfl hg0 rfl rfl (gn rfl rfl rfl hg0 rfl rfl (pkT rfl hg0 rfl (drp (X := [(10, _), (9, _), (8, _), (7, _)]) ⟨rfl, rfl, rfl, rfl, trivial⟩ (fin))))))
  refine ag (nl (th (rt ?_)))
  have hr0 : ((decide (a < 0)) || (decide ((al.length : Int) ≤ a))) = (decide (a < 0) || decide ((al.length : Int) ≤ a)) := by
    rfl
  have hall : ∀ x0, ((decide (a < 0)) || (decide ((al.length : Int) ≤ a))) = x0 → resAV [bl ((decide (a < 0)) || (decide ((al.length : Int) ≤ a)))] = resAV [bl x0] := by rintro _ rfl; rfl
  exact rE () [.tmp 3] rfl [bl ((decide (a < 0)) || (decide ((al.length : Int) ≤ a)))] ⟨.tmp rfl, trivial⟩ (hall _ hr0) trivial (by first | exact .inr rfl | exact .inl rfl)

theorem IndexFunc_ok (l : List Int) (pq : Int → Bool) :
    Fn0 Tryd.prog 100 [ints l, intP pq] (int (idxF pq l)) := by
  refine fnI Tryd.func100 rfl rfl (fun w0 F0 => ?_)
  refine fcC (slenI 0 rfl) (fun hm0 => ?_)
  refine sq (rg (ag (nl (th (sq (sq (rg (mv (lnF rfl T.sl28 (mv (nl (th (bk ?_)))))))))))))
  have hI0_0 : 0 ≤ l.length := by
    first | omega | simp
  have hI0_1 : ∀ j, j < 0 → pq (ix l j) = false := by
    intro j hj; omega
  refine lp (κ := Nat) (fun p => [(0, sl 1 intE l), (1, intP pq), (7, int (l.length : Int)), (8, int (p : Int))]) (fun p => []) (fun p => (p ≤ l.length) ∧ (∀ j, j < p → pq (ix l j) = false)) (fun p => l.length - p) 0 ⟨hI0_0, hI0_1⟩ ⟨id, id, id, id, trivial⟩ trivial ?_
  intro k hG0
  obtain ⟨hk0, hI0⟩ : (k ≤ l.length) ∧ (∀ j, j < k → pq (ix l j) = false) := hG0
  refine sq (rg (bi rfl rfl b_lss (nl (th (sq ?_)))))
  refine cd rfl (fun hc0 => ?_) (fun hc0 => ?_)
  · try simp at hc0
    refine sk (th (sq (bk (sq (rg (mv (ag (nl (th (sq (rg (mv (mv (mv (iF rfl rfl T.sl28 (by omega) (by first | exact gN (by omega) | exact gI (by omega) (by omega)) (lF rfl rfl T.one3 (callP rfl (ix l k) trivial rfl (nl (th ?_)))))))))))))))))))
    refine cd rfl (fun hc1 => ?_) (fun hc1 => ?_)
    · try simp at hc1
      refine sq (rg (mv (ag (nl (th (rt (rb (rt_ (rt_ (rb (rt_ ?_)))))))))))
      have hr0 : ((k : Int) : Int) = (idxF pq l) := by
        exact (idx_some (by omega) hc1 hI0).symm
      have hall : ∀ x0, (k : Int) = x0 → resAV [int (k : Int)] = resAV [int x0] := by rintro _ rfl; rfl
      exact rE () [.tmp 4] rfl [int (k : Int)] ⟨.tmp rfl, trivial⟩ (hall _ hr0) trivial (by first | exact .inr rfl | exact .inl rfl)
    · try simp at hc1
      refine sk (eb (th (rg (bi rfl rfl (b_add (by unfold I64; omega)) (mv (nl ?_))))))
      have hN0 : (k + 1) ≤ l.length := by
        first | omega | simp_all
      have hN1 : ∀ j, j < (k + 1) → pq (ix l j) = false := by
        intro j hj
        by_cases e : j = k
        · subst e; simpa using hc1
        · exact hI0 j (by omega)
      exact ln (k + 1) ⟨hN0, hN1⟩ (by first | omega | (dsimp only; omega)) ⟨id, id, id, id, trivial⟩ trivial
  · try simp at hc0
    refine ex (xt_ (xt_ (xb (th (sq (rg (ag (nl (th (rt ?_))))))))))
    have hr0 : (-1 : Int) = (idxF pq l) := by
      exact (idx_none (fun j hj => hI0 j (by omega))).symm
    have hall : ∀ x0, (-1) = x0 → resAV [int (-1)] = resAV [int x0] := by rintro _ rfl; rfl
    exact rE () [.tmp 4] rfl [int (-1)] ⟨.tmp rfl, trivial⟩ (hall _ hr0) trivial (by first | exact .inr rfl | exact .inl rfl)

theorem ContainsFunc_ok (l : List Int) (pq : Int → Bool) :
    Fn0 Tryd.prog 71 [ints l, intP pq] (bl (l.any pq)) := by
  refine fnI Tryd.func71 rfl rfl (fun w0 F0 => ?_)
  refine fcC (slenI 0 rfl) (fun hm0 => ?_)
  refine sq (rg (ag (nl (th (sq (rg (mv (mv (cal0 (φs := [sl 1 intE l, intP pq]) (φ := int (idxF pq l)) ⟨rfl, rfl, trivial⟩ (prog15.IndexFunc_ok _ _) T.ent100 (bi rfl rfl b_geq (ag (nl (th (rt ?_))))))))))))))
  have hr0 : (decide (0 ≤ (idxF pq l))) = (l.any pq) := by
    exact idx_any
  have hall : ∀ x0, (decide (0 ≤ (idxF pq l))) = x0 → resAV [bl (decide (0 ≤ (idxF pq l)))] = resAV [bl x0] := by rintro _ rfl; rfl
  exact rE () [.tmp 4] rfl [bl (decide (0 ≤ (idxF pq l)))] ⟨.tmp rfl, trivial⟩ (hall _ hr0) trivial (by first | exact .inr rfl | exact .inl rfl)

theorem containsW_ok (l : List Int) (al : List ByteArray) : Fn0 Tryd.prog 71 [ints l, clo 72 [fp [strs al]]] (bl (l.any (fun a => decide (a < 0) || decide ((al.length : Int) ≤ a)))) := by
  refine fn_args (fun {w F vs} h => ?_) (ContainsFunc_ok l (fun a => decide (a < 0) || decide ((al.length : Int) ≤ a)))
  match vs, h with
  | [_, _], ⟨h1, h2, _⟩ => exact ⟨h1, clo_pf T.ent72 (fun a _ => Word1_ok a al) h2, trivial⟩

theorem pWord_ok (al : List ByteArray) (l : List Int) :
    Fn0 Tryd.prog 47 [strs al, ints l] (bl (wordOK (al.length : Int) l)) := by
  refine fnI Tryd.func47 rfl rfl (fun w0 F0 => ?_)
  refine fcC (slenI 0 rfl) (fun hm0 => ?_)
  refine fcC (slenI 1 rfl) (fun hm1 => ?_)
  refine sq (rg (bx1 (key := 2) (φ := sl 1 strE al) rfl fun b2 => (ag (nl (th (sq (rg (fzv 2 2 rfl rfl (mv (lnF rfl T.sl28 (bi rfl rfl b_leq (mv ?_))))))))))))
  apply gAnd (t := 8) (pd := 13) rfl
  rotate_left
  · intro hg0 fin
    have hg0' := hg0
    try simp at hg0'
    exact gy rfl rfl rfl hg0 (mv (gy rfl rfl rfl hg0 (mkf (gy rfl rfl rfl hg0 (cal0 (φs := [sl 1 intE l, clo 72 [fp [sl 1 strE al]]]) (φ := bl (l.any (fun a => decide (a < 0) || decide ((al.length : Int) ≤ a)))) ⟨rfl, rfl, trivial⟩ (containsW_ok l al) T.ent71 (gy rfl rfl rfl hg0 (no rfl (pkT rfl hg0 rfl (drp (X := [(12, _), (11, _), (10, _), (9, _)]) ⟨rfl, rfl, rfl, rfl, trivial⟩ (fin))))))))))
  · intro hg0 fin
    exact gn rfl rfl rfl hg0 rfl rfl (gn rfl rfl rfl hg0 rfl rfl (gn rfl rfl rfl hg0 rfl rfl (gn rfl rfl rfl hg0 rfl rfl (pkF rfl hg0 rfl (drp (X := [(12, _), (11, _), (10, _), (9, _)]) ⟨rfl, rfl, rfl, rfl, trivial⟩ (fin))))))
  refine ag (nl (th (rt ?_)))
  have hr0 : ((decide ((l.length : Int) ≤ 10000)) && (!(l.any (fun a => decide (a < 0) || decide ((al.length : Int) ≤ a))))) = (wordOK (al.length : Int) l) := by
    exact word_any
  have hall : ∀ x0, ((decide ((l.length : Int) ≤ 10000)) && (!(l.any (fun a => decide (a < 0) || decide ((al.length : Int) ≤ a))))) = x0 → resAV [bl ((decide ((l.length : Int) ≤ 10000)) && (!(l.any (fun a => decide (a < 0) || decide ((al.length : Int) ≤ a)))))] = resAV [bl x0] := by rintro _ rfl; rfl
  exact rE () [.tmp 4] rfl [bl ((decide ((l.length : Int) ≤ 10000)) && (!(l.any (fun a => decide (a < 0) || decide ((al.length : Int) ≤ a)))))] ⟨.tmp rfl, trivial⟩ (hall _ hr0) trivial (by first | exact .inr rfl | exact .inl rfl)

theorem Follow_ok (s : SSpec) (hs : okSpec s) (l : List Int) (hl : ∀ k, k < l.length → 0 ≤ ix l k ∧ ix l k < (s.actions.length : Int)) :
    Fn0 Tryd.prog 48 [spec s, ints l] (tup [int (if goS s l < 0 then 0 else goS s l), bl (decide (0 ≤ goS s l))]) := by
  refine fnI Tryd.func48 rfl rfl (fun w0 F0 => ?_)
  have hf0 := hs.few0
  refine fcC (inhS 0 rfl) (fun hS0 => ?_)
  obtain ⟨hsa0, hss0, hse0⟩ := spec_lens hS0
  refine fcC (slenI 1 rfl) (fun hm1 => ?_)
  refine sq (rg (bx (key := 2) (cs := [sl 1 strE s.actions, sl 2 stateE s.states]) rfl fun b2 => (ag (ag (nl (th (sq (rg (ag (nl (th (sq (sq (rg (mv (lnF rfl T.sl28 (mv (nl (th (bk ?_))))))))))))))))))))
  have hI0_0 : 0 ≤ l.length := by
    first | omega | simp
  have hI0_1 : (0 : Int) = (l.take 0).foldl (stepS s) 0 ∧ 0 ≤ (0 : Int) := by
    exact ⟨rfl, by omega⟩
  refine lp (κ := Nat × Int) (fun p => [(2, ptr 2 b2 0), (6, int p.2), (9, sl 1 intE l), (10, int (l.length : Int)), (11, int (p.1 : Int))]) (fun p => [(2, cell b2 [sl 1 strE s.actions, sl 2 stateE s.states])]) (fun p => (p.1 ≤ l.length) ∧ (p.2 = (l.take p.1).foldl (stepS s) 0 ∧ 0 ≤ p.2)) (fun p => l.length - p.1) ⟨0, (0 : Int)⟩ ⟨hI0_0, hI0_1⟩ ⟨id, id, id, id, id, trivial⟩ ⟨⟨rfl, id⟩, trivial⟩ ?_
  intro ⟨k, cur⟩ hG0
  obtain ⟨hk0, hI0⟩ : (k ≤ l.length) ∧ (cur = (l.take k).foldl (stepS s) 0 ∧ 0 ≤ cur) := hG0
  show Ct _ _ _ _ [(2, ptr 2 b2 0), (6, int cur), (9, sl 1 intE l), (10, int (l.length : Int)), (11, int (k : Int))] [(2, cell b2 [sl 1 strE s.actions, sl 2 stateE s.states])] _
  have hbd := go_bd hs hl k (by omega)
  rw [← hI0.1] at hbd
  refine sq (rg (bi rfl rfl b_lss (nl (th (sq ?_)))))
  refine cd rfl (fun hc0 => ?_) (fun hc0 => ?_)
  · try simp at hc0
    have hl0 := hl k (by omega)
    have hst := hs.st cur.toNat (by omega)
    have hsl := hst.len
    have hcur : (l.take (k + 1)).foldl (stepS s) 0 = ix (ix s.states cur.toNat).next (ix l k).toNat := by rw [go_succ (by omega), ← hI0.1]; unfold stepS; rw [if_neg (by omega)]
    refine sk (th (sq (bk (sq (rg (iF rfl rfl T.sl28 (by omega) (by first | exact gN (by omega) | exact gI (by omega) (by omega)) (lF rfl rfl T.one3 (ag (nl (th (sq (rg (fP rfl T.fld25_1 (lP rfl rfl rfl T.one23 (mv (iF rfl rfl T.sl23 (by omega) (by first | exact gN (by omega) | exact gI (by omega) (by omega)) (fF rfl T.fld69_1 (lF rfl rfl T.one28 (mv (iF rfl rfl T.sl28 (by omega) (by first | exact gN (by omega) | exact gI (by omega) (by omega)) (lF rfl rfl T.one3 (ag (nl (th (sq (rg (mv (bi rfl rfl b_lss (nl (th ?_))))))))))))))))))))))))))))))
    refine cd rfl (fun hc1 => ?_) (fun hc1 => ?_)
    · try simp at hc1
      have hng : goS s l < 0 := by
        by_cases e : k + 1 < l.length
        · rw [go_cut e (by rw [hcur]; omega)]; omega
        · unfold goS; rw [← List.take_length (l := l), show l.length = k + 1 by omega, hcur]; omega
      refine sq (rg (ag (ag (nl (th (rt (rb (rt_ (rt_ (rb (rt_ ?_)))))))))))
      have hr0 : (0 : Int) = (if goS s l < 0 then 0 else goS s l) := by
        rw [if_pos hng]
      have hr1 : false = (decide (0 ≤ goS s l)) := by
        rw [decide_eq_false (by omega)]
      have hall : ∀ x0 x1, 0 = x0 → false = x1 → resAV [int 0, bl false] = resAV [int x0, bl x1] := by rintro _ _ rfl rfl; rfl
      exact rE () [.tmp 4, .tmp 5] rfl [int 0, bl false] ⟨.tmp rfl, .tmp rfl, trivial⟩ (hall _ _ hr0 hr1) trivial (by first | exact .inr rfl | exact .inl rfl)
    · try simp at hc1
      refine sk (eb (th (rg (bi rfl rfl (b_add (by unfold I64; omega)) (mv (nl ?_))))))
      have hN0 : (k + 1) ≤ l.length := by
        first | omega | simp_all
      have hN1 : (ix ((ix s.states cur.toNat).next) ((ix l k).toNat)) = (l.take (k + 1)).foldl (stepS s) 0 ∧ 0 ≤ (ix ((ix s.states cur.toNat).next) ((ix l k).toNat)) := by
        exact ⟨hcur.symm, by omega⟩
      exact ln (⟨k + 1, ix ((ix s.states cur.toNat).next) ((ix l k).toNat)⟩ : Nat × Int) ⟨hN0, hN1⟩ (by first | omega | (dsimp only; omega)) ⟨id, id, id, id, id, trivial⟩ ⟨⟨rfl, id⟩, trivial⟩
  · try simp at hc0
    refine ex (xt_ (xt_ (xb (th (sq (rg (mv (ag (ag (nl (th (rt ?_))))))))))))
    have hr0 : (cur : Int) = (if goS s l < 0 then 0 else goS s l) := by
      have hg : goS s l = cur := by unfold goS; rw [hI0.1, show k = l.length by omega, List.take_length]
      rw [hg, if_neg (by omega)]
    have hr1 : true = (decide (0 ≤ goS s l)) := by
      have hg : goS s l = cur := by unfold goS; rw [hI0.1, show k = l.length by omega, List.take_length]
      rw [hg, decide_eq_true (by omega)]
    have hall : ∀ x0 x1, cur = x0 → true = x1 → resAV [int cur, bl true] = resAV [int x0, bl x1] := by rintro _ _ rfl rfl; rfl
    exact rE () [.tmp 4, .tmp 5] rfl [int cur, bl true] ⟨.tmp rfl, .tmp rfl, trivial⟩ (hall _ _ hr0 hr1) trivial (by first | exact .inr rfl | exact .inl rfl)

theorem From_ok (s : SSpec) (hsm : smallSpec s) (x : Int) :
    AL.Fn Tryd.prog 23 [tabbed (spec s), int x] [] (ι := Unit) (fun N _ => tup [nspec N (fromS s x), int (fromE s x)]) (fun _ => []) := by
  refine fnI Tryd.func23 rfl rfl (fun w0 F0 => ?_)
  refine tbI 0 9999 rfl ?_
  refine fcC (inhS 0 rfl) (fun hS0 => ?_)
  obtain ⟨hsa0, hss0, hse0⟩ := spec_lens hS0
  refine sq (rg (bx (key := 2) (cs := [sl 1 strE s.actions, sl 2 stateE s.states]) rfl fun b2 => (al (key := 4) T.z25 (ex_cons (ex_cons (ex_nil))) fun b4 => (ag (nl (th (sq (bk (sq (rg (lPA rfl rfl T.agg25 rfl (cal0 (φs := [agg [sl 1 strE s.actions, sl 2 stateE s.states]]) (φ := bl (specOK s)) ⟨rfl, trivial⟩ (prog2.Valid_ok s (by assumption)) T.ent39 (no rfl (ag (nl (th ?_))))))))))))))))
  refine cd rfl (fun hc0 => ?_) (fun hc0 => ?_)
  · try simp at hc0
    refine sq (rg (bd (css := []) T.st25 (ex_cons (ex_cons (ex_nil))) trivial (sPA (cs' := [eqv (.slice none 0 0), eqv (.slice none 0 0)]) rfl rfl rfl T.agg25 rfl rfl (ag (nl (th (rt (rb (rt_ ?_)))))))))
    refine kncA 4 0 (fre w0.heap.size (sl 1 strE [])) rfl rfl nw_nil ?_
    refine kncA 4 1 (fre w0.heap.size (sl 2 stateE [])) rfl rfl nw_nil ?_
    have hr0 : [] = ((fromS s x).actions) := by
      unfold fromS; rw [if_neg (by simp [hc0])]
    have hr1 : [] = ((fromS s x).states) := by
      unfold fromS; rw [if_neg (by simp [hc0])]
    have hr2 : (30 : Int) = (fromE s x) := by
      unfold fromE; rw [if_neg (by simp [hc0])]
    have hall : ∀ x0 x1 x2, [] = x0 → [] = x1 → 30 = x2 → resAV [agg [fre w0.heap.size (sl 1 strE []), fre w0.heap.size (sl 2 stateE [])], int 30] = resAV [agg [fre w0.heap.size (sl 1 strE x0), fre w0.heap.size (sl 2 stateE x1)], int x2] := by rintro _ _ _ rfl rfl rfl; rfl
    exact rE () [.cell 4 25, .tmp 5] rfl [agg [fre w0.heap.size (sl 1 strE []), fre w0.heap.size (sl 2 stateE [])], int 30] ⟨.agg rfl rfl T.agg25 rfl rfl, .tmp rfl, trivial⟩ (hall _ _ _ hr0 hr1 hr2) trivial (by first | exact .inr rfl | exact .inl rfl)
  · try simp at hc0
    have hs := okSpec_of hc0
    refine sq (rg (mv (bi rfl rfl b_lss (mv ?_))))
    apply gOr (t := 16) (pd := 22) rfl
    rotate_left
    · intro hg0 fin
      have hg0' := hg0
      try simp at hg0'
      exact gy rfl rfl rfl hg0 (mv (gy rfl rfl rfl hg0 (fP rfl T.fld25_1 (gy rfl rfl rfl hg0 (lP rfl rfl rfl T.one23 (gy rfl rfl rfl hg0 (fc (slenI 19 rfl) fun hm19 => (lnF rfl T.sl23 (gy rfl rfl rfl hg0 (bi rfl rfl b_geq (pkF rfl hg0 rfl (drp (X := [(21, _), (20, _), (19, _), (18, _), (17, _)]) ⟨rfl, rfl, rfl, rfl, rfl, trivial⟩ (fin)))))))))))))
    · intro hg0 fin
      exact gn rfl rfl rfl hg0 rfl rfl (gn rfl rfl rfl hg0 rfl rfl (gn rfl rfl rfl hg0 rfl rfl (gn rfl rfl rfl hg0 rfl rfl (gn rfl rfl rfl hg0 rfl rfl (pkT rfl hg0 rfl (drp (X := [(21, _), (20, _), (19, _), (18, _), (17, _)]) ⟨rfl, rfl, rfl, rfl, rfl, trivial⟩ (fin)))))))
    refine ag (nl (th ?_))
    refine cd rfl (fun hc1 => ?_) (fun hc1 => ?_)
    · try simp at hc1
      refine sq (rg (bd (css := []) T.st25 (ex_cons (ex_cons (ex_nil))) trivial (sPA (cs' := [eqv (.slice none 0 0), eqv (.slice none 0 0)]) rfl rfl rfl T.agg25 rfl rfl (ag (nl (th (rt (rb (rt_ ?_)))))))))
      refine kncA 4 0 (fre w0.heap.size (sl 1 strE [])) rfl rfl nw_nil ?_
      refine kncA 4 1 (fre w0.heap.size (sl 2 stateE [])) rfl rfl nw_nil ?_
      have hr0 : [] = ((fromS s x).actions) := by
        unfold fromS; rw [if_neg (by omega)]
      have hr1 : [] = ((fromS s x).states) := by
        unfold fromS; rw [if_neg (by omega)]
      have hr2 : (1 : Int) = (fromE s x) := by
        unfold fromE; rw [if_pos hc0, if_neg (by omega)]
      have hall : ∀ x0 x1 x2, [] = x0 → [] = x1 → 1 = x2 → resAV [agg [fre w0.heap.size (sl 1 strE []), fre w0.heap.size (sl 2 stateE [])], int 1] = resAV [agg [fre w0.heap.size (sl 1 strE x0), fre w0.heap.size (sl 2 stateE x1)], int x2] := by rintro _ _ _ rfl rfl rfl; rfl
      exact rE () [.cell 4 25, .tmp 5] rfl [agg [fre w0.heap.size (sl 1 strE []), fre w0.heap.size (sl 2 stateE [])], int 1] ⟨.agg rfl rfl T.agg25 rfl rfl, .tmp rfl, trivial⟩ (hall _ _ _ hr0 hr1 hr2) trivial (by first | exact .inr rfl | exact .inl rfl)
    · try simp at hc1
      have hto := turnedS_ok hs (x := x) (by omega) (by omega)
      refine sk (eb (th (sq (rg (lPA rfl rfl T.agg25 rfl (mv (cal0 (φs := [agg [sl 1 strE s.actions, sl 2 stateE s.states], int x]) (φ := agg [sl 1 strE ((turnedS s x).actions), sl 2 stateE ((turnedS s x).states)]) ⟨rfl, rfl, trivial⟩ (prog15.turned_ok s (by assumption) x (by omega) (by omega)) T.ent46 (tbU (ψ := tab) 27 9999 rfl rfl (calW (φs := [both (agg [sl 1 strE ((turnedS s x).actions), sl 2 stateE ((turnedS s x).states)]) tab]) (φ := tup [agg [fre w0.heap.size (sl 1 strE (((leastR (turnedS s x)).1).actions)), fre w0.heap.size (sl 2 stateE (((leastR (turnedS s x)).1).states))], fre w0.heap.size (sl 1 intE ((leastR (turnedS s x)).2))]) ⟨rfl, trivial⟩ (prog12.Merged_ok (turnedS s x) (by assumption)) T.ent41 (fun N hN => fun h => tup_le (cs := [agg [fre N (sl 1 strE (((leastR (turnedS s x)).1).actions)), fre N (sl 2 stateE (((leastR (turnedS s x)).1).states))], fre N (sl 1 intE ((leastR (turnedS s x)).2))]) (ds := [agg [fre w0.heap.size (sl 1 strE (((leastR (turnedS s x)).1).actions)), fre w0.heap.size (sl 2 stateE (((leastR (turnedS s x)).1).states))], fre w0.heap.size (sl 1 intE ((leastR (turnedS s x)).2))]) ⟨fun h => agg_le (cs := [fre N (sl 1 strE (((leastR (turnedS s x)).1).actions)), fre N (sl 2 stateE (((leastR (turnedS s x)).1).states))]) (ds := [fre w0.heap.size (sl 1 strE (((leastR (turnedS s x)).1).actions)), fre w0.heap.size (sl 2 stateE (((leastR (turnedS s x)).1).states))]) ⟨fun h => nw_mono (hN) h, fun h => nw_mono (hN) h, trivial⟩ h, fun h => nw_mono (hN) h, trivial⟩ h) (mv (xt rfl rfl (xt rfl rfl (al (key := 6) T.z25 (ex_cons (ex_cons (ex_nil))) fun b6 => (sPA (cs' := [fre w0.heap.size (sl 1 strE (((leastR (turnedS s x)).1).actions)), fre w0.heap.size (sl 2 stateE (((leastR (turnedS s x)).1).states))]) rfl rfl rfl T.agg25 rfl rfl (ag (nl (th (sq (rg (lPA rfl rfl T.agg25 rfl (sPA (cs' := [fre w0.heap.size (sl 1 strE (((leastR (turnedS s x)).1).actions)), fre w0.heap.size (sl 2 stateE (((leastR (turnedS s x)).1).states))]) rfl rfl rfl T.agg25 rfl rfl (ag (nl (th (rt ?_)))))))))))))))))))))))))
      have hr0 : (((leastR (turnedS s x)).1).actions) = ((fromS s x).actions) := by
        unfold fromS; rw [if_pos ⟨hc0, by omega, by omega⟩]
      have hr1 : (((leastR (turnedS s x)).1).states) = ((fromS s x).states) := by
        unfold fromS; rw [if_pos ⟨hc0, by omega, by omega⟩]
      have hr2 : (0 : Int) = (fromE s x) := by
        unfold fromE; rw [if_pos hc0, if_pos (by omega)]
      have hall : ∀ x0 x1 x2, (((leastR (turnedS s x)).1).actions) = x0 → (((leastR (turnedS s x)).1).states) = x1 → 0 = x2 → resAV [agg [fre w0.heap.size (sl 1 strE (((leastR (turnedS s x)).1).actions)), fre w0.heap.size (sl 2 stateE (((leastR (turnedS s x)).1).states))], int 0] = resAV [agg [fre w0.heap.size (sl 1 strE x0), fre w0.heap.size (sl 2 stateE x1)], int x2] := by rintro _ _ _ rfl rfl rfl; rfl
      exact rE () [.cell 4 25, .tmp 5] rfl [agg [fre w0.heap.size (sl 1 strE (((leastR (turnedS s x)).1).actions)), fre w0.heap.size (sl 2 stateE (((leastR (turnedS s x)).1).states))], int 0] ⟨.agg rfl rfl T.agg25 rfl rfl, .tmp rfl, trivial⟩ (hall _ _ _ hr0 hr1 hr2) trivial (by first | exact .inr rfl | exact .inl rfl)

theorem Residual_ok (s : SSpec) (hsm : smallSpec s) (l : List Int) :
    AL.Fn Tryd.prog 24 [tabbed (spec s), ints l] [] (ι := Unit) (fun N _ => tup [nspec N (resS s l), bl (resB s l), int (resE s l)]) (fun _ => []) := by
  refine fnI Tryd.func24 rfl rfl (fun w0 F0 => ?_)
  refine tbI 0 9999 rfl ?_
  refine fcC (inhS 0 rfl) (fun hS0 => ?_)
  obtain ⟨hsa0, hss0, hse0⟩ := spec_lens hS0
  refine fcC (slenI 1 rfl) (fun hm1 => ?_)
  refine sq (rg (bx (key := 2) (cs := [sl 1 strE s.actions, sl 2 stateE s.states]) rfl fun b2 => (al (key := 4) T.z25 (ex_cons (ex_cons (ex_nil))) fun b4 => (ag (ag (nl (th (sq (bk (sq (rg (lPA rfl rfl T.agg25 rfl (cal0 (φs := [agg [sl 1 strE s.actions, sl 2 stateE s.states]]) (φ := bl (specOK s)) ⟨rfl, trivial⟩ (prog2.Valid_ok s (by assumption)) T.ent39 (no rfl (ag (nl (th ?_)))))))))))))))))
  refine cd rfl (fun hc0 => ?_) (fun hc0 => ?_)
  · try simp at hc0
    refine sq (rg (bd (css := []) T.st25 (ex_cons (ex_cons (ex_nil))) trivial (sPA (cs' := [eqv (.slice none 0 0), eqv (.slice none 0 0)]) rfl rfl rfl T.agg25 rfl rfl (ag (ag (nl (th (rt (rb (rt_ ?_))))))))))
    refine kncA 4 0 (fre w0.heap.size (sl 1 strE [])) rfl rfl nw_nil ?_
    refine kncA 4 1 (fre w0.heap.size (sl 2 stateE [])) rfl rfl nw_nil ?_
    have hr0 : [] = ((resS s l).actions) := by
      unfold resS; rw [if_neg (by simp [hc0])]
    have hr1 : [] = ((resS s l).states) := by
      unfold resS; rw [if_neg (by simp [hc0])]
    have hr2 : false = (resB s l) := by
      unfold resB; rw [hc0]; rfl
    have hr3 : (30 : Int) = (resE s l) := by
      unfold resE; rw [if_neg (by simp [hc0])]
    have hall : ∀ x0 x1 x2 x3, [] = x0 → [] = x1 → false = x2 → 30 = x3 → resAV [agg [fre w0.heap.size (sl 1 strE []), fre w0.heap.size (sl 2 stateE [])], bl false, int 30] = resAV [agg [fre w0.heap.size (sl 1 strE x0), fre w0.heap.size (sl 2 stateE x1)], bl x2, int x3] := by rintro _ _ _ _ rfl rfl rfl rfl; rfl
    exact rE () [.cell 4 25, .tmp 5, .tmp 6] rfl [agg [fre w0.heap.size (sl 1 strE []), fre w0.heap.size (sl 2 stateE [])], bl false, int 30] ⟨.agg rfl rfl T.agg25 rfl rfl, .tmp rfl, .tmp rfl, trivial⟩ (hall _ _ _ _ hr0 hr1 hr2 hr3) trivial (by first | exact .inr rfl | exact .inl rfl)
  · try simp at hc0
    have hs := okSpec_of hc0
    refine sq (rg (fP rfl T.fld25_0 (lP rfl rfl rfl T.one22 (mv (cal0 (φs := [sl 1 strE s.actions, sl 1 intE l]) (φ := bl (wordOK (s.actions.length : Int) l)) ⟨rfl, rfl, trivial⟩ (prog15.pWord_ok s.actions l) T.ent47 (no rfl (ag (nl (th ?_)))))))))
    refine cd rfl (fun hc1 => ?_) (fun hc1 => ?_)
    · try simp at hc1
      refine sq (rg (bd (css := []) T.st25 (ex_cons (ex_cons (ex_nil))) trivial (sPA (cs' := [eqv (.slice none 0 0), eqv (.slice none 0 0)]) rfl rfl rfl T.agg25 rfl rfl (ag (ag (nl (th (rt (rb (rt_ ?_))))))))))
      refine kncA 4 0 (fre w0.heap.size (sl 1 strE [])) rfl rfl nw_nil ?_
      refine kncA 4 1 (fre w0.heap.size (sl 2 stateE [])) rfl rfl nw_nil ?_
      have hr0 : [] = ((resS s l).actions) := by
        unfold resS; rw [if_neg (by simp [hc1])]
      have hr1 : [] = ((resS s l).states) := by
        unfold resS; rw [if_neg (by simp [hc1])]
      have hr2 : false = (resB s l) := by
        unfold resB; rw [hc0, hc1]; rfl
      have hr3 : (1 : Int) = (resE s l) := by
        unfold resE; rw [if_pos hc0, if_neg (by simp [hc1])]
      have hall : ∀ x0 x1 x2 x3, [] = x0 → [] = x1 → false = x2 → 1 = x3 → resAV [agg [fre w0.heap.size (sl 1 strE []), fre w0.heap.size (sl 2 stateE [])], bl false, int 1] = resAV [agg [fre w0.heap.size (sl 1 strE x0), fre w0.heap.size (sl 2 stateE x1)], bl x2, int x3] := by rintro _ _ _ _ rfl rfl rfl rfl; rfl
      exact rE () [.cell 4 25, .tmp 5, .tmp 6] rfl [agg [fre w0.heap.size (sl 1 strE []), fre w0.heap.size (sl 2 stateE [])], bl false, int 1] ⟨.agg rfl rfl T.agg25 rfl rfl, .tmp rfl, .tmp rfl, trivial⟩ (hall _ _ _ _ hr0 hr1 hr2 hr3) trivial (by first | exact .inr rfl | exact .inl rfl)
    · try simp at hc1
      have hwo : wordOK (s.actions.length : Int) l = true := by simpa using hc1
      have hgb := go_bd hs (fun _ => word_ix hwo) l.length (Nat.le_refl _)
      rw [List.take_length] at hgb
      refine sk (eb (th (sq (rg (lPA rfl rfl T.agg25 rfl (mv (cal0 (φs := [agg [sl 1 strE s.actions, sl 2 stateE s.states], sl 1 intE l]) (φ := tup [int (if goS s l < 0 then 0 else goS s l), bl (decide (0 ≤ goS s l))]) ⟨rfl, rfl, trivial⟩ (prog15.Follow_ok s (by assumption) l (fun _ => word_ix (by assumption))) T.ent48 (mv (xt rfl rfl (xt rfl rfl (ag (ag (nl (th (sq (sq (rg (mv (no rfl (nl (th ?_)))))))))))))))))))))
      refine cd rfl (fun hc2 => ?_) (fun hc2 => ?_)
      · try simp at hc2
        refine sq (rg (bd (css := []) T.st25 (ex_cons (ex_cons (ex_nil))) trivial (sPA (cs' := [eqv (.slice none 0 0), eqv (.slice none 0 0)]) rfl rfl rfl T.agg25 rfl rfl (ag (ag (nl (th (rt (rt_ ?_)))))))))
        refine kncA 4 0 (fre w0.heap.size (sl 1 strE [])) rfl rfl nw_nil ?_
        refine kncA 4 1 (fre w0.heap.size (sl 2 stateE [])) rfl rfl nw_nil ?_
        have hr0 : [] = ((resS s l).actions) := by
          unfold resS; rw [if_neg (by omega)]
        have hr1 : [] = ((resS s l).states) := by
          unfold resS; rw [if_neg (by omega)]
        have hr2 : false = (resB s l) := by
          unfold resB; rw [hc0, hwo, decide_eq_false (by omega)]; rfl
        have hr3 : (0 : Int) = (resE s l) := by
          unfold resE; rw [if_pos hc0, if_pos hwo]
        have hall : ∀ x0 x1 x2 x3, [] = x0 → [] = x1 → false = x2 → 0 = x3 → resAV [agg [fre w0.heap.size (sl 1 strE []), fre w0.heap.size (sl 2 stateE [])], bl false, int 0] = resAV [agg [fre w0.heap.size (sl 1 strE x0), fre w0.heap.size (sl 2 stateE x1)], bl x2, int x3] := by rintro _ _ _ _ rfl rfl rfl rfl; rfl
        exact rE () [.cell 4 25, .tmp 5, .tmp 6] rfl [agg [fre w0.heap.size (sl 1 strE []), fre w0.heap.size (sl 2 stateE [])], bl false, int 0] ⟨.agg rfl rfl T.agg25 rfl rfl, .tmp rfl, .tmp rfl, trivial⟩ (hall _ _ _ _ hr0 hr1 hr2 hr3) trivial (by first | exact .inr rfl | exact .inl rfl)
      · try simp at hc2
        have hgs : 0 ≤ goS s l := by simpa using hc2
        have hgl : goS s l < (s.states.length : Int) := hgb.2
        have hto := turnedS_ok hs hgs hgl
        refine sk (th (sq (rg (kn 7 (int (goS s l)) rfl (by rw [if_neg (show ¬ goS s l < 0 by omega)]; exact fun h => h) (lPA rfl rfl T.agg25 rfl (mv (cal0 (φs := [agg [sl 1 strE s.actions, sl 2 stateE s.states], int (goS s l)]) (φ := agg [sl 1 strE ((turnedS s (goS s l)).actions), sl 2 stateE ((turnedS s (goS s l)).states)]) ⟨rfl, rfl, trivial⟩ (prog15.turned_ok s (by assumption) (goS s l) (by omega) (by omega)) T.ent46 (tbU (ψ := tab) 35 9999 rfl rfl (calW (φs := [both (agg [sl 1 strE ((turnedS s (goS s l)).actions), sl 2 stateE ((turnedS s (goS s l)).states)]) tab]) (φ := tup [agg [fre w0.heap.size (sl 1 strE (((leastR (turnedS s (goS s l))).1).actions)), fre w0.heap.size (sl 2 stateE (((leastR (turnedS s (goS s l))).1).states))], fre w0.heap.size (sl 1 intE ((leastR (turnedS s (goS s l))).2))]) ⟨rfl, trivial⟩ (prog12.Merged_ok (turnedS s (goS s l)) (by assumption)) T.ent41 (fun N hN => fun h => tup_le (cs := [agg [fre N (sl 1 strE (((leastR (turnedS s (goS s l))).1).actions)), fre N (sl 2 stateE (((leastR (turnedS s (goS s l))).1).states))], fre N (sl 1 intE ((leastR (turnedS s (goS s l))).2))]) (ds := [agg [fre w0.heap.size (sl 1 strE (((leastR (turnedS s (goS s l))).1).actions)), fre w0.heap.size (sl 2 stateE (((leastR (turnedS s (goS s l))).1).states))], fre w0.heap.size (sl 1 intE ((leastR (turnedS s (goS s l))).2))]) ⟨fun h => agg_le (cs := [fre N (sl 1 strE (((leastR (turnedS s (goS s l))).1).actions)), fre N (sl 2 stateE (((leastR (turnedS s (goS s l))).1).states))]) (ds := [fre w0.heap.size (sl 1 strE (((leastR (turnedS s (goS s l))).1).actions)), fre w0.heap.size (sl 2 stateE (((leastR (turnedS s (goS s l))).1).states))]) ⟨fun h => nw_mono (hN) h, fun h => nw_mono (hN) h, trivial⟩ h, fun h => nw_mono (hN) h, trivial⟩ h) (mv (xt rfl rfl (xt rfl rfl (al (key := 9) T.z25 (ex_cons (ex_cons (ex_nil))) fun b9 => (sPA (cs' := [fre w0.heap.size (sl 1 strE (((leastR (turnedS s (goS s l))).1).actions)), fre w0.heap.size (sl 2 stateE (((leastR (turnedS s (goS s l))).1).states))]) rfl rfl rfl T.agg25 rfl rfl (ag (nl (th (sq (rg (lPA rfl rfl T.agg25 rfl (sPA (cs' := [fre w0.heap.size (sl 1 strE (((leastR (turnedS s (goS s l))).1).actions)), fre w0.heap.size (sl 2 stateE (((leastR (turnedS s (goS s l))).1).states))]) rfl rfl rfl T.agg25 rfl rfl (ag (ag (nl (th (rt ?_))))))))))))))))))))))))))
        have hr0 : (((leastR (turnedS s (goS s l))).1).actions) = ((resS s l).actions) := by
          unfold resS; rw [if_pos ⟨hc0, hwo, hgs⟩]
        have hr1 : (((leastR (turnedS s (goS s l))).1).states) = ((resS s l).states) := by
          unfold resS; rw [if_pos ⟨hc0, hwo, hgs⟩]
        have hr2 : true = (resB s l) := by
          unfold resB; rw [hc0, hwo, decide_eq_true hgs]; rfl
        have hr3 : (0 : Int) = (resE s l) := by
          unfold resE; rw [if_pos hc0, if_pos hwo]
        have hall : ∀ x0 x1 x2 x3, (((leastR (turnedS s (goS s l))).1).actions) = x0 → (((leastR (turnedS s (goS s l))).1).states) = x1 → true = x2 → 0 = x3 → resAV [agg [fre w0.heap.size (sl 1 strE (((leastR (turnedS s (goS s l))).1).actions)), fre w0.heap.size (sl 2 stateE (((leastR (turnedS s (goS s l))).1).states))], bl true, int 0] = resAV [agg [fre w0.heap.size (sl 1 strE x0), fre w0.heap.size (sl 2 stateE x1)], bl x2, int x3] := by rintro _ _ _ _ rfl rfl rfl rfl; rfl
        exact rE () [.cell 4 25, .tmp 5, .tmp 6] rfl [agg [fre w0.heap.size (sl 1 strE (((leastR (turnedS s (goS s l))).1).actions)), fre w0.heap.size (sl 2 stateE (((leastR (turnedS s (goS s l))).1).states))], bl true, int 0] ⟨.agg rfl rfl T.agg25 rfl rfl, .tmp rfl, .tmp rfl, trivial⟩ (hall _ _ _ _ hr0 hr1 hr2 hr3) trivial (by first | exact .inr rfl | exact .inl rfl)
end prog15
end Go.Proofs.YtolpjmllmlahfaaDoor
