/- Walks of the functions of this claim, printed by a program of its own out of annotations. -/
import Derived.Test.YtolpjmllmlahfaaDoorref03
namespace Go.Proofs.YtolpjmllmlahfaaDoor
open AL Go
set_option maxRecDepth 100000
set_option linter.all false

open ref01 ref03
structure okState (x : SState) (N n : Nat) : Prop where
  len : x.next.length = n
  nx : ∀ a, a < n → -1 ≤ ix x.next a ∧ ix x.next a < (N : Int)
  ac : ∀ i, i < x.accept.length → 0 ≤ ix x.accept i ∧ ix x.accept i < 256
  go : ∀ i, i < x.accept.length → ∀ a : Nat, has (ix x.accept i) (a : Int) = true → a < n ∧ 0 ≤ ix x.next a
  rise : rising x.accept = true
structure okSpec (s : SSpec) : Prop where
  acts : actionsOK s.actions = true
  n8 : s.actions.length ≤ 8
  few0 : 1 ≤ s.states.length
  few1 : s.states.length ≤ 500
  st : ∀ k, k < s.states.length → okState (ix s.states k) s.states.length s.actions.length
theorem okState_of {x : SState} {N n : Nat} (hn : n ≤ 8) (h : stateOK x (N : Int) n = true) : okState x N n := by
  unfold stateOK at h
  simp only [Bool.and_eq_true, decide_eq_true_eq] at h
  obtain ⟨⟨⟨h1, h2⟩, h3⟩, h4⟩ := h
  have hset : ∀ i, i < x.accept.length → setOK x n (ix x.accept i) = true := fun i hi => all_ix h4 hi
  refine ⟨by omega, fun a ha => ?_, fun i hi => ?_, fun i hi a ha => ?_, h2⟩
  · have := all_ix h3 (k := a) (by omega)
    simpa using this
  · have := hset i hi
    unfold setOK at this
    simp only [Bool.and_eq_true] at this
    exact isSet_bd hn this.1
  · have h5 := hset i hi
    unfold setOK at h5
    simp only [Bool.and_eq_true] at h5
    have han : a < n := by
      have h6 := h5.1
      unfold isSet at h6
      simp only [Bool.and_eq_true, decide_eq_true_eq, Int.toNat_natCast] at h6
      unfold has at ha
      rw [Int.toNat_natCast] at ha
      have h7 : 2 ^ a ≤ (ix x.accept i).toNat := Nat.ge_two_pow_of_testBit ha
      have h8 : (ix x.accept i).toNat < 2 ^ n := by omega
      have h9 : 2 ^ a < 2 ^ n := Nat.lt_of_le_of_lt h7 h8
      exact (Nat.pow_lt_pow_iff_right (by omega)).1 h9
    refine ⟨han, ?_⟩
    have hm : (a : Int) ∈ listOf n (ix x.accept i) := List.mem_map.2 ⟨a, List.mem_filter.2 ⟨List.mem_range.2 han, ha⟩, rfl⟩
    have := List.all_eq_true.1 h5.2 _ hm
    simpa using this
theorem okSpec_of {s : SSpec} (h : specOK s = true) : okSpec s := by
  unfold specOK at h
  simp only [Bool.and_eq_true, decide_eq_true_eq] at h
  obtain ⟨⟨⟨h1, h2⟩, h3⟩, h4⟩ := h
  have hn := actionsOK_len h1
  exact ⟨h1, hn, h2, h3, fun k hk => okState_of hn (all_ix h4 hk)⟩
def falls (x : SState) (t : Int) (h : List Bool) : Bool := (List.range x.next.length).any fun a => decide (0 ≤ ix x.next a) && has t (a : Int) && ix h (ix x.next a).toNat
def allFall (x : SState) (h : List Bool) : Bool := x.accept.all fun t => falls x t h
theorem any_range_succ (n : Nat) (f : Nat → Bool) : (List.range (n + 1)).any f = ((List.range n).any f || f n) := by
  rw [List.range_succ, List.any_append]; simp
theorem any_range_yes {n i : Nat} {f : Nat → Bool} (hi : i < n) (hf : f i = true) : (List.range n).any f = true := List.any_eq_true.2 ⟨i, List.mem_range.2 hi, hf⟩
def Closed (s : SSpec) (H : Nat → Prop) : Prop := ∀ x, x < s.states.length → (∀ i, i < (ix s.states x).accept.length → ∃ a, a < (ix s.states x).next.length ∧ 0 ≤ ix (ix s.states x).next a ∧ has (ix (ix s.states x).accept i) (a : Int) = true ∧ H (ix (ix s.states x).next a).toNat) → H x
/-- Hollow states: the least closed set. -/
def Hol (s : SSpec) (x : Nat) : Prop := ∀ H, Closed s H → H x
theorem Hol_closed (s : SSpec) : Closed s (Hol s) := fun x hx h H hH => hH x hx (fun i hi => by
  obtain ⟨a, h1, h2, h3, h4⟩ := h i hi
  exact ⟨a, h1, h2, h3, h4 H hH⟩)
theorem falls_iff {x : SState} {t : Int} {h : List Bool} : falls x t h = true ↔ ∃ a, a < x.next.length ∧ 0 ≤ ix x.next a ∧ has t (a : Int) = true ∧ ix h (ix x.next a).toNat = true := by
  unfold falls
  rw [List.any_eq_true]
  constructor
  · rintro ⟨a, ha, hf⟩
    simp only [Bool.and_eq_true, decide_eq_true_eq] at hf
    exact ⟨a, List.mem_range.1 ha, hf.1.1, hf.1.2, hf.2⟩
  · rintro ⟨a, ha, h1, h2, h3⟩
    exact ⟨a, List.mem_range.2 ha, by simp [h1, h2, h3]⟩
theorem allFall_iff {x : SState} {h : List Bool} : allFall x h = true ↔ ∀ i, i < x.accept.length → ∃ a, a < x.next.length ∧ 0 ≤ ix x.next a ∧ has (ix x.accept i) (a : Int) = true ∧ ix h (ix x.next a).toNat = true := by
  unfold allFall
  rw [List.all_eq_true]
  constructor
  · intro hh i hi
    exact falls_iff.1 (hh _ (by rw [ix_get hi]; exact List.getElem_mem hi))
  · intro hh t ht
    obtain ⟨i, hi, he⟩ := List.getElem_of_mem ht
    have := falls_iff.2 (hh i hi)
    rwa [ix_get hi, he] at this
open Classical in
noncomputable def hollow (s : SSpec) : List Bool := (List.range s.states.length).map fun x => decide (Hol s x)
theorem hollow_len (s : SSpec) : (hollow s).length = s.states.length := by simp [hollow]
theorem ix_set {α : Type} [Inhabited α] {xs : List α} {k : Nat} (hk : k < xs.length) (y : α) (j : Nat) : ix (xs.set k y) j = if j = k then y else ix xs j := by
  unfold ix
  by_cases h : j = k
  · subst h; simp [hk]
  · simp [h, List.getD, List.getElem?_set_ne (Ne.symm h)]
/-- A list of marks that is sound and closed is the list of the hollow states. -/
theorem hollow_eq {s : SSpec} {l : List Bool} (hl : l.length = s.states.length) (h1 : ∀ x, ix l x = true → Hol s x) (h2 : ∀ x, x < s.states.length → allFall (ix s.states x) l = true → ix l x = true) : l = hollow s := by
  have hc : Closed s (fun x => ix l x = true) := fun x hx h => h2 x hx (allFall_iff.2 h)
  apply List.ext_getElem (by rw [hl, hollow_len])
  intro i hi hi'
  have e : ix l i = l[i] := ix_get hi
  simp only [hollow, List.getElem_map, List.getElem_range]
  rw [← e]
  by_cases h : Hol s i
  · rw [h _ hc]; simp [h]
  · have : ix l i ≠ true := fun ht => h (h1 i ht)
    simp [h] at this ⊢
    exact this
theorem count_set {l : List Bool} {k : Nat} (hk : k < l.length) (h : ix l k = false) : (l.set k true).count false < l.count false := by
  rw [ix_get hk] at h
  have h1 := List.count_set (l := l) (i := k) (a := true) (b := false) hk
  rw [h1, h]
  have : 0 < l.count false := List.count_pos_iff.2 (by rw [← h]; exact List.getElem_mem hk)
  simp
  omega
theorem rising_ix {l : List Int} (h : rising l = true) {i : Nat} (hi : i + 1 < l.length) : ix l i < ix l (i + 1) := by
  unfold rising at h
  have := List.all_eq_true.1 h i (List.mem_range.2 (by omega))
  simpa using this
theorem rising_ge {l : List Int} (h : rising l = true) (h0 : ∀ i, i < l.length → 0 ≤ ix l i) : ∀ i, i < l.length → (i : Int) ≤ ix l i
  | 0, hi => by simpa using h0 0 hi
  | i + 1, hi => by
    have h1 := rising_ge h h0 i (by omega)
    have h2 := rising_ix h (i := i) hi
    omega
theorem okState.acl {x : SState} {N n : Nat} (h : okState x N n) : x.accept.length ≤ 256 := by
  rcases Nat.lt_or_ge 256 x.accept.length with hlt | hle
  · have h1 := rising_ge h.rise (fun i hi => (h.ac i hi).1) 256 hlt
    have h2 := (h.ac 256 hlt).2
    omega
  · exact hle
def orAll (l : List Int) : Int := l.foldl (fun u t => ((u.toNat ||| t.toNat : Nat) : Int)) 0
theorem orAll_snoc (l : List Int) (t : Int) : orAll (l ++ [t]) = (((orAll l).toNat ||| t.toNat : Nat) : Int) := by simp [orAll]
theorem or_lt256 {a b : Int} (ha : a < 256) (hb : b < 256) : ((a.toNat ||| b.toNat : Nat) : Int) < 256 := by
  have := Nat.or_lt_two_pow (x := a.toNat) (y := b.toNat) (n := 8) (by omega) (by omega)
  omega
noncomputable def keep (s : SSpec) (x : Nat) : List Int := (ix s.states x).accept.filter fun t => !ix (hollow s) x && !falls (ix s.states x) t (hollow s)
def cut (x : SState) (u : Int) : List Int := (List.range x.next.length).map fun (a : Nat) => if has u (a : Int) then ix x.next a else -1
noncomputable def solidState (s : SSpec) (x : Nat) : SState := ⟨keep s x, cut (ix s.states x) (orAll (keep s x))⟩
noncomputable def solid (s : SSpec) : SSpec := ⟨s.actions, (List.range s.states.length).map (solidState s)⟩
theorem filter_take_succ {α : Type} [Inhabited α] {xs : List α} {k : Nat} (h : k < xs.length) (p : α → Bool) : (xs.take (k + 1)).filter p = (xs.take k).filter p ++ (if p (ix xs k) then [ix xs k] else []) := by
  rw [take_s h, List.filter_append]
  congr 1
  by_cases hp : p (ix xs k) <;> simp [hp]
theorem map_range_succ {α : Type} (f : Nat → α) (n : Nat) : (List.range (n + 1)).map f = (List.range n).map f ++ [f n] := by rw [List.range_succ, List.map_append]; rfl
def visit (l ks : List Int) : List Int := ks.foldl (fun l k => if decide (0 ≤ k) && !l.contains k then l ++ [k] else l) l
theorem visit_snoc (l ks : List Int) (k : Int) : visit l (ks ++ [k]) = if decide (0 ≤ k) && !(visit l ks).contains k then visit l ks ++ [k] else visit l ks := by simp [visit]
/-- The queue, after i states are looked at. -/
def bq (s : SSpec) : Nat → List Int
  | 0 => [0]
  | i + 1 => if i < (bq s i).length then visit (bq s i) (ix s.states (ix (bq s i) i).toNat).next else bq s i
def order (s : SSpec) : List Int := bq s s.states.length
theorem bq_stable {s : SSpec} {i : Nat} (h : (bq s i).length ≤ i) : ∀ j, bq s (i + j) = bq s i
  | 0 => rfl
  | j + 1 => by
    have ih := bq_stable h j
    show (if i + j < (bq s (i + j)).length then _ else bq s (i + j)) = _
    rw [ih, if_neg (by omega)]
def marks (n : Nat) (l : List Int) : List Bool := (List.range n).map fun (x : Nat) => l.contains (x : Int)
theorem marks_len (n : Nat) (l : List Int) : (marks n l).length = n := by simp [marks]
theorem marks_ix {n : Nat} {l : List Int} {x : Nat} (h : x < n) : ix (marks n l) x = l.contains (x : Int) := by
  rw [ix_get (by rw [marks_len]; exact h)]
  simp [marks]
theorem marks_set {n : Nat} {l : List Int} {k : Int} (h0 : 0 ≤ k) : (marks n l).set k.toNat true = marks n (l ++ [k]) := by
  apply List.ext_getElem (by simp [marks])
  intro i h1 h2
  rw [List.getElem_set]
  simp only [marks, List.getElem_map, List.getElem_range, List.contains_eq_mem, List.mem_append, List.mem_singleton]
  split
  · next e => subst e; simp; right; omega
  · next e =>
    have : ¬ ((i : Int) = k) := by omega
    simp [this]
def okQ (n : Nat) (l : List Int) : Prop := (∀ i, i < l.length → 0 ≤ ix l i ∧ ix l i < (n : Int)) ∧ (marks n l).count true = l.length ∧ 1 ≤ l.length
theorem okQ.le {n : Nat} {l : List Int} (h : okQ n l) : l.length ≤ n := by
  rw [← h.2.1]
  exact Nat.le_trans List.count_le_length (by rw [marks_len]; exact Nat.le_refl _)
theorem ix_snoc (l : List Int) (k : Int) (i : Nat) : ix (l ++ [k]) i = if i < l.length then ix l i else if i = l.length then k else default := by
  unfold ix
  by_cases h : i < l.length
  · simp [h, List.getD, List.getElem?_append_left h]
  · by_cases h2 : i = l.length
    · subst h2; simp [List.getD]
    · rw [if_neg h, if_neg h2, List.getD_eq_getElem?_getD, List.getElem?_eq_none (by simp; omega)]; rfl
theorem okQ_snoc {n : Nat} {l : List Int} {k : Int} (h : okQ n l) (h0 : 0 ≤ k) (h1 : k < (n : Int)) (hc : l.contains k = false) : okQ n (l ++ [k]) := by
  refine ⟨fun i hi => ?_, ?_, by simp⟩
  · rw [ix_snoc]
    simp at hi
    split
    · next h2 => exact h.1 i h2
    · rw [if_pos (by omega)]; exact ⟨h0, h1⟩
  · rw [← marks_set h0]
    have hk : k.toNat < (marks n l).length := by rw [marks_len]; omega
    have h2 := List.count_set (l := marks n l) (i := k.toNat) (a := true) (b := true) hk
    have h3 : (marks n l)[k.toNat] = false := by
      have := marks_ix (n := n) (l := l) (x := k.toNat) (by omega)
      rw [ix_get hk, Int.toNat_of_nonneg h0, hc] at this
      exact this
    rw [h2, h3]
    simp [h.2.1]
theorem okQ_zero {n : Nat} (h : 1 ≤ n) : okQ n [0] := by
  refine ⟨fun i hi => ?_, ?_, by simp⟩
  · have : i = 0 := by simpa using hi
    subst this
    show 0 ≤ (0 : Int) ∧ (0 : Int) < (n : Int)
    omega
  · have e : marks n [] = List.replicate n false := by
      apply List.ext_getElem (by simp [marks])
      intro i h1 h2
      simp [marks]
    have := marks_set (n := n) (l := []) (k := 0) (by omega)
    rw [← show ([] : List Int) ++ [0] = [0] from rfl, ← this, e]
    have h2 := List.count_set (l := List.replicate n false) (i := 0) (a := true) (b := true) (by simp; omega)
    show ((List.replicate n false).set 0 true).count true = 1
    rw [h2]
    simp [List.count_replicate]
theorem marks_zero (n : Nat) : (List.replicate n false).set 0 true = marks n [0] := by
  have e : marks n [] = List.replicate n false := by
    apply List.ext_getElem (by simp [marks])
    intro i h1 h2
    simp [marks]
  have := marks_set (n := n) (l := []) (k := 0) (by omega)
  rw [e] at this
  exact this

namespace ref04
namespace T
theorem fld69_1 : FieldAt Tryd.prog 69 1 1 := fieldAt_of (by kernel_rfl)
theorem one28 : IsOne Tryd.prog 28 := isOne_of (by kernel_rfl)
theorem sl28 : IsSlice Tryd.prog 28 3 1 := isSlice_of (by kernel_rfl)
theorem one3 : IsOne Tryd.prog 3 := isOne_of (by kernel_rfl)
theorem ent59 : Ent Tryd.prog 59 := ent_of (by kernel_rfl)
theorem sl72 : IsSlice Tryd.prog 72 4 1 := isSlice_of (by kernel_rfl)
theorem one4 : IsOne Tryd.prog 4 := isOne_of (by kernel_rfl)
theorem fld69_0 : FieldAt Tryd.prog 69 0 0 := fieldAt_of (by kernel_rfl)
theorem agg69 : IsAgg Tryd.prog 69 2 := isAgg_of (by kernel_rfl)
theorem ent58 : Ent Tryd.prog 58 := ent_of (by kernel_rfl)
theorem fld25_1 : FieldAt Tryd.prog 25 1 1 := fieldAt_of (by kernel_rfl)
theorem one23 : IsOne Tryd.prog 23 := isOne_of (by kernel_rfl)
theorem sl23 : IsSlice Tryd.prog 23 69 2 := isSlice_of (by kernel_rfl)
theorem mk72 : MakeT Tryd.prog 72 4 1 1 [.bool false] := makeT_of (by kernel_rfl) (by kernel_rfl)
theorem z69 : ZeroIs Tryd.prog 69 [.slice none 0 0, .slice none 0 0] := zeroIs_of (by kernel_rfl)
theorem ent60 : Ent Tryd.prog 60 := ent_of (by kernel_rfl)
theorem z25 : ZeroIs Tryd.prog 25 [.slice none 0 0, .slice none 0 0] := zeroIs_of (by kernel_rfl)
theorem agg25 : IsAgg Tryd.prog 25 2 := isAgg_of (by kernel_rfl)
theorem ent36 : Ent Tryd.prog 36 := ent_of (by kernel_rfl)
theorem fld25_0 : FieldAt Tryd.prog 25 0 0 := fieldAt_of (by kernel_rfl)
theorem one22 : IsOne Tryd.prog 22 := isOne_of (by kernel_rfl)
theorem mk22 : MakeT Tryd.prog 22 9 1 16 [.string ⟨#[]⟩] := makeT_of (by kernel_rfl) (by kernel_rfl)
theorem st25 : StructT Tryd.prog 25 [(0, 1), (1, 1)] [.slice none 0 0, .slice none 0 0] := structT_of (by kernel_rfl) (by kernel_rfl)
theorem st69 : StructT Tryd.prog 69 [(0, 1), (1, 1)] [.slice none 0 0, .slice none 0 0] := structT_of (by kernel_rfl) (by kernel_rfl)
theorem mk28 : MakeT Tryd.prog 28 3 1 8 [.int .i64 0] := makeT_of (by kernel_rfl) (by kernel_rfl)
theorem mk23 : MakeT Tryd.prog 23 69 2 48 [.slice none 0 0, .slice none 0 0] := makeT_of (by kernel_rfl) (by kernel_rfl)
theorem mixed : Tryd.prog.follows .mixedOrders = true := by kernel_rfl
end T

theorem falls_ok (x : SState) (t : Int) (h : List Bool) (ht0 : 0 ≤ t) (ht1 : t < 2 ^ 63) (hn : x.next.length ≤ 64) (hb : ∀ a, a < x.next.length → ix x.next a < (h.length : Int)) :
    Fn0 Tryd.prog 58 [state x, int t, bls h] (bl (falls x t h)) := by
  refine fnI Tryd.func58 rfl rfl (fun w0 F0 => ?_)
  refine fcC (inhS 0 rfl) (fun hS0 => ?_)
  obtain ⟨hxa0, hxn0⟩ := state_lens hS0
  refine fcC (slenI 2 rfl) (fun hm2 => ?_)
  refine sq (rg (bx (key := 3) (cs := [sl 1 intE x.accept, sl 1 intE x.next]) rfl fun b3 => (ag (nl (th (sq (sq (rg (fP rfl T.fld69_1 (lP rfl rfl rfl T.one28 (fc (slenI 10 rfl) fun hm10 => (lnF rfl T.sl28 (mv (nl (th (bk ?_))))))))))))))))
  have hI0_0 : 0 ≤ x.next.length := by
    first | omega | simp
  have hI0_1 : (List.range 0).any (fun a => decide (0 ≤ ix x.next a) && has t (a : Int) && ix h (ix x.next a).toNat) = false := by
    simp
  refine lp (κ := Nat) (fun p => [(1, int t), (2, sl 1 blE h), (10, sl 1 intE x.next), (11, int (x.next.length : Int)), (12, int (p : Int))]) (fun p => [(3, cell b3 [sl 1 intE x.accept, sl 1 intE x.next])]) (fun p => (p ≤ x.next.length) ∧ ((List.range p).any (fun a => decide (0 ≤ ix x.next a) && has t (a : Int) && ix h (ix x.next a).toNat) = false)) (fun p => x.next.length - p) 0 ⟨hI0_0, hI0_1⟩ ⟨id, id, id, id, id, trivial⟩ ⟨⟨rfl, id⟩, trivial⟩ ?_
  intro k hG0
  obtain ⟨hk0, hI0⟩ : (k ≤ x.next.length) ∧ ((List.range k).any (fun a => decide (0 ≤ ix x.next a) && has t (a : Int) && ix h (ix x.next a).toNat) = false) := hG0
  refine sq (rg (bi rfl rfl b_lss (nl (th (sq ?_)))))
  refine cd rfl (fun hc0 => ?_) (fun hc0 => ?_)
  · try simp at hc0
    refine sk (th (sq (bk (sq (rg (mv (iF rfl rfl T.sl28 (by omega) (by first | exact gN (by omega) | exact gI (by omega) (by omega)) (lF rfl rfl T.one3 (ag (ag (nl (th (sq (rg (mv (bi rfl rfl b_geq (mv ?_)))))))))))))))))
    apply gAnd (t := 19) (pd := 23) rfl
    rotate_left
    · intro hg0 fin
      have hg0' := hg0
      try simp at hg0'
      exact gy rfl rfl rfl hg0 (mv (gy rfl rfl rfl hg0 (mv (gy rfl rfl rfl hg0 (cal0 (φs := [int t, int (k : Int)]) (φ := bl (has t (k : Int))) ⟨rfl, rfl, trivial⟩ (ref01.Has_ok _ _ (by omega) (by omega) (by omega) (by omega)) T.ent59 (pkT rfl hg0 rfl (drp (X := [(22, _), (21, _), (20, _)]) ⟨rfl, rfl, rfl, trivial⟩ (fin))))))))
    · intro hg0 fin
      exact gn rfl rfl rfl hg0 rfl rfl (gn rfl rfl rfl hg0 rfl rfl (gn rfl rfl rfl hg0 rfl rfl (pkF rfl hg0 rfl (drp (X := [(22, _), (21, _), (20, _)]) ⟨rfl, rfl, rfl, trivial⟩ (fin)))))
    refine mv ?_
    apply gAnd (t := 24) (pd := 29) rfl
    rotate_left
    · intro hg1 fin
      have hg1' := hg1
      try simp at hg1'
      have hbk := hb k (by omega)
      exact gy rfl rfl rfl hg1 (mv (gy rfl rfl rfl hg1 (mv (gy rfl rfl rfl hg1 (iF rfl rfl T.sl72 (by omega) (by first | exact gN (by omega) | exact gI (by omega) (by omega)) (gy rfl rfl rfl hg1 (lF rfl rfl T.one4 (pkT rfl hg1 rfl (drp (X := [(28, _), (27, _), (26, _), (25, _)]) ⟨rfl, rfl, rfl, rfl, trivial⟩ (fin))))))))))
    · intro hg1 fin
      exact gn rfl rfl rfl hg1 rfl rfl (gn rfl rfl rfl hg1 rfl rfl (gn rfl rfl rfl hg1 rfl rfl (gn rfl rfl rfl hg1 rfl rfl (pkF rfl hg1 rfl (drp (X := [(28, _), (27, _), (26, _), (25, _)]) ⟨rfl, rfl, rfl, rfl, trivial⟩ (fin))))))
    refine nl (th ?_)
    refine cd rfl (fun hc1 => ?_) (fun hc1 => ?_)
    · try simp at hc1
      refine sq (rg (ag (nl (th (rt (rb (rt_ (rt_ (rb (rt_ ?_))))))))))
      have hr0 : true = (falls x t h) := by
        unfold falls
        rw [any_range_yes (i := k) (by omega)]
        simp only [hc1]; simp
      have hall : ∀ x0, true = x0 → resAV [bl true] = resAV [bl x0] := by rintro _ rfl; rfl
      exact rE () [.tmp 6] rfl [bl true] ⟨.tmp rfl, trivial⟩ (hall _ hr0) trivial (by first | exact .inr rfl | exact .inl rfl)
    · try simp at hc1
      refine sk (eb (th (rg (bi rfl rfl (b_add (by unfold I64; omega)) (mv (nl ?_))))))
      have hN0 : (k + 1) ≤ x.next.length := by
        first | omega | simp_all
      have hN1 : (List.range (k + 1)).any (fun a => decide (0 ≤ ix x.next a) && has t (a : Int) && ix h (ix x.next a).toNat) = false := by
        rw [any_range_succ, hI0]
        cases hq : (decide (0 ≤ ix x.next k) && has t (k : Int) && ix h (ix x.next k).toNat)
        · rfl
        · simp at hq
          have := hc1 hq.1.1 hq.1.2
          rw [hq.2] at this; cases this
      exact ln (k + 1) ⟨hN0, hN1⟩ (by first | omega | (dsimp only; omega)) ⟨id, id, id, id, id, trivial⟩ ⟨⟨rfl, id⟩, trivial⟩
  · try simp at hc0
    refine ex (xt_ (xt_ (xb (th (sq (rg (ag (nl (th (rt ?_))))))))))
    have hr0 : false = (falls x t h) := by
      unfold falls
      rw [show x.next.length = k by omega, hI0]
    have hall : ∀ x0, false = x0 → resAV [bl false] = resAV [bl x0] := by rintro _ rfl; rfl
    exact rE () [.tmp 6] rfl [bl false] ⟨.tmp rfl, trivial⟩ (hall _ hr0) trivial (by first | exact .inr rfl | exact .inl rfl)

theorem allFall_ok (x : SState) (h : List Bool) {n : Nat} (hx : okState x h.length n ∧ n ≤ 8) :
    Fn0 Tryd.prog 60 [state x, bls h] (bl (allFall x h)) := by
  refine fnI Tryd.func60 rfl rfl (fun w0 F0 => ?_)
  have hxl := hx.1.len
  refine fcC (inhS 0 rfl) (fun hS0 => ?_)
  obtain ⟨hxa0, hxn0⟩ := state_lens hS0
  refine fcC (slenI 1 rfl) (fun hm1 => ?_)
  refine sq (rg (bx (key := 2) (cs := [sl 1 intE x.accept, sl 1 intE x.next]) rfl fun b2 => (ag (nl (th (sq (sq (rg (fP rfl T.fld69_0 (lP rfl rfl rfl T.one28 (fc (slenI 8 rfl) fun hm8 => (lnF rfl T.sl28 (mv (nl (th (bk ?_))))))))))))))))
  have hI0_0 : 0 ≤ x.accept.length := by
    first | omega | simp
  have hI0_1 : (x.accept.take 0).all (fun t => falls x t h) = true := by
    simp
  refine lp (κ := Nat) (fun p => [(1, sl 1 blE h), (2, ptr 2 b2 0), (8, sl 1 intE x.accept), (9, int (x.accept.length : Int)), (10, int (p : Int))]) (fun p => [(2, cell b2 [sl 1 intE x.accept, sl 1 intE x.next])]) (fun p => (p ≤ x.accept.length) ∧ ((x.accept.take p).all (fun t => falls x t h) = true)) (fun p => x.accept.length - p) 0 ⟨hI0_0, hI0_1⟩ ⟨id, id, id, id, id, trivial⟩ ⟨⟨rfl, id⟩, trivial⟩ ?_
  intro k hG0
  obtain ⟨hk0, hI0⟩ : (k ≤ x.accept.length) ∧ ((x.accept.take k).all (fun t => falls x t h) = true) := hG0
  refine sq (rg (bi rfl rfl b_lss (nl (th (sq ?_)))))
  refine cd rfl (fun hc0 => ?_) (fun hc0 => ?_)
  · try simp at hc0
    have hac := hx.1.ac k (by omega)
    refine sk (th (sq (bk (sq (rg (iF rfl rfl T.sl28 (by omega) (by first | exact gN (by omega) | exact gI (by omega) (by omega)) (lF rfl rfl T.one3 (ag (nl (th (sq (rg (lPA rfl rfl T.agg69 rfl (mv (mv (cal0 (φs := [agg [sl 1 intE x.accept, sl 1 intE x.next], int (ix x.accept k), sl 1 blE h]) (φ := bl (falls x (ix x.accept k) h)) ⟨rfl, rfl, rfl, trivial⟩ (ref04.falls_ok x _ _ (by omega) (by omega) (by omega) (fun a ha => (hx.1.nx a (by omega)).2)) T.ent58 (no rfl (nl (th ?_)))))))))))))))))))
    refine cd rfl (fun hc1 => ?_) (fun hc1 => ?_)
    · try simp at hc1
      refine sq (rg (ag (nl (th (rt (rb (rt_ (rt_ (rb (rt_ ?_))))))))))
      have hr0 : false = (allFall x h) := by
        unfold allFall
        rw [all_fail (xs := x.accept) (k := k) (by omega) (by simpa using hc1)]
      have hall : ∀ x0, false = x0 → resAV [bl false] = resAV [bl x0] := by rintro _ rfl; rfl
      exact rE () [.tmp 4] rfl [bl false] ⟨.tmp rfl, trivial⟩ (hall _ hr0) trivial (by first | exact .inr rfl | exact .inl rfl)
    · try simp at hc1
      refine sk (eb (th (rg (bi rfl rfl (b_add (by unfold I64; omega)) (mv (nl ?_))))))
      have hN0 : (k + 1) ≤ x.accept.length := by
        first | omega | simp_all
      have hN1 : (x.accept.take (k + 1)).all (fun t => falls x t h) = true := by
        rw [all_take_succ (by omega), hI0]
        simpa using hc1
      exact ln (k + 1) ⟨hN0, hN1⟩ (by first | omega | (dsimp only; omega)) ⟨id, id, id, id, id, trivial⟩ ⟨⟨rfl, id⟩, trivial⟩
  · try simp at hc0
    refine ex (xt_ (xt_ (xb (th (sq (rg (ag (nl (th (rt ?_))))))))))
    have hr0 : true = (allFall x h) := by
      unfold allFall
      rw [show k = x.accept.length by omega, List.take_length] at hI0
      rw [hI0]
    have hall : ∀ x0, true = x0 → resAV [bl true] = resAV [bl x0] := by rintro _ rfl; rfl
    exact rE () [.tmp 4] rfl [bl true] ⟨.tmp rfl, trivial⟩ (hall _ hr0) trivial (by first | exact .inr rfl | exact .inl rfl)

theorem Hollow_ok (s : SSpec) (h : okSpec s) :
    Fn0 Tryd.prog 36 [spec s] (bls (hollow s)) := by
  refine fnI Tryd.func36 rfl rfl (fun w0 F0 => ?_)
  have hf0 := h.few0; have hf1 := h.few1
  refine fcC (inhS 0 rfl) (fun hS0 => ?_)
  obtain ⟨hsa0, hss0, hse0⟩ := spec_lens hS0
  refine sq (rg (bx (key := 1) (cs := [sl 1 strE s.actions, sl 2 stateE s.states]) rfl fun b1 => (ag (nl (th (sq (rg (fP rfl T.fld25_1 (lP rfl rfl rfl T.one23 (fc (slenI 8 rfl) fun hm8 => (lnF rfl T.sl23 (mk (key := 10) (m := s.states.length) (enc := blE) (y := false) rfl rfl T.mk72 (ex_cons ex_nil) (by unfold maxL; omega) (by unfold maxL; omega) fun v10 => (ag (nl (th (sq (sq (rg (ag (nl (th (bk ?_))))))))))))))))))))))
  have hI0_0 : (List.replicate s.states.length false).length = s.states.length ∧ (∀ x, ix (List.replicate s.states.length false) x = true → Hol s x) ∧ (true = false → ∀ x, x < s.states.length → allFall (ix s.states x) (List.replicate s.states.length false) = true → ix (List.replicate s.states.length false) x = true) := by
    refine ⟨by simp, fun x hx => ?_, by simp⟩
    unfold ix at hx
    rw [List.getD_eq_getElem?_getD] at hx
    rw [List.getElem?_replicate] at hx
    split at hx <;> simp at hx
  refine lp (κ := Bool × (List Bool)) (fun p => [(1, ptr 1 b1 0), (2, eqv (.slice none 0 0)), (3, osl 10 v10), (4, bl p.1)]) (fun p => [(1, cell b1 [sl 1 strE s.actions, sl 2 stateE s.states]), (10, own v10 4 1 blE p.2)]) (fun p => p.2.length = s.states.length ∧ (∀ x, ix p.2 x = true → Hol s x) ∧ (p.1 = false → ∀ x, x < s.states.length → allFall (ix s.states x) p.2 = true → ix p.2 x = true)) (fun p => 2 * p.2.count false + p.1.toNat) ⟨true, List.replicate s.states.length false⟩ hI0_0 ⟨id, id, id, id, trivial⟩ ⟨⟨rfl, id⟩, ⟨rfl, id⟩, trivial⟩ ?_
  intro ⟨b, l⟩ hG0
  have hI0 : l.length = s.states.length ∧ (∀ x, ix l x = true → Hol s x) ∧ (b = false → ∀ x, x < s.states.length → allFall (ix s.states x) l = true → ix l x = true) := hG0
  show Ct _ _ _ _ [(1, ptr 1 b1 0), (2, eqv (.slice none 0 0)), (3, osl 10 v10), (4, bl b)] [(1, cell b1 [sl 1 strE s.actions, sl 2 stateE s.states]), (10, own v10 4 1 blE l)] _
  refine sq (sq (rg (mv (nl (th ?_)))))
  refine cd rfl (fun hc0 => ?_) (fun hc0 => ?_)
  · try simp at hc0
    refine sk (th (bk (sq (rg (ag (nl (th (sq (rg (fP rfl T.fld25_1 (lP rfl rfl rfl T.one23 (lnF rfl T.sl23 (mv (nl (th (bk ?_))))))))))))))))
    have hI1_0 : 0 ≤ s.states.length := by
      first | omega | simp
    have hI1_1 : l.length = s.states.length ∧ (∀ x, ix l x = true → Hol s x) ∧ (false = false → l = l ∧ ∀ x, x < 0 → allFall (ix s.states x) l = true → ix l x = true) ∧ (false = true → l.count false < l.count false) := by
      exact ⟨hI0.1, hI0.2.1, fun _ => ⟨rfl, fun x hx => by omega⟩, fun h => by cases h⟩
    refine lp (κ := Nat × Bool × (List Bool)) (fun p => [(1, ptr 1 b1 0), (2, eqv (.slice none 0 0)), (3, osl 10 v10), (4, bl p.2.1), (13, sl 2 stateE s.states), (14, int (s.states.length : Int)), (15, int (p.1 : Int))]) (fun p => [(1, cell b1 [sl 1 strE s.actions, sl 2 stateE s.states]), (10, own v10 4 1 blE p.2.2)]) (fun p => (p.1 ≤ s.states.length) ∧ (p.2.2.length = s.states.length ∧ (∀ x, ix p.2.2 x = true → Hol s x) ∧ (p.2.1 = false → p.2.2 = l ∧ ∀ x, x < p.1 → allFall (ix s.states x) l = true → ix l x = true) ∧ (p.2.1 = true → p.2.2.count false < l.count false))) (fun p => s.states.length - p.1) ⟨0, false, l⟩ ⟨hI1_0, hI1_1⟩ ⟨id, id, id, id, id, id, id, trivial⟩ ⟨⟨rfl, id⟩, ⟨rfl, id⟩, trivial⟩ ?_
    intro ⟨k1, g1x, l1⟩ hG1
    obtain ⟨hk1, hI1⟩ : (k1 ≤ s.states.length) ∧ (l1.length = s.states.length ∧ (∀ x, ix l1 x = true → Hol s x) ∧ (g1x = false → l1 = l ∧ ∀ x, x < k1 → allFall (ix s.states x) l = true → ix l x = true) ∧ (g1x = true → l1.count false < l.count false)) := hG1
    show Ct _ _ _ _ [(1, ptr 1 b1 0), (2, eqv (.slice none 0 0)), (3, osl 10 v10), (4, bl g1x), (13, sl 2 stateE s.states), (14, int (s.states.length : Int)), (15, int (k1 : Int))] [(1, cell b1 [sl 1 strE s.actions, sl 2 stateE s.states]), (10, own v10 4 1 blE l1)] _
    refine sq (rg (bi rfl rfl b_lss (nl (th (sq ?_)))))
    refine cd rfl (fun hc1 => ?_) (fun hc1 => ?_)
    · try simp at hc1
      refine sk (th (sq (bk (sq (rg (mv (iF rfl rfl T.sl23 (by omega) (by first | exact gN (by omega) | exact gI (by omega) (by omega)) (lFA rfl T.agg69 (Nat.le_of_ble_eq_true rfl) (al (key := 6) T.z69 (ex_cons (ex_cons (ex_nil))) fun b6 => (ag (sPA (cs' := [sl 1 intE ((ix s.states k1).accept), sl 1 intE ((ix s.states k1).next)]) rfl rfl rfl T.agg69 rfl rfl (nl (th (sq (rg (mv (mv (iO rfl rfl rfl T.sl72 (by omega) (by omega) (lO rfl rfl (by first | exact gN (by omega) | exact gI (by omega) (by omega)) rfl T.one4 (no rfl (mv ?_)))))))))))))))))))))
      apply gAnd (t := 25) (pd := 29) rfl
      rotate_left
      · intro hg0 fin
        have hg0' := hg0
        try simp at hg0'
        exact gy rfl rfl rfl hg0 (lPA rfl rfl T.agg69 rfl (gy rfl rfl rfl hg0 (mv (gy rfl rfl rfl hg0 (calB (φs := [agg [sl 1 intE ((ix s.states k1).accept), sl 1 intE ((ix s.states k1).next)], sl 1 blE l1]) ⟨.here rfl, .own 10 rfl rfl, trivial⟩ (ref04.allFall_ok (ix s.states k1) _ (n := s.actions.length) ⟨by rw [hI1.1]; exact h.st k1 (by omega), h.n8⟩) T.ent60 (pkT rfl hg0 rfl (drp (X := [(28, _), (27, _), (26, _)]) ⟨rfl, rfl, rfl, trivial⟩ (fin))))))))
      · intro hg0 fin
        exact gn rfl rfl rfl hg0 rfl rfl (gn rfl rfl rfl hg0 rfl rfl (gn rfl rfl rfl hg0 rfl rfl (pkF rfl hg0 rfl (drp (X := [(28, _), (27, _), (26, _)]) ⟨rfl, rfl, rfl, trivial⟩ (fin)))))
      refine nl (th ?_)
      refine cd rfl (fun hc2 => ?_) (fun hc2 => ?_)
      · try simp at hc2
        refine rg (mv (mv (iO rfl rfl rfl T.sl72 (by omega) (by omega) (sO (φ := bl true) rfl rfl rfl T.one4 (by first | exact gN (by omega) | exact gI (by omega) (by omega)) rfl (y' := true) rfl (ag (nl (eb (th (rg (bi rfl rfl (b_add (by unfold I64; omega)) (mv (nl ?_))))))))))))
        have hN0 : (k1 + 1) ≤ s.states.length := by
          first | omega | simp_all
        have hN1 : (l1.set k1 true).length = s.states.length ∧ (∀ x, ix (l1.set k1 true) x = true → Hol s x) ∧ (true = false → (l1.set k1 true) = l ∧ ∀ x, x < (k1 + 1) → allFall (ix s.states x) l = true → ix l x = true) ∧ (true = true → (l1.set k1 true).count false < l.count false) := by
          have hlt : k1 < l1.length := by omega
          refine ⟨by simp [hI1.1], fun x hx => ?_, fun h => (by cases h), fun _ => ?_⟩
          · rw [ix_set hlt] at hx
            split at hx
            · next e => subst e; exact Hol_closed s _ (by omega) (fun i hi => by
                obtain ⟨a, q1, q2, g3, g4⟩ := allFall_iff.1 hc2.2 i hi
                exact ⟨a, q1, q2, g3, hI1.2.1 _ g4⟩)
            · exact hI1.2.1 x hx
          · have h1 := count_set hlt hc2.1
            cases g1x with
            | true => have := hI1.2.2.2 rfl; omega
            | false => have := (hI1.2.2.1 rfl).1; subst this; exact h1
        exact ln (⟨k1 + 1, true, l1.set k1 true⟩ : Nat × Bool × (List Bool)) ⟨hN0, hN1⟩ (by first | omega | (dsimp only; omega)) ⟨id, id, id, id, id, id, id, trivial⟩ ⟨⟨rfl, id⟩, ⟨rfl, id⟩, trivial⟩
      · try simp at hc2
        refine sk (eb (th (rg (bi rfl rfl (b_add (by unfold I64; omega)) (mv (nl ?_))))))
        have hN0 : (k1 + 1) ≤ s.states.length := by
          first | omega | simp_all
        have hN1 : l1.length = s.states.length ∧ (∀ x, ix l1 x = true → Hol s x) ∧ (g1x = false → l1 = l ∧ ∀ x, x < (k1 + 1) → allFall (ix s.states x) l = true → ix l x = true) ∧ (g1x = true → l1.count false < l.count false) := by
          refine ⟨hI1.1, hI1.2.1, fun hb => ⟨(hI1.2.2.1 hb).1, fun x hx hf => ?_⟩, hI1.2.2.2⟩
          by_cases e : x = k1
          · subst e
            have he := (hI1.2.2.1 hb).1
            subst he
            cases hq : ix l1 x
            · have := hc2 hq; rw [hf] at this; cases this
            · rfl
          · exact (hI1.2.2.1 hb).2 x (by omega) hf
        exact ln (⟨k1 + 1, g1x, l1⟩ : Nat × Bool × (List Bool)) ⟨hN0, hN1⟩ (by first | omega | (dsimp only; omega)) ⟨id, id, id, id, id, id, id, trivial⟩ ⟨⟨rfl, id⟩, ⟨rfl, id⟩, trivial⟩
    · try simp at hc1
      refine ex (xt_ (xt_ (xb (eb ?_))))
      have hN0 : l1.length = s.states.length ∧ (∀ x, ix l1 x = true → Hol s x) ∧ (g1x = false → ∀ x, x < s.states.length → allFall (ix s.states x) l1 = true → ix l1 x = true) := by
        refine ⟨hI1.1, hI1.2.1, fun hb x hx hf => ?_⟩
        obtain ⟨e, h3⟩ := hI1.2.2.1 hb
        subst e
        exact h3 x (by omega) hf
      exact ln (⟨g1x, l1⟩ : Bool × (List Bool)) hN0 (by cases g1x with
              | true => have := hI1.2.2.2 rfl; subst hc0; simp; omega
              | false => have := (hI1.2.2.1 rfl).1; subst this; subst hc0; simp) ⟨id, id, id, id, trivial⟩ ⟨⟨rfl, id⟩, ⟨rfl, id⟩, trivial⟩
  · try simp at hc0
    refine ex (xt_ (xt_ (xb (th (sq (rg (mv (ag (nl (th (rt ?_)))))))))))
    refine fzA 10 2 rfl rfl ?_
    have hr0 : l = (hollow s) := by
      exact hollow_eq hI0.1 hI0.2.1 (hI0.2.2 hc0)
    have hall : ∀ x0, l = x0 → resAV [sl 1 blE l] = resAV [sl 1 blE x0] := by rintro _ rfl; rfl
    exact rE () [.tmp 2] rfl [sl 1 blE l] ⟨.tmp rfl, trivial⟩ (hall _ hr0) trivial (by first | exact .inr rfl | exact .inl rfl)

theorem Solid_ok (s : SSpec) (h : okSpec s) :
    Fn0 Tryd.prog 34 [spec s] (spec (solid s)) := by
  refine fnI Tryd.func34 rfl rfl (fun w0 F0 => ?_)
  have hf0 := h.few0; have hf1 := h.few1; have hn8 := h.n8; have hhl := hollow_len s
  refine fcC (inhS 0 rfl) (fun hS0 => ?_)
  obtain ⟨hsa0, hss0, hse0⟩ := spec_lens hS0
  refine sq (rg (bx (key := 1) (cs := [sl 1 strE s.actions, sl 2 stateE s.states]) rfl fun b1 => (al (key := 2) T.z25 (ex_cons (ex_cons (ex_nil))) fun b2 => (nl (th (sq (rg (lPA rfl rfl T.agg25 rfl (cal0 (φs := [agg [sl 1 strE s.actions, sl 2 stateE s.states]]) (φ := sl 1 blE (hollow s)) ⟨rfl, trivial⟩ (ref04.Hollow_ok s (by assumption)) T.ent36 (ag (nl (th (sq (rg (fP rfl T.fld25_0 (lP rfl rfl rfl T.one22 (appendF (enc := strE) (ys := s.actions) rfl rfl T.mk22 (by unfold maxL; omega) (bd (css := [(0, _)]) T.st25 (ex_cons (ex_cons (ex_nil))) ⟨rfl, rfl, p1 (φ := sl 1 strE s.actions) rfl, trivial⟩ (al (key := 4) T.z25 (ex_cons (ex_cons (ex_nil))) fun b4 => (sPA (cs' := [sl 1 strE s.actions, eqv (.slice none 0 0)]) rfl rfl rfl T.agg25 rfl rfl (nl (th (sq (sq (rg (fP rfl T.fld25_1 (lP rfl rfl rfl T.one23 (fc (slenI 20 rfl) fun hm20 => (lnF rfl T.sl23 (mv (nl (th (bk ?_)))))))))))))))))))))))))))))))))
  refine nwC 40 69 2 stateE (kncC 4 1 (osl 40 (.slice none 0 0)) rfl rfl eq_osl ?_)
  have hI0_0 : 0 ≤ s.states.length := by
    first | omega | simp
  have hI0_1 : ([] : List SState) = (List.range 0).map (solidState s) := by
    rfl
  refine lp (κ := Nat × Value × (List SState)) (fun p => [(2, ptr 2 b2 0), (3, sl 1 blE (hollow s)), (4, ptr 4 b4 0), (20, sl 2 stateE s.states), (21, int (s.states.length : Int)), (22, int (p.1 : Int))]) (fun p => [(1, cell b1 [sl 1 strE s.actions, sl 2 stateE s.states]), (2, cell b2 [eqv (.slice none 0 0), eqv (.slice none 0 0)]), (4, cell b4 [sl 1 strE s.actions, osl 40 p.2.1]), (40, own p.2.1 69 2 stateE p.2.2)]) (fun p => (p.1 ≤ s.states.length) ∧ (p.2.2 = (List.range p.1).map (solidState s))) (fun p => s.states.length - p.1) ⟨0, (.slice none 0 0), ([] : List SState)⟩ ⟨hI0_0, hI0_1⟩ ⟨id, id, id, id, id, id, trivial⟩ ⟨⟨rfl, id⟩, ⟨rfl, id⟩, ⟨rfl, id⟩, ⟨rfl, id⟩, trivial⟩ ?_
  intro ⟨k, v, acc⟩ hG0
  obtain ⟨hk0, hI0⟩ : (k ≤ s.states.length) ∧ (acc = (List.range k).map (solidState s)) := hG0
  show Ct _ _ _ _ [(2, ptr 2 b2 0), (3, sl 1 blE (hollow s)), (4, ptr 4 b4 0), (20, sl 2 stateE s.states), (21, int (s.states.length : Int)), (22, int (k : Int))] [(1, cell b1 [sl 1 strE s.actions, sl 2 stateE s.states]), (2, cell b2 [eqv (.slice none 0 0), eqv (.slice none 0 0)]), (4, cell b4 [sl 1 strE s.actions, osl 40 v]), (40, own v 69 2 stateE acc)] _
  have hal : acc.length = k := by rw [hI0]; simp
  refine sq (rg (bi rfl rfl b_lss (nl (th (sq ?_)))))
  refine cd rfl (fun hc0 => ?_) (fun hc0 => ?_)
  · try simp at hc0
    have hst := h.st k (by omega); have hsl := hst.len; have hacl := hst.acl
    refine sk (th (sq (bk (sq (rg (mv (iF rfl rfl T.sl23 (by omega) (by first | exact gN (by omega) | exact gI (by omega) (by omega)) (lFA rfl T.agg69 (Nat.le_of_ble_eq_true rfl) (al (key := 6) T.z69 (ex_cons (ex_cons (ex_nil))) fun b6 => (ag (sPA (cs' := [sl 1 intE ((ix s.states k).accept), sl 1 intE ((ix s.states k).next)]) rfl rfl rfl T.agg69 rfl rfl (nl (th (sq (rg (bd (css := []) T.st69 (ex_cons (ex_cons (ex_nil))) trivial (al (key := 7) T.z69 (ex_cons (ex_cons (ex_nil))) fun b7 => (sPA (cs' := [eqv (.slice none 0 0), eqv (.slice none 0 0)]) rfl rfl rfl T.agg69 rfl rfl (ag (nl (th (sq (sq (rg (fP rfl T.fld69_0 (lP rfl rfl rfl T.one28 (fc (slenI 29 rfl) fun hm29 => (lnF rfl T.sl28 (mv (nl (th (bk ?_))))))))))))))))))))))))))))))))
    refine nwC 70 3 1 intE (kncC 7 0 (osl 70 (.slice none 0 0)) rfl rfl eq_osl ?_)
    have hI1_0 : 0 ≤ ((ix s.states k).accept).length := by
      first | omega | simp
    have hI1_1 : ([] : List Int) = ((ix s.states k).accept.take 0).filter (fun t => !ix (hollow s) k && !falls (ix s.states k) t (hollow s)) ∧ (0 : Int) = orAll ([] : List Int) ∧ 0 ≤ (0 : Int) ∧ (0 : Int) < 256 ∧ ([] : List Int).length ≤ 0 := by
      refine ⟨by simp, rfl, by omega, by omega, by simp⟩
    refine lp (κ := Nat × Value × (List Int) × Int) (fun p => [(2, ptr 2 b2 0), (3, sl 1 blE (hollow s)), (4, ptr 4 b4 0), (5, int (k : Int)), (6, ptr 6 b6 0), (7, ptr 7 b7 0), (8, int p.2.2.2), (20, sl 2 stateE s.states), (21, int (s.states.length : Int)), (22, int (k : Int)), (29, sl 1 intE ((ix s.states k).accept)), (30, int (((ix s.states k).accept).length : Int)), (31, int (p.1 : Int))]) (fun p => [(1, cell b1 [sl 1 strE s.actions, sl 2 stateE s.states]), (2, cell b2 [eqv (.slice none 0 0), eqv (.slice none 0 0)]), (4, cell b4 [sl 1 strE s.actions, osl 40 v]), (6, cell b6 [sl 1 intE ((ix s.states k).accept), sl 1 intE ((ix s.states k).next)]), (7, cell b7 [osl 70 p.2.1, eqv (.slice none 0 0)]), (40, own v 69 2 stateE acc), (70, own p.2.1 3 1 intE p.2.2.1)]) (fun p => (p.1 ≤ ((ix s.states k).accept).length) ∧ (p.2.2.1 = ((ix s.states k).accept.take p.1).filter (fun t => !ix (hollow s) k && !falls (ix s.states k) t (hollow s)) ∧ p.2.2.2 = orAll p.2.2.1 ∧ 0 ≤ p.2.2.2 ∧ p.2.2.2 < 256 ∧ p.2.2.1.length ≤ p.1)) (fun p => ((ix s.states k).accept).length - p.1) ⟨0, (.slice none 0 0), ([] : List Int), (0 : Int)⟩ ⟨hI1_0, hI1_1⟩ ⟨id, id, id, id, id, id, id, id, id, id, id, id, id, trivial⟩ ⟨⟨rfl, id⟩, ⟨rfl, id⟩, ⟨rfl, id⟩, ⟨rfl, id⟩, ⟨rfl, id⟩, ⟨rfl, id⟩, ⟨rfl, id⟩, trivial⟩ ?_
    intro ⟨k1, v1x, l1, u⟩ hG1
    obtain ⟨hk1, hI1⟩ : (k1 ≤ ((ix s.states k).accept).length) ∧ (l1 = ((ix s.states k).accept.take k1).filter (fun t => !ix (hollow s) k && !falls (ix s.states k) t (hollow s)) ∧ u = orAll l1 ∧ 0 ≤ u ∧ u < 256 ∧ l1.length ≤ k1) := hG1
    show Ct _ _ _ _ [(2, ptr 2 b2 0), (3, sl 1 blE (hollow s)), (4, ptr 4 b4 0), (5, int (k : Int)), (6, ptr 6 b6 0), (7, ptr 7 b7 0), (8, int u), (20, sl 2 stateE s.states), (21, int (s.states.length : Int)), (22, int (k : Int)), (29, sl 1 intE ((ix s.states k).accept)), (30, int (((ix s.states k).accept).length : Int)), (31, int (k1 : Int))] [(1, cell b1 [sl 1 strE s.actions, sl 2 stateE s.states]), (2, cell b2 [eqv (.slice none 0 0), eqv (.slice none 0 0)]), (4, cell b4 [sl 1 strE s.actions, osl 40 v]), (6, cell b6 [sl 1 intE ((ix s.states k).accept), sl 1 intE ((ix s.states k).next)]), (7, cell b7 [osl 70 v1x, eqv (.slice none 0 0)]), (40, own v 69 2 stateE acc), (70, own v1x 3 1 intE l1)] _
    refine sq (rg (bi rfl rfl b_lss (nl (th (sq ?_)))))
    refine cd rfl (fun hc1 => ?_) (fun hc1 => ?_)
    · try simp at hc1
      have hac := hst.ac k1 (by omega)
      refine sk (th (sq (bk (sq (rg (iF rfl rfl T.sl28 (by omega) (by first | exact gN (by omega) | exact gI (by omega) (by omega)) (lF rfl rfl T.one3 (ag (nl (th (sq (rg (mv (mv (iF rfl rfl T.sl72 (by omega) (by first | exact gN (by omega) | exact gI (by omega) (by omega)) (lF rfl rfl T.one4 (no rfl (mv ?_))))))))))))))))))
      apply gAnd (t := 40) (pd := 46) rfl
      rotate_left
      · intro hg0 fin
        have hg0' := hg0
        try simp at hg0'
        exact gy rfl rfl rfl hg0 (lPA rfl rfl T.agg69 rfl (gy rfl rfl rfl hg0 (mv (gy rfl rfl rfl hg0 (mv (gy rfl rfl rfl hg0 (cal0 (φs := [agg [sl 1 intE ((ix s.states k).accept), sl 1 intE ((ix s.states k).next)], int (ix ((ix s.states k).accept) k1), sl 1 blE (hollow s)]) (φ := bl (falls (ix s.states k) (ix ((ix s.states k).accept) k1) (hollow s))) ⟨rfl, rfl, rfl, trivial⟩ (ref04.falls_ok (ix s.states k) _ _ (by omega) (by omega) (by omega) (fun a ha => by rw [hollow_len]; exact (hst.nx a (by omega)).2)) T.ent58 (gy rfl rfl rfl hg0 (no rfl (pkT rfl hg0 rfl (drp (X := [(45, _), (44, _), (43, _), (42, _), (41, _)]) ⟨rfl, rfl, rfl, rfl, rfl, trivial⟩ (fin))))))))))))
      · intro hg0 fin
        exact gn rfl rfl rfl hg0 rfl rfl (gn rfl rfl rfl hg0 rfl rfl (gn rfl rfl rfl hg0 rfl rfl (gn rfl rfl rfl hg0 rfl rfl (gn rfl rfl rfl hg0 rfl rfl (pkF rfl hg0 rfl (drp (X := [(45, _), (44, _), (43, _), (42, _), (41, _)]) ⟨rfl, rfl, rfl, rfl, rfl, trivial⟩ (fin)))))))
      refine nl (th ?_)
      refine cd rfl (fun hc2 => ?_) (fun hc2 => ?_)
      · try simp at hc2
        refine sq (rg (fP rfl T.fld69_0 (lP rfl rfl rfl T.one28 (mv (bsE (enc := intE) (xs := [(ix ((ix s.states k).accept) k1)]) (css := [[int (ix ((ix s.states k).accept) k1)]]) T.mk28 ⟨rfl, rfl, p1 (φ := int (ix ((ix s.states k).accept) k1)) rfl, trivial⟩ rfl rfl rfl rfl (ap (key := 70) (zs := [(ix ((ix s.states k).accept) k1)]) osl_eq rfl rfl rfl T.mk28 (by unfold maxL at *; simp; omega) (by unfold maxL at *; simp; omega) fun v51 => (fP rfl T.fld69_0 (storePO rfl rfl rfl rfl T.one28 rfl (nl (th (rg (mv (mv (bi rfl rfl (b_orI (by omega) (by omega) (by omega) (by omega)) (ag (nl (eb (th (rg (bi rfl rfl (b_add (by unfold I64; omega)) (mv (nl ?_))))))))))))))))))))))
        have hN0 : (k1 + 1) ≤ ((ix s.states k).accept).length := by
          first | omega | simp_all
        have hN1 : (l1 ++ [(ix ((ix s.states k).accept) k1)]) = ((ix s.states k).accept.take (k1 + 1)).filter (fun t => !ix (hollow s) k && !falls (ix s.states k) t (hollow s)) ∧ ((u.toNat ||| ((ix ((ix s.states k).accept) k1).toNat) : Nat) : Int) = orAll (l1 ++ [(ix ((ix s.states k).accept) k1)]) ∧ 0 ≤ ((u.toNat ||| ((ix ((ix s.states k).accept) k1).toNat) : Nat) : Int) ∧ ((u.toNat ||| ((ix ((ix s.states k).accept) k1).toNat) : Nat) : Int) < 256 ∧ (l1 ++ [(ix ((ix s.states k).accept) k1)]).length ≤ (k1 + 1) := by
          refine ⟨?_, ?_, by omega, or_lt256 hI1.2.2.2.1 hac.2, by simp; omega⟩
          · rw [filter_take_succ (by omega), hI1.1]; simp [hc2]
          · rw [orAll_snoc, hI1.2.1]
        exact ln (⟨k1 + 1, v51, l1 ++ [(ix ((ix s.states k).accept) k1)], ((u.toNat ||| ((ix ((ix s.states k).accept) k1).toNat) : Nat) : Int)⟩ : Nat × Value × (List Int) × Int) ⟨hN0, hN1⟩ (by first | omega | (dsimp only; omega)) ⟨id, id, id, id, id, id, id, id, id, id, id, id, id, trivial⟩ ⟨⟨rfl, id⟩, ⟨rfl, id⟩, ⟨rfl, id⟩, ⟨rfl, id⟩, ⟨rfl, id⟩, ⟨rfl, id⟩, ⟨rfl, id⟩, trivial⟩
      · try simp at hc2
        refine sk (eb (th (rg (bi rfl rfl (b_add (by unfold I64; omega)) (mv (nl ?_))))))
        have hN0 : (k1 + 1) ≤ ((ix s.states k).accept).length := by
          first | omega | simp_all
        have hN1 : l1 = ((ix s.states k).accept.take (k1 + 1)).filter (fun t => !ix (hollow s) k && !falls (ix s.states k) t (hollow s)) ∧ u = orAll l1 ∧ 0 ≤ u ∧ u < 256 ∧ l1.length ≤ (k1 + 1) := by
          refine ⟨?_, hI1.2.1, hI1.2.2.1, hI1.2.2.2.1, by omega⟩
          rw [filter_take_succ (by omega), hI1.1]
          by_cases hq : ix (hollow s) k = true <;> simp_all
        exact ln (⟨k1 + 1, v1x, l1, u⟩ : Nat × Value × (List Int) × Int) ⟨hN0, hN1⟩ (by first | omega | (dsimp only; omega)) ⟨id, id, id, id, id, id, id, id, id, id, id, id, id, trivial⟩ ⟨⟨rfl, id⟩, ⟨rfl, id⟩, ⟨rfl, id⟩, ⟨rfl, id⟩, ⟨rfl, id⟩, ⟨rfl, id⟩, ⟨rfl, id⟩, trivial⟩
    · try simp at hc1
      refine ex (xt_ (xt_ (xb (th (sq (sq (rg (fP rfl T.fld69_1 (lP rfl rfl rfl T.one28 (fc (slenI 58 rfl) fun hm58 => (lnF rfl T.sl28 (mv (nl (th (bk ?_)))))))))))))))
      refine fzcC 7 70 0 rfl rfl rfl rfl (nwC 71 3 1 intE (kncC 7 1 (osl 71 (.slice none 0 0)) rfl rfl eq_osl ?_))
      have hI2_0 : 0 ≤ ((ix s.states k).next).length := by
        first | omega | simp
      have hI2_1 : ([] : List Int) = (List.range 0).map (fun (a : Nat) => if has u (a : Int) then ix (ix s.states k).next a else -1) := by
        rfl
      refine lp (κ := Nat × Value × (List Int)) (fun p => [(2, ptr 2 b2 0), (3, sl 1 blE (hollow s)), (4, ptr 4 b4 0), (7, ptr 7 b7 0), (8, int u), (20, sl 2 stateE s.states), (21, int (s.states.length : Int)), (22, int (k : Int)), (58, sl 1 intE ((ix s.states k).next)), (59, int (((ix s.states k).next).length : Int)), (60, int (p.1 : Int))]) (fun p => [(1, cell b1 [sl 1 strE s.actions, sl 2 stateE s.states]), (2, cell b2 [eqv (.slice none 0 0), eqv (.slice none 0 0)]), (4, cell b4 [sl 1 strE s.actions, osl 40 v]), (6, cell b6 [sl 1 intE ((ix s.states k).accept), sl 1 intE ((ix s.states k).next)]), (7, cell b7 [sl 1 intE l1, osl 71 p.2.1]), (40, own v 69 2 stateE acc), (71, own p.2.1 3 1 intE p.2.2)]) (fun p => (p.1 ≤ ((ix s.states k).next).length) ∧ (p.2.2 = (List.range p.1).map (fun (a : Nat) => if has u (a : Int) then ix (ix s.states k).next a else -1))) (fun p => ((ix s.states k).next).length - p.1) ⟨0, (.slice none 0 0), ([] : List Int)⟩ ⟨hI2_0, hI2_1⟩ ⟨id, id, id, id, id, id, id, id, id, id, id, trivial⟩ ⟨⟨rfl, id⟩, ⟨rfl, id⟩, ⟨rfl, id⟩, ⟨rfl, id⟩, ⟨rfl, id⟩, ⟨rfl, id⟩, ⟨rfl, id⟩, trivial⟩ ?_
      intro ⟨k2, v2x, l2⟩ hG2
      obtain ⟨hk2, hI2⟩ : (k2 ≤ ((ix s.states k).next).length) ∧ (l2 = (List.range k2).map (fun (a : Nat) => if has u (a : Int) then ix (ix s.states k).next a else -1)) := hG2
      show Ct _ _ _ _ [(2, ptr 2 b2 0), (3, sl 1 blE (hollow s)), (4, ptr 4 b4 0), (7, ptr 7 b7 0), (8, int u), (20, sl 2 stateE s.states), (21, int (s.states.length : Int)), (22, int (k : Int)), (58, sl 1 intE ((ix s.states k).next)), (59, int (((ix s.states k).next).length : Int)), (60, int (k2 : Int))] [(1, cell b1 [sl 1 strE s.actions, sl 2 stateE s.states]), (2, cell b2 [eqv (.slice none 0 0), eqv (.slice none 0 0)]), (4, cell b4 [sl 1 strE s.actions, osl 40 v]), (6, cell b6 [sl 1 intE ((ix s.states k).accept), sl 1 intE ((ix s.states k).next)]), (7, cell b7 [sl 1 intE l1, osl 71 v2x]), (40, own v 69 2 stateE acc), (71, own v2x 3 1 intE l2)] _
      have hl2 : l2.length = k2 := by rw [hI2]; simp
      refine sq (rg (bi rfl rfl b_lss (nl (th (sq ?_)))))
      refine cd rfl (fun hc3 => ?_) (fun hc3 => ?_)
      · try simp at hc3
        refine sk (th (sq (bk (sq (rg (mv (iF rfl rfl T.sl28 (by omega) (by first | exact gN (by omega) | exact gI (by omega) (by omega)) (lF rfl rfl T.one3 (ag (ag (nl (th (sq (sq (rg (mv (mv (cal0 (φs := [int u, int (k2 : Int)]) (φ := bl (has u (k2 : Int))) ⟨rfl, rfl, trivial⟩ (ref01.Has_ok _ _ (by omega) (by omega) (by omega) (by omega)) T.ent59 (no rfl (nl (th ?_)))))))))))))))))))))
        refine cd rfl (fun hc4 => ?_) (fun hc4 => ?_)
        · try simp at hc4
          refine rg (ag (nl (th (rg (fP rfl T.fld69_1 (lP rfl rfl rfl T.one28 (mv (bsE (enc := intE) (xs := [(-1)]) (css := [[int (-1)]]) T.mk28 ⟨rfl, rfl, p1 (φ := int (-1)) rfl, trivial⟩ rfl rfl rfl rfl (ap (key := 71) (zs := [(-1)]) osl_eq rfl rfl rfl T.mk28 (by unfold maxL at *; simp; omega) (by unfold maxL at *; simp; omega) fun v73 => (fP rfl T.fld69_1 (storePO rfl rfl rfl rfl T.one28 rfl (nl (eb (th (rg (bi rfl rfl (b_add (by unfold I64; omega)) (mv (nl ?_))))))))))))))))))
          have hN0 : (k2 + 1) ≤ ((ix s.states k).next).length := by
            first | omega | simp_all
          have hN1 : (l2 ++ [(-1)]) = (List.range (k2 + 1)).map (fun (a : Nat) => if has u (a : Int) then ix (ix s.states k).next a else -1) := by
            rw [map_range_succ, hI2]; simp [hc4]
          exact ln (⟨k2 + 1, v73, l2 ++ [(-1)]⟩ : Nat × Value × (List Int)) ⟨hN0, hN1⟩ (by first | omega | (dsimp only; omega)) ⟨id, id, id, id, id, id, id, id, id, id, id, trivial⟩ ⟨⟨rfl, id⟩, ⟨rfl, id⟩, ⟨rfl, id⟩, ⟨rfl, id⟩, ⟨rfl, id⟩, ⟨rfl, id⟩, ⟨rfl, id⟩, trivial⟩
        · try simp at hc4
          refine sk (th (rg (fP rfl T.fld69_1 (lP rfl rfl rfl T.one28 (mv (bsE (enc := intE) (xs := [(ix ((ix s.states k).next) k2)]) (css := [[int (ix ((ix s.states k).next) k2)]]) T.mk28 ⟨rfl, rfl, p1 (φ := int (ix ((ix s.states k).next) k2)) rfl, trivial⟩ rfl rfl rfl rfl (ap (key := 71) (zs := [(ix ((ix s.states k).next) k2)]) osl_eq rfl rfl rfl T.mk28 (by unfold maxL at *; simp; omega) (by unfold maxL at *; simp; omega) fun v73 => (fP rfl T.fld69_1 (storePO rfl rfl rfl rfl T.one28 rfl (nl (eb (th (rg (bi rfl rfl (b_add (by unfold I64; omega)) (mv (nl ?_))))))))))))))))
          have hN0 : (k2 + 1) ≤ ((ix s.states k).next).length := by
            first | omega | simp_all
          have hN1 : (l2 ++ [(ix ((ix s.states k).next) k2)]) = (List.range (k2 + 1)).map (fun (a : Nat) => if has u (a : Int) then ix (ix s.states k).next a else -1) := by
            rw [map_range_succ, hI2]; simp [hc4]
          exact ln (⟨k2 + 1, v73, l2 ++ [(ix ((ix s.states k).next) k2)]⟩ : Nat × Value × (List Int)) ⟨hN0, hN1⟩ (by first | omega | (dsimp only; omega)) ⟨id, id, id, id, id, id, id, id, id, id, id, trivial⟩ ⟨⟨rfl, id⟩, ⟨rfl, id⟩, ⟨rfl, id⟩, ⟨rfl, id⟩, ⟨rfl, id⟩, ⟨rfl, id⟩, ⟨rfl, id⟩, trivial⟩
      · try simp at hc3
        refine ex (xt_ (xt_ (xb (th (rg (fP rfl T.fld25_1 (lP rfl rfl rfl T.one23 (fzc 7 71 1 rfl rfl rfl rfl (lPA rfl rfl T.agg69 rfl (bsE (enc := stateE) (xs := [(⟨l1, l2⟩)]) (css := [[sl 1 intE l1, sl 1 intE l2]]) T.mk23 ⟨rfl, rfl, pA (cs := [sl 1 intE l1, sl 1 intE l2]) rfl, trivial⟩ rfl rfl rfl rfl (ap (key := 40) (zs := [(⟨l1, l2⟩)]) osl_eq rfl rfl rfl T.mk23 (by unfold maxL at *; simp; omega) (by unfold maxL at *; simp; omega) fun v80 => (fP rfl T.fld25_1 (storePO rfl rfl rfl rfl T.one23 rfl (nl (eb (th (rg (bi rfl rfl (b_add (by unfold I64; omega)) (mv (nl ?_))))))))))))))))))))
        have hN0 : (k + 1) ≤ s.states.length := by
          first | omega | simp_all
        have hN1 : (acc ++ [(⟨l1, l2⟩)]) = (List.range (k + 1)).map (solidState s) := by
          rw [map_range_succ, hI0]
          congr 2
          have e1 : l1 = keep s k := by rw [hI1.1, show k1 = (ix s.states k).accept.length by omega, List.take_length]; rfl
          have e2 : l2 = cut (ix s.states k) u := by rw [hI2, show k2 = (ix s.states k).next.length by omega]; rfl
          rw [e2, hI1.2.1, e1]; rfl
        exact ln (⟨k + 1, v80, acc ++ [(⟨l1, l2⟩)]⟩ : Nat × Value × (List SState)) ⟨hN0, hN1⟩ (by first | omega | (dsimp only; omega)) ⟨id, id, id, id, id, id, trivial⟩ ⟨⟨rfl, id⟩, ⟨rfl, id⟩, ⟨rfl, id⟩, ⟨rfl, id⟩, trivial⟩
  · try simp at hc0
    refine ex (xt_ (xt_ (xb (th (sq (rg (fzc 4 40 1 rfl rfl rfl rfl (lPA rfl rfl T.agg25 rfl (sPA (cs' := [sl 1 strE s.actions, sl 2 stateE acc]) rfl rfl rfl T.agg25 rfl rfl (nl (th (rt ?_))))))))))))
    have hr0 : s.actions = ((solid s).actions) := by
      rfl
    have hr1 : acc = ((solid s).states) := by
      unfold solid; rw [hI0, show k = s.states.length by omega]
    have hall : ∀ x0 x1, s.actions = x0 → acc = x1 → resAV [agg [sl 1 strE s.actions, sl 2 stateE acc]] = resAV [agg [sl 1 strE x0, sl 2 stateE x1]] := by rintro _ _ rfl rfl; rfl
    exact rE () [.cell 2 25] rfl [agg [sl 1 strE s.actions, sl 2 stateE acc]] ⟨.agg rfl rfl T.agg25 rfl rfl, trivial⟩ (hall _ _ hr0 hr1) trivial (by first | exact .inr rfl | exact .inl rfl)

theorem Order_ok (s : SSpec) (h1 : 1 ≤ s.states.length) (h2 : s.states.length ≤ 500) (hn : ∀ k, k < s.states.length → (ix s.states k).next.length ≤ 8 ∧ ∀ a, a < (ix s.states k).next.length → ix (ix s.states k).next a < (s.states.length : Int)) :
    Fn0 Tryd.prog 38 [spec s] (ints (order s)) := by
  refine fnI Tryd.func38 rfl rfl (fun w0 F0 => ?_)
  refine fcC (inhS 0 rfl) (fun hS0 => ?_)
  obtain ⟨hsa0, hss0, hse0⟩ := spec_lens hS0
  refine sq (rg (bx (key := 1) (cs := [sl 1 strE s.actions, sl 2 stateE s.states]) rfl fun b1 => (ag (nl (th (sq (rg (fP rfl T.fld25_1 (lP rfl rfl rfl T.one23 (fc (slenI 9 rfl) fun hm9 => (lnF rfl T.sl23 (mk (key := 11) (m := s.states.length) (enc := blE) (y := false) rfl rfl T.mk72 (ex_cons ex_nil) (by unfold maxL; omega) (by unfold maxL; omega) fun v11 => (ag (nl (th (sq (rg (mv (iO rfl rfl rfl T.sl72 (by omega) (by simp; omega) (sO (φ := bl true) rfl rfl rfl T.one4 (gK (k := 0) (by simp; omega)) rfl (y' := true) rfl (nl (th (sq (rg (bsO 14 (enc := intE) (xs := [0]) (css := [[int 0]]) T.mk28 ⟨rfl, rfl, p1 (φ := int 0) rfl, trivial⟩ rfl rfl rfl rfl fun v14 => (ag (nl (th (sq (sq (rg (ag (nl (th (bk ?_)))))))))))))))))))))))))))))))))))
  have hI0_0 : ([0] : List Int) = bq s 0 ∧ ((List.replicate s.states.length false).set 0 true) = marks s.states.length ([0] : List Int) ∧ okQ s.states.length ([0] : List Int) ∧ 0 ≤ ([0] : List Int).length := by
    exact ⟨rfl, marks_zero _, okQ_zero h1, by simp⟩
  refine lp (κ := Nat × Value × (List Int) × (List Bool)) (fun p => [(1, ptr 1 b1 0), (2, eqv (.slice none 0 0)), (3, osl 11 v11), (4, osl 14 p.2.1), (5, int (p.1 : Int))]) (fun p => [(1, cell b1 [sl 1 strE s.actions, sl 2 stateE s.states]), (11, own v11 4 1 blE p.2.2.2), (14, own p.2.1 3 1 intE p.2.2.1)]) (fun p => p.2.2.1 = bq s p.1 ∧ p.2.2.2 = marks s.states.length p.2.2.1 ∧ okQ s.states.length p.2.2.1 ∧ p.1 ≤ p.2.2.1.length) (fun p => s.states.length + 1 - p.1) ⟨0, v14, ([0] : List Int), (List.replicate s.states.length false).set 0 true⟩ hI0_0 ⟨id, id, id, id, id, trivial⟩ ⟨⟨rfl, id⟩, ⟨rfl, id⟩, ⟨rfl, id⟩, trivial⟩ ?_
  intro ⟨i, v, l, fl⟩ hG0
  have hI0 : l = bq s i ∧ fl = marks s.states.length l ∧ okQ s.states.length l ∧ i ≤ l.length := hG0
  show Ct _ _ _ _ [(1, ptr 1 b1 0), (2, eqv (.slice none 0 0)), (3, osl 11 v11), (4, osl 14 v), (5, int (i : Int))] [(1, cell b1 [sl 1 strE s.actions, sl 2 stateE s.states]), (11, own v11 4 1 blE fl), (14, own v 3 1 intE l)] _
  refine sq (sq (rg (mv (mv (lnO rfl rfl T.sl28 (bi rfl rfl b_lss (nl (th ?_))))))))
  refine cd rfl (fun hc0 => ?_) (fun hc0 => ?_)
  · try simp at hc0
    have hq := hI0.2.2.1.1 i (by omega)
    have hnx := hn (ix l i).toNat (by omega)
    have hle := hI0.2.2.1.le
    refine sk (th (sq (bk (sq (dr (nh := 11) [0, 1, 0, 0, 12, 28, 63, 127, 255, 511, 0] T.mixed (by kernel_rfl) ?_)))))
    refine st_ rfl (fun _ _ _ gq kq => fP (gq.1.trans rfl) T.fld25_1 kq) ?_
    refine st_ rfl (fun _ _ _ gq kq => lP (gq.1.trans rfl) rfl rfl T.one23 kq) ?_
    refine st_ rfl (fun _ _ _ gq kq => mv' (gq.1.trans rfl) kq) ?_
    refine st_ rfl (fun _ _ _ gq kq => mv' (gq.1.trans rfl) kq) ?_
    refine st_ rfl (fun _ _ _ gq kq => iO (gq.1.trans rfl) rfl (gq.2.1.trans rfl) T.sl28 (by omega) (by omega) kq) ?_
    refine st_ rfl (fun _ _ _ gq kq => lO (gq.1.trans rfl) rfl (by first | exact gN (by omega) | exact gI (by omega) (by omega)) rfl T.one3 kq) ?_
    refine st_ rfl (fun _ _ _ gq kq => iF (gq.1.trans rfl) (gq.2.1.trans rfl) T.sl23 (by omega) (by first | exact gN (by omega) | exact gI (by omega) (by omega)) kq) ?_
    refine st_ rfl (fun _ _ _ gq kq => fF (gq.1.trans rfl) T.fld69_1 kq) ?_
    refine st_ rfl (fun _ _ _ gq kq => lF (gq.1.trans rfl) rfl T.one28 kq) ?_
    refine st_ rfl (fun _ _ _ gq kq => lnF (gq.1.trans rfl) T.sl28 kq) ?_
    refine st_ rfl (fun _ _ _ gq kq => mv kq) ?_
    refine pn (nl (th (bk ?_)))
    have hI1_0 : 0 ≤ ((ix s.states ((ix l i).toNat)).next).length := by
      first | omega | simp
    have hI1_1 : l = visit l ((ix s.states (ix l i).toNat).next.take 0) ∧ fl = marks s.states.length l ∧ okQ s.states.length l ∧ l.length ≤ l.length := by
      exact ⟨by simp [visit], hI0.2.1, hI0.2.2.1, Nat.le_refl _⟩
    refine lp (κ := Nat × Value × (List Int) × (List Bool)) (fun p => [(1, ptr 1 b1 0), (2, eqv (.slice none 0 0)), (3, osl 11 v11), (4, osl 14 p.2.1), (5, int (i : Int)), (29, sl 1 intE ((ix s.states ((ix l i).toNat)).next)), (30, int (((ix s.states ((ix l i).toNat)).next).length : Int)), (31, int (p.1 : Int))]) (fun p => [(1, cell b1 [sl 1 strE s.actions, sl 2 stateE s.states]), (11, own v11 4 1 blE p.2.2.2), (14, own p.2.1 3 1 intE p.2.2.1)]) (fun p => (p.1 ≤ ((ix s.states ((ix l i).toNat)).next).length) ∧ (p.2.2.1 = visit l ((ix s.states (ix l i).toNat).next.take p.1) ∧ p.2.2.2 = marks s.states.length p.2.2.1 ∧ okQ s.states.length p.2.2.1 ∧ l.length ≤ p.2.2.1.length)) (fun p => ((ix s.states ((ix l i).toNat)).next).length - p.1) ⟨0, v, l, fl⟩ ⟨hI1_0, hI1_1⟩ ⟨id, id, id, id, id, id, id, id, trivial⟩ ⟨⟨rfl, id⟩, ⟨rfl, id⟩, ⟨rfl, id⟩, trivial⟩ ?_
    intro ⟨k1, v1x, l1, f1⟩ hG1
    obtain ⟨hk1, hI1⟩ : (k1 ≤ ((ix s.states ((ix l i).toNat)).next).length) ∧ (l1 = visit l ((ix s.states (ix l i).toNat).next.take k1) ∧ f1 = marks s.states.length l1 ∧ okQ s.states.length l1 ∧ l.length ≤ l1.length) := hG1
    show Ct _ _ _ _ [(1, ptr 1 b1 0), (2, eqv (.slice none 0 0)), (3, osl 11 v11), (4, osl 14 v1x), (5, int (i : Int)), (29, sl 1 intE ((ix s.states ((ix l i).toNat)).next)), (30, int (((ix s.states ((ix l i).toNat)).next).length : Int)), (31, int (k1 : Int))] [(1, cell b1 [sl 1 strE s.actions, sl 2 stateE s.states]), (11, own v11 4 1 blE f1), (14, own v1x 3 1 intE l1)] _
    refine sq (rg (bi rfl rfl b_lss (nl (th (sq ?_)))))
    refine cd rfl (fun hc1 => ?_) (fun hc1 => ?_)
    · try simp at hc1
      have hnk := hnx.2 k1 (by omega)
      have hfl : f1.length = s.states.length := by rw [hI1.2.1, marks_len]
      have hl1 := hI1.2.2.1.le
      refine sk (th (sq (bk (sq (rg (iF rfl rfl T.sl28 (by omega) (by first | exact gN (by omega) | exact gI (by omega) (by omega)) (lF rfl rfl T.one3 (ag (nl (th (sq (rg (mv (bi rfl rfl b_geq (mv ?_)))))))))))))))
      apply gAnd (t := 37) (pd := 43) rfl
      rotate_left
      · intro hg0 fin
        have hg0' := hg0
        try simp at hg0'
        exact gy rfl rfl rfl hg0 (mv (gy rfl rfl rfl hg0 (mv (gy rfl rfl rfl hg0 (iO rfl rfl rfl T.sl72 (by omega) (by omega) (gy rfl rfl rfl hg0 (lO rfl rfl (by first | exact gN (by omega) | exact gI (by omega) (by omega)) rfl T.one4 (gy rfl rfl rfl hg0 (no rfl (pkT rfl hg0 rfl (drp (X := [(42, _), (41, _), (40, _), (39, _), (38, _)]) ⟨rfl, rfl, rfl, rfl, rfl, trivial⟩ (fin))))))))))))
      · intro hg0 fin
        exact gn rfl rfl rfl hg0 rfl rfl (gn rfl rfl rfl hg0 rfl rfl (gn rfl rfl rfl hg0 rfl rfl (gn rfl rfl rfl hg0 rfl rfl (gn rfl rfl rfl hg0 rfl rfl (pkF rfl hg0 rfl (drp (X := [(42, _), (41, _), (40, _), (39, _), (38, _)]) ⟨rfl, rfl, rfl, rfl, rfl, trivial⟩ (fin)))))))
      refine nl (th ?_)
      refine cd rfl (fun hc2 => ?_) (fun hc2 => ?_)
      · try simp at hc2
        refine sq (rg (mv (mv (iO rfl rfl rfl T.sl72 (by omega) (by omega) (sO (φ := bl true) rfl rfl rfl T.one4 (by first | exact gN (by omega) | exact gI (by omega) (by omega)) rfl (y' := true) rfl (nl (th (rg (mv (mv (bsE (enc := intE) (xs := [(ix ((ix s.states ((ix l i).toNat)).next) k1)]) (css := [[int (ix ((ix s.states ((ix l i).toNat)).next) k1)]]) T.mk28 ⟨rfl, rfl, p1 (φ := int (ix ((ix s.states ((ix l i).toNat)).next) k1)) rfl, trivial⟩ rfl rfl rfl rfl (ap (key := 14) (zs := [(ix ((ix s.states ((ix l i).toNat)).next) k1)]) osl_eq rfl rfl rfl T.mk28 (by unfold maxL at *; simp; omega) (by unfold maxL at *; simp; omega) fun v50 => (ag (nl (eb (th (rg (bi rfl rfl (b_add (by unfold I64; omega)) (mv (nl ?_))))))))))))))))))))
        have hN0 : (k1 + 1) ≤ ((ix s.states ((ix l i).toNat)).next).length := by
          first | omega | simp_all
        have hN1 : (l1 ++ [(ix ((ix s.states ((ix l i).toNat)).next) k1)]) = visit l ((ix s.states (ix l i).toNat).next.take (k1 + 1)) ∧ (f1.set ((ix ((ix s.states ((ix l i).toNat)).next) k1).toNat) true) = marks s.states.length (l1 ++ [(ix ((ix s.states ((ix l i).toNat)).next) k1)]) ∧ okQ s.states.length (l1 ++ [(ix ((ix s.states ((ix l i).toNat)).next) k1)]) ∧ l.length ≤ (l1 ++ [(ix ((ix s.states ((ix l i).toNat)).next) k1)]).length := by
          have hcc : l1.contains (ix (ix s.states (ix l i).toNat).next k1) = false := by
            have h3 := hc2.2
            rw [hI1.2.1, marks_ix (by omega), Int.toNat_of_nonneg hc2.1] at h3
            exact h3
          refine ⟨?_, ?_, okQ_snoc hI1.2.2.1 hc2.1 hnk hcc, by simp; omega⟩
          · rw [take_s (by omega), visit_snoc, ← hI1.1, hcc]; simp [hc2.1]
          · rw [hI1.2.1, marks_set hc2.1]
        exact ln (⟨k1 + 1, v50, l1 ++ [(ix ((ix s.states ((ix l i).toNat)).next) k1)], f1.set ((ix ((ix s.states ((ix l i).toNat)).next) k1).toNat) true⟩ : Nat × Value × (List Int) × (List Bool)) ⟨hN0, hN1⟩ (by first | omega | (dsimp only; omega)) ⟨id, id, id, id, id, id, id, id, trivial⟩ ⟨⟨rfl, id⟩, ⟨rfl, id⟩, ⟨rfl, id⟩, trivial⟩
      · try simp at hc2
        refine sk (eb (th (rg (bi rfl rfl (b_add (by unfold I64; omega)) (mv (nl ?_))))))
        have hN0 : (k1 + 1) ≤ ((ix s.states ((ix l i).toNat)).next).length := by
          first | omega | simp_all
        have hN1 : l1 = visit l ((ix s.states (ix l i).toNat).next.take (k1 + 1)) ∧ f1 = marks s.states.length l1 ∧ okQ s.states.length l1 ∧ l.length ≤ l1.length := by
          refine ⟨?_, hI1.2.1, hI1.2.2.1, hI1.2.2.2⟩
          rw [take_s (by omega), visit_snoc, ← hI1.1]
          by_cases h0 : 0 ≤ ix (ix s.states (ix l i).toNat).next k1
          · have h3 := hc2 h0
            rw [hI1.2.1, marks_ix (by omega), Int.toNat_of_nonneg h0] at h3
            rw [h3]; simp
          · simp [h0]
        exact ln (⟨k1 + 1, v1x, l1, f1⟩ : Nat × Value × (List Int) × (List Bool)) ⟨hN0, hN1⟩ (by first | omega | (dsimp only; omega)) ⟨id, id, id, id, id, id, id, id, trivial⟩ ⟨⟨rfl, id⟩, ⟨rfl, id⟩, ⟨rfl, id⟩, trivial⟩
    · try simp at hc1
      refine ex (xt_ (xt_ (xb (eb (th (rg (mv (bi rfl rfl (b_add (by unfold I64; omega)) (ag (nl ?_))))))))))
      have hN0 : l1 = bq s (i + 1) ∧ f1 = marks s.states.length l1 ∧ okQ s.states.length l1 ∧ (i + 1) ≤ l1.length := by
        refine ⟨?_, hI1.2.1, hI1.2.2.1, by omega⟩
        have e : l1 = visit l (ix s.states (ix l i).toNat).next := by rw [hI1.1, show k1 = (ix s.states (ix l i).toNat).next.length by omega, List.take_length]
        show l1 = if i < (bq s i).length then _ else _
        rw [← hI0.1, if_pos (by omega), e]
      exact ln (⟨i + 1, v1x, l1, f1⟩ : Nat × Value × (List Int) × (List Bool)) hN0 (by first | omega | (dsimp only; omega)) ⟨id, id, id, id, id, trivial⟩ ⟨⟨rfl, id⟩, ⟨rfl, id⟩, ⟨rfl, id⟩, trivial⟩
  · try simp at hc0
    refine ex (xt_ (xt_ (xb (th (sq (rg (mv (ag (nl (th (rt ?_)))))))))))
    refine fzA 14 2 rfl rfl ?_
    have hr0 : l = (order s) := by
      have hle := hI0.2.2.1.le
      have hst := bq_stable (s := s) (i := i) (by rw [← hI0.1]; omega) (s.states.length - i)
      unfold order
      rw [show i + (s.states.length - i) = s.states.length by omega] at hst
      rw [hst, ← hI0.1]
    have hall : ∀ x0, l = x0 → resAV [sl 1 intE l] = resAV [sl 1 intE x0] := by rintro _ rfl; rfl
    exact rE () [.tmp 2] rfl [sl 1 intE l] ⟨.tmp rfl, trivial⟩ (hall _ hr0) trivial (by first | exact .inr rfl | exact .inl rfl)
end ref04
end Go.Proofs.YtolpjmllmlahfaaDoor
