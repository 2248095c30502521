/- What is left of a specification, in order: plain Lean. -/
import Derived.Test.YtolpjmllmlahfaaDoorRungs
import Derived.Test.YtolpjmllmlahfaaDoorref06
namespace Go.Proofs.YtolpjmllmlahfaaDoor
open AL ref01 ref03 ref04 ref06 Rungs
namespace LeftM
theorem listOf_mem {n : Nat} {t x : Int} : x ∈ listOf n t ↔ ∃ a : Nat, x = (a : Int) ∧ a < n ∧ has t (a : Int) = true := by
  unfold listOf
  constructor
  · intro h
    obtain ⟨a, ha, rfl⟩ := List.mem_map.1 h
    obtain ⟨h1, h2⟩ := List.mem_filter.1 ha
    exact ⟨a, rfl, List.mem_range.1 h1, h2⟩
  · rintro ⟨a, rfl, h1, h2⟩
    exact List.mem_map.2 ⟨a, List.mem_filter.2 ⟨List.mem_range.2 h1, h2⟩, rfl⟩
theorem listOf_get {n m : Nat} {t x : Int} (h : (listOf n t)[m]? = some x) : ∃ a : Nat, x = (a : Int) ∧ a < n ∧ has t (a : Int) = true := listOf_mem.1 (List.mem_of_getElem? h)
/-- All actions of a set lead to states that are not marked. -/
def fine (x : SState) (t : Int) (h : List Bool) : Bool := (listOf 63 t).all fun a => !ix h (ix x.next a.toNat).toNat
theorem fine_eq {x : SState} {N n : Nat} (hx : okState x N n) (hn : n ≤ 8) {t : Int} (ht : t ∈ x.accept) (h : List Bool) : fine x t h = !falls x t h := by
  obtain ⟨i, hi, e⟩ := mem_ix ht
  have hgo := hx.go i hi
  rw [e] at hgo
  unfold fine
  rw [Bool.eq_iff_iff, List.all_eq_true, Bool.not_eq_true', ← Bool.not_eq_true, falls_iff]
  constructor
  · rintro h1 ⟨a, h2, h3, h4, h5⟩
    have := h1 (a : Int) (listOf_mem.2 ⟨a, rfl, by have := hx.len; omega, h4⟩)
    rw [Int.toNat_natCast, h5] at this
    cases this
  · intro h1 x' hx'
    obtain ⟨a, rfl, h2, h3⟩ := listOf_mem.1 hx'
    obtain ⟨h4, h5⟩ := hgo a h3
    rw [Int.toNat_natCast]
    cases hb : ix h (ix x.next a).toNat with
    | false => rfl
    | true => exact absurd ⟨a, by have := hx.len; omega, h5, h3, hb⟩ h1
theorem fine_snoc {x : SState} {t : Int} {h : List Bool} {m : Nat} {a : Int} (ha : (listOf 63 t)[m]? = some a) : ((listOf 63 t).take (m + 1)).all (fun a => !ix h (ix x.next a.toNat).toNat) = (((listOf 63 t).take m).all (fun a => !ix h (ix x.next a.toNat).toNat) && !ix h (ix x.next a.toNat).toNat) := by
  have hm := (List.getElem?_eq_some_iff.1 ha)
  obtain ⟨hm, rfl⟩ := hm
  rw [List.take_succ_eq_append_getElem hm, List.all_append]; simp
theorem has_or {u t : Int} {a : Nat} : has ((u.toNat ||| t.toNat : Nat) : Int) (a : Int) = (has u (a : Int) || has t (a : Int)) := by
  unfold has
  rw [Int.toNat_natCast, Int.toNat_natCast, Nat.testBit_or]
theorem orAll_nn (l : List Int) : 0 ≤ orAll l := by
  rcases List.eq_nil_or_concat l with rfl | ⟨l', t, rfl⟩
  · exact Int.le_refl _
  · rw [List.concat_eq_append, orAll_snoc]; omega
theorem snoc_ind {α : Type} {p : List α → Prop} (h0 : p []) (h1 : ∀ l a, p l → p (l ++ [a])) (l : List α) : p l := by
  have : ∀ n (l : List α), l.length = n → p l := fun n => by
    induction n with
    | zero => intro l hl; rw [List.eq_nil_of_length_eq_zero hl]; exact h0
    | succ n ih =>
      intro l hl
      rcases List.eq_nil_or_concat l with rfl | ⟨l', t, rfl⟩
      · exact h0
      · rw [List.concat_eq_append] at hl ⊢
        exact h1 _ _ (ih l' (by simpa using hl))
  exact this _ l rfl
theorem orAll_has (l : List Int) (a : Nat) : has (orAll l) (a : Int) = true ↔ ∃ t ∈ l, has t (a : Int) = true := by
  refine snoc_ind (p := fun l => has (orAll l) (a : Int) = true ↔ ∃ t ∈ l, has t (a : Int) = true) ?_ (fun l t ih => ?_) l
  · simp [orAll, has]
  · rw [orAll_snoc, has_or, Bool.or_eq_true, ih]
    constructor
    · rintro (⟨u, h1, h2⟩ | h)
      · exact ⟨u, by simp [h1], h2⟩
      · exact ⟨t, by simp, h⟩
    · rintro ⟨u, h1, h2⟩
      rcases List.mem_append.1 h1 with h | h
      · exact .inl ⟨u, h, h2⟩
      · have : u = t := by simpa using h
        subst this; exact .inr h2
theorem orAll_lt (l : List Int) (h : ∀ t ∈ l, t < 256) : orAll l < 256 := by
  refine snoc_ind (p := fun l => (∀ t ∈ l, t < 256) → orAll l < 256) (fun _ => by decide) (fun l t ih h => ?_) l h
  rw [orAll_snoc]
  exact or_lt256 (ih (fun u hu => h u (by simp [hu]))) (h t (by simp))
theorem keep_mem {s : SSpec} {x : Nat} {t : Int} (h : t ∈ keep s x) : t ∈ (ix s.states x).accept ∧ ix (hollow s) x = false ∧ falls (ix s.states x) t (hollow s) = false := by
  unfold keep at h
  obtain ⟨h1, h2⟩ := List.mem_filter.1 h
  simp only [Bool.and_eq_true, Bool.not_eq_true'] at h2
  exact ⟨h1, h2.1, h2.2⟩
theorem keep_filter {s : SSpec} {x : Nat} (h : ix (hollow s) x = false) : keep s x = (ix s.states x).accept.filter fun t => !falls (ix s.states x) t (hollow s) := by
  unfold keep; rw [h]; simp
theorem acc_bd {x : SState} {N n : Nat} (hx : okState x N n) {t : Int} (ht : t ∈ x.accept) : 0 ≤ t ∧ t < 256 := by
  obtain ⟨i, hi, rfl⟩ := mem_ix ht
  exact hx.ac i hi
theorem acc_go {x : SState} {N n : Nat} (hx : okState x N n) {t : Int} (ht : t ∈ x.accept) {a : Nat} (h : has t (a : Int) = true) : a < n ∧ 0 ≤ ix x.next a := by
  obtain ⟨i, hi, rfl⟩ := mem_ix ht
  exact hx.go i hi a h
/-- What the actions that are kept lead to. -/
theorem can_go {s : SSpec} (hs : okSpec s) {x : Nat} (hx : x < s.states.length) {a : Nat} (h : has (orAll (keep s x)) (a : Int) = true) :
    a < (ix s.states x).next.length ∧ 0 ≤ ix (ix s.states x).next a ∧ ix (ix s.states x).next a < (s.states.length : Int) ∧ ix (hollow s) (ix (ix s.states x).next a).toNat = false := by
  obtain ⟨t, ht, hh⟩ := (orAll_has _ _).1 h
  obtain ⟨h1, h2, h3⟩ := keep_mem ht
  have hok := hs.st x hx
  obtain ⟨h4, h5⟩ := acc_go hok h1 hh
  rw [← hok.len] at h4
  refine ⟨h4, h5, (hok.nx a (by rw [← hok.len]; exact h4)).2, ?_⟩
  cases hb : ix (hollow s) (ix (ix s.states x).next a).toNat with
  | false => rfl
  | true =>
    rw [falls_iff.2 ⟨a, h4, h5, hh, hb⟩] at h3; cases h3
theorem can_lt {s : SSpec} (hs : okSpec s) {x : Nat} (hx : x < s.states.length) : orAll (keep s x) < 256 := orAll_lt _ (fun t ht => (acc_bd (hs.st x hx) (keep_mem ht).1).2)
def visit1 (l : List Int) (k : Int) : List Int := if decide (0 ≤ k) && !l.contains k then l ++ [k] else l
theorem visit_foldl (l ks : List Int) : visit l ks = ks.foldl visit1 l := rfl
theorem visit_filter {p : Nat → Bool} {g : Nat → Int} : ∀ (xs : List Nat) (l : List Int), visit l (xs.map fun a => if p a then g a else -1) = visit l ((xs.filter p).map g)
  | [], l => rfl
  | x :: xs, l => by
    rw [visit_foldl, visit_foldl]
    by_cases h : p x = true
    · rw [List.filter_cons, if_pos h, List.map_cons, List.map_cons, List.foldl_cons, List.foldl_cons, if_pos h]
      exact visit_filter xs _
    · rw [List.filter_cons, if_neg h, List.map_cons, List.foldl_cons, if_neg h]
      have : visit1 l (-1) = l := rfl
      rw [this]
      exact visit_filter xs l
theorem filter_range {p : Nat → Bool} {m : Nat} : ∀ j, (∀ a, p a = true → a < m) → (List.range (m + j)).filter p = (List.range m).filter p
  | 0, _ => rfl
  | j + 1, h => by
    rw [show m + (j + 1) = m + j + 1 by omega, List.range_succ, List.filter_append, filter_range j h]
    have : p (m + j) = false := by
      cases hp : p (m + j) with
      | false => rfl
      | true => have := h _ hp; omega
    simp [this]
theorem listOf_cut {x : SState} {u : Int} (hl : x.next.length ≤ 63) (h : ∀ a : Nat, has u (a : Int) = true → a < x.next.length) : listOf 63 u = listOf x.next.length u := by
  unfold listOf
  have := filter_range (p := fun a => has u (a : Int)) (m := x.next.length) (63 - x.next.length) h
  rw [show x.next.length + (63 - x.next.length) = 63 by omega] at this
  rw [this]
theorem visit_cut {x : SState} {u : Int} (hl : x.next.length ≤ 63) (h : ∀ a : Nat, has u (a : Int) = true → a < x.next.length) (l : List Int) : visit l (cut x u) = visit l ((listOf 63 u).map fun a => ix x.next a.toNat) := by
  unfold cut
  rw [visit_filter, listOf_cut hl h]
  unfold listOf
  rw [List.map_map]
  rfl
theorem visit_prefix : ∀ (ks l : List Int), l <+: visit l ks
  | [], l => List.prefix_rfl
  | k :: ks, l => by
    rw [visit_foldl, List.foldl_cons]
    refine List.IsPrefix.trans ?_ (visit_prefix ks _)
    unfold visit1
    split
    · exact List.prefix_append _ _
    · exact List.prefix_rfl
theorem bq_step (s : SSpec) (i : Nat) : bq s i <+: bq s (i + 1) := by
  show _ <+: (if _ then _ else _)
  split
  · exact visit_prefix _ _
  · exact List.prefix_rfl
theorem bq_prefix (s : SSpec) (i : Nat) : ∀ j, bq s i <+: bq s (i + j)
  | 0 => List.prefix_rfl
  | j + 1 => (bq_prefix s i j).trans (bq_step s (i + j))
theorem bq_order {s : SSpec} (h : okSpec s) {i : Nat} (hi : i ≤ s.states.length) : bq (solid s) i <+: order (solid s) := by
  have := bq_prefix (solid s) i ((solid s).states.length - i)
  rw [solid_len] at this
  rw [show i + (s.states.length - i) = s.states.length by omega] at this
  unfold order
  rw [solid_len]; exact this
theorem bq_end {s : SSpec} (h : okSpec s) {i : Nat} (hi : (bq (solid s) i).length ≤ i) (hn : i ≤ s.states.length) : bq (solid s) i = order (solid s) := by
  have := bq_stable hi (s.states.length - i)
  rw [show i + (s.states.length - i) = s.states.length by omega] at this
  unfold order
  rw [solid_len]; exact this.symm
theorem bq_ok {s : SSpec} (h : okSpec s) (i : Nat) : okQ s.states.length (bq (solid s) i) := by
  have := okQ_bq (s := solid s) (by rw [solid_len]; exact h.few0) (fun k hk a ha => by rw [solid_len] at hk ⊢; exact solid_bd h hk ha) i
  rw [solid_len] at this
  exact this
theorem bq_succ {s : SSpec} (h : okSpec s) {i : Nat} (hi : i < (bq (solid s) i).length) : bq (solid s) (i + 1) = visit (bq (solid s) i) ((listOf 63 (orAll (keep s (ix (bq (solid s) i) i).toNat))).map fun a => ix (ix s.states (ix (bq (solid s) i) i).toNat).next a.toNat) := by
  have hb := (bq_ok h i).1 i hi
  have hx : (ix (bq (solid s) i) i).toNat < s.states.length := by omega
  show (if _ then _ else _) = _
  rw [if_pos hi, solid_at hx]
  have hok := h.st _ hx
  have hn8 := h.n8
  exact visit_cut (by have := hok.len; omega) (fun a ha => (can_go h hx ha).1) _
theorem visit_mem {y : Int} : ∀ (ks l : List Int), y ∈ visit l ks → y ∈ l ∨ y ∈ ks
  | [], l, h => .inl h
  | k :: ks, l, h => by
    rw [visit_foldl, List.foldl_cons] at h
    rcases visit_mem ks _ h with h | h
    · unfold visit1 at h
      split at h
      · rcases List.mem_append.1 h with h | h
        · exact .inl h
        · exact .inr (by simp at h; simp [h])
      · exact .inl h
    · exact .inr (by simp [h])
/-- No state that is found is hollow. -/
theorem bq_solid {s : SSpec} (h : okSpec s) (h0 : ix (hollow s) 0 = false) : ∀ i, ∀ y ∈ bq (solid s) i, ix (hollow s) y.toNat = false
  | 0, y, hy => by
    have : y = 0 := by simpa [bq] using hy
    subst this; exact h0
  | i + 1, y, hy => by
    by_cases hi : i < (bq (solid s) i).length
    · rw [bq_succ h hi] at hy
      rcases visit_mem _ _ hy with hy | hy
      · exact bq_solid h h0 i y hy
      · obtain ⟨a, ha, rfl⟩ := List.mem_map.1 hy
        obtain ⟨a', rfl, _, hh⟩ := listOf_mem.1 ha
        have hb := (bq_ok h i).1 i hi
        exact (can_go h (by omega) hh).2.2.2
    · have e : bq (solid s) (i + 1) = bq (solid s) i := by
        show (if _ then _ else _) = _
        rw [if_neg hi]
      rw [e] at hy
      exact bq_solid h h0 i y hy
noncomputable def leftL (s : SSpec) : List (Int × List Int) := if ix (hollow s) 0 = true then [] else (order (solid s)).map fun x => (x, keep s x.toNat)
theorem leftL_at {s : SSpec} (h : okSpec s) (h0 : ix (hollow s) 0 = false) {i : Nat} (hn : i ≤ s.states.length) (hi : i < (bq (solid s) i).length) : (leftL s)[i]? = some (ix (bq (solid s) i) i, keep s (ix (bq (solid s) i) i).toNat) := by
  have hp := bq_order h hn
  have hl := hp.length_le
  unfold leftL
  rw [h0]
  rw [if_neg (by simp), List.getElem?_map, List.getElem?_eq_getElem (by omega), ← ix_get (by omega), ix_prefix hp hi]; rfl
theorem leftL_len {s : SSpec} (h0 : ix (hollow s) 0 = false) : (leftL s).length = (order (solid s)).length := by
  unfold leftL
  rw [h0]; simp
end LeftM
end Go.Proofs.YtolpjmllmlahfaaDoor
