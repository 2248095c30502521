/- The trimS specification: plain Lean. -/
import Derived.Test.YtolpjmllmlahfaaDoorLeftM
import Derived.Test.YtolpjmllmlahfaaDoorref03
namespace Go.Proofs.YtolpjmllmlahfaaDoor
open AL ref01 ref03 ref04 ref06 Rungs LeftM
namespace TrimM
theorem visit_nodup : ∀ (ks l : List Int), l.Nodup → (visit l ks).Nodup
  | [], l, h => h
  | k :: ks, l, h => by
    rw [visit_foldl, List.foldl_cons]
    refine visit_nodup ks _ ?_
    unfold visit1
    split
    · next hc =>
      simp only [Bool.and_eq_true, Bool.not_eq_true', decide_eq_true_eq] at hc
      exact nodup_snoc h (fun hm => by rw [List.contains_iff_mem.2 hm] at hc; cases hc.2)
    · exact h
theorem bq_nodup (s : SSpec) : ∀ i, (bq s i).Nodup
  | 0 => by simp [bq]
  | i + 1 => by
    show List.Nodup (if _ then _ else _)
    split
    · exact visit_nodup _ _ (bq_nodup s i)
    · exact bq_nodup s i
theorem order_nodup (s : SSpec) : (order s).Nodup := bq_nodup s _
theorem fresh {l : List Int} (h : l.Nodup) {m : Nat} (hm : m < l.length) : ix l m ∉ l.take m := fun hx => by
  have h1 : (l.take (m + 1)).Nodup := h.sublist (List.take_sublist _ _)
  rw [take_s hm, List.nodup_append] at h1
  exact h1.2.2 _ hx (ix l m) (by simp) rfl
/-- The place of a number in a list, else 0. -/
def posN (l : List Int) (y : Int) : Int := match l.findIdx? (fun z => decide (z = y)) with | some j => (j : Int) | none => 0
def atL (n : Nat) (l : List Int) : List Int := (List.range n).map fun (y : Nat) => posN l (y : Int)
theorem atL_zero (n : Nat) : List.replicate n 0 = atL n [] := by
  unfold atL
  apply List.ext_getElem?
  intro j
  rw [List.getElem?_replicate, List.getElem?_map]
  split
  · next h => rw [List.getElem?_range h]; rfl
  · next h => rw [List.getElem?_eq_none (by simpa using h)]; rfl
theorem posN_snoc_self {l : List Int} {x : Int} (h : x ∉ l) : posN (l ++ [x]) x = (l.length : Int) := by
  unfold posN
  rw [List.findIdx?_append]
  have : l.findIdx? (fun z => decide (z = x)) = none := by
    rw [List.findIdx?_eq_none_iff]
    intro z hz
    simp only [decide_eq_false_iff_not]
    exact fun e => h (by rw [← e]; exact hz)
  rw [this]; simp
theorem posN_snoc_other {l : List Int} {x y : Int} (h : y ≠ x) : posN (l ++ [x]) y = posN l y := by
  unfold posN
  rw [List.findIdx?_append]
  cases hf : l.findIdx? (fun z => decide (z = y)) with
  | some j => rfl
  | none =>
    have : ([x] : List Int).findIdx? (fun z => decide (z = y)) = none := by simp [Ne.symm h]
    rw [this]; rfl
theorem atL_snoc {n : Nat} {l : List Int} {x : Int} (h : x ∉ l) (h0 : 0 ≤ x) (h1 : x < (n : Int)) : (atL n l).set x.toNat (l.length : Int) = atL n (l ++ [x]) :=
  map_upd (by omega) (by rw [Int.toNat_of_nonneg h0, posN_snoc_self h]) (fun y _ hne => posN_snoc_other (by omega))
theorem atL_ix {n : Nat} {l : List Int} {y : Nat} (h : y < n) : ix (atL n l) y = posN l (y : Int) := ix_map_range h
theorem atL_len (n : Nat) (l : List Int) : (atL n l).length = n := by simp [atL]
theorem posN_bd (l : List Int) (y : Int) : 0 ≤ posN l y ∧ (posN l y < (l.length : Int) ∨ posN l y = 0) := by
  unfold posN
  cases hf : l.findIdx? (fun z => decide (z = y)) with
  | some j =>
    have := (List.findIdx?_eq_some_iff_getElem.1 hf).1
    dsimp only; omega
  | none => dsimp only; omega
theorem posN_at {l : List Int} {y : Int} (h : y ∈ l) : posN l y < (l.length : Int) ∧ ix l (posN l y).toNat = y := by
  unfold posN
  cases hf : l.findIdx? (fun z => decide (z = y)) with
  | some j =>
    obtain ⟨h1, h2, _⟩ := List.findIdx?_eq_some_iff_getElem.1 hf
    refine ⟨by dsimp only; omega, ?_⟩
    dsimp only
    rw [Int.toNat_natCast, ix_get h1]
    simpa using h2
  | none =>
    rw [List.findIdx?_eq_none_iff] at hf
    have := hf y h
    simp at this
theorem posN_ix {l : List Int} (hn : l.Nodup) {i : Nat} (hi : i < l.length) : posN l (ix l i) = (i : Int) := by
  obtain ⟨h1, h2⟩ := posN_at (ix_mem hi)
  have h0 := (posN_bd l (ix l i)).1
  have hj : (posN l (ix l i)).toNat < l.length := by omega
  have h3 : l[(posN l (ix l i)).toNat] = l[i] := by rw [← ix_get hj, h2, ix_get hi]
  have := (List.getElem_inj hn).1 h3
  omega
noncomputable abbrev ordS (s : SSpec) : List Int := order (solid s)
noncomputable def tnext (s : SSpec) (x : Int) : List Int := (List.range s.actions.length).map fun (a : Nat) => if has (orAll (keep s x.toNat)) (a : Int) then posN (ordS s) (ix (ix s.states x.toNat).next a) else -1
noncomputable def tstate (s : SSpec) (x : Int) : SState := ⟨keep s x.toNat, tnext s x⟩
noncomputable def half (s : SSpec) (x : Int) : SState := ⟨keep s x.toNat, []⟩
noncomputable def outs (s : SSpec) (i : Nat) : List SState := (List.range (ordS s).length).map fun j => if j < i then tstate s (ix (ordS s) j) else half s (ix (ordS s) j)
noncomputable def trimS (s : SSpec) : SSpec × List Int := if ix (hollow s) 0 = true then (nothing s.actions, []) else (⟨s.actions, (ordS s).map (tstate s)⟩, ordS s)
theorem map_ix_range {α β : Type} [Inhabited α] (l : List α) (f : α → β) : l.map f = (List.range l.length).map fun j => f (ix l j) := by
  apply List.ext_getElem?
  intro j
  rw [List.getElem?_map, List.getElem?_map]
  by_cases h : j < l.length
  · rw [List.getElem?_range h, List.getElem?_eq_getElem h]; simp [ix_get h]
  · rw [List.getElem?_eq_none (by omega), List.getElem?_eq_none (by simpa using h)]; rfl
theorem outs_zero (s : SSpec) : outs s 0 = (ordS s).map (half s) := by
  rw [map_ix_range]
  unfold outs
  simp
theorem outs_end (s : SSpec) : outs s (ordS s).length = (ordS s).map (tstate s) := by
  rw [map_ix_range]
  unfold outs
  exact List.map_congr_left (fun j hj => by rw [if_pos (List.mem_range.1 hj)])
theorem outs_len (s : SSpec) (i : Nat) : (outs s i).length = (ordS s).length := by simp [outs]
theorem outs_ix {s : SSpec} {i : Nat} (hi : i < (ordS s).length) : ix (outs s i) i = half s (ix (ordS s) i) := by
  unfold outs
  rw [ix_map_range hi, if_neg (by omega)]
theorem outs_succ {s : SSpec} {i : Nat} (hi : i < (ordS s).length) : (outs s i).set i (tstate s (ix (ordS s) i)) = outs s (i + 1) :=
  map_upd hi (by rw [if_pos (by omega)]) (fun j _ hne => by
    by_cases h : j < i
    · rw [if_pos h, if_pos (by omega)]
    · rw [if_neg h, if_neg (by omega)])
/-- The next list while its actions are put in. -/
noncomputable def nxL (s : SSpec) (x : Int) (m : Nat) : List Int := (List.range s.actions.length).map fun (a : Nat) => if ((listOf 63 (orAll (keep s x.toNat))).take m).contains (a : Int) then posN (ordS s) (ix (ix s.states x.toNat).next a) else -1
theorem nxL_zero (s : SSpec) (x : Int) : List.replicate s.actions.length (-1) = nxL s x 0 := by
  unfold nxL
  simp [List.map_const']
theorem nxL_succ {s : SSpec} {x : Int} {m a : Nat} (h : (listOf 63 (orAll (keep s x.toNat)))[m]? = some (a : Int)) (ha : a < s.actions.length) : (nxL s x m).set a (posN (ordS s) (ix (ix s.states x.toNat).next a)) = nxL s x (m + 1) := by
  obtain ⟨hm, he⟩ := List.getElem?_eq_some_iff.1 h
  have e : (listOf 63 (orAll (keep s x.toNat))).take (m + 1) = (listOf 63 (orAll (keep s x.toNat))).take m ++ [(a : Int)] := by rw [List.take_succ_eq_append_getElem hm, he]
  refine map_upd ha ?_ (fun y _ hne => ?_)
  · rw [e, if_pos (by simp)]
  · rw [e]
    have : (((listOf 63 (orAll (keep s x.toNat))).take m ++ [(a : Int)]).contains (y : Int)) = ((listOf 63 (orAll (keep s x.toNat))).take m).contains (y : Int) := by
      rw [Bool.eq_iff_iff, List.contains_iff_mem, List.contains_iff_mem, List.mem_append]
      constructor
      · rintro (h | h)
        · exact h
        · simp at h; omega
      · exact .inl
    rw [this]
theorem nxL_end {s : SSpec} (hs : okSpec s) (x : Int) : nxL s x (listOf 63 (orAll (keep s x.toNat))).length = tnext s x := by
  unfold nxL tnext
  rw [List.take_length]
  refine List.map_congr_left (fun a ha => ?_)
  have ha := List.mem_range.1 ha
  have hn := hs.n8
  by_cases h : has (orAll (keep s x.toNat)) (a : Int) = true
  · rw [if_pos h, if_pos (List.contains_iff_mem.2 (listOf_mem.2 ⟨a, rfl, by omega, h⟩))]
  · rw [if_neg h, if_neg (fun hc => h (by
      obtain ⟨b, hb, _, hh⟩ := listOf_mem.1 (List.contains_iff_mem.1 hc)
      have : b = a := by omega
      subst this; exact hh))]
theorem leftL_get {s : SSpec} {m : Nat} {x : Int × List Int} (h : (leftL s)[m]? = some x) : ix (hollow s) 0 = false ∧ m < (ordS s).length ∧ x.1 = ix (ordS s) m ∧ x.2 = keep s (ix (ordS s) m).toNat := by
  unfold leftL at h
  by_cases h0 : ix (hollow s) 0 = true
  · rw [if_pos h0] at h; simp at h
  · rw [if_neg h0, List.getElem?_map] at h
    have h00 : ix (hollow s) 0 = false := by simpa using h0
    by_cases hm : m < (ordS s).length
    · rw [List.getElem?_eq_getElem hm] at h
      simp at h
      subst h
      exact ⟨h00, hm, (ix_get hm).symm, by rw [ix_get hm]⟩
    · rw [List.getElem?_eq_none (show (ordS s).length ≤ m by omega)] at h; simp at h
theorem ordS_pos (s : SSpec) : 1 ≤ (ordS s).length := by
  have h := bq_prefix (solid s) 0 (solid s).states.length
  rw [Nat.zero_add] at h
  exact h.length_le
theorem trimmed_not {s : SSpec} (h : ix (hollow s) 0 = false) : trimS s = (⟨s.actions, (ordS s).map (tstate s)⟩, ordS s) := by
  unfold trimS; rw [if_neg (by simp [h])]
theorem trimmed_hol {s : SSpec} (h : ix (hollow s) 0 = true) : trimS s = (nothing s.actions, []) := by
  unfold trimS; rw [if_pos h]
end TrimM
end Go.Proofs.YtolpjmllmlahfaaDoor
