/- Numbers by first occurrence, and their refinement: plain Lean. -/
import Derived.Test.YtolpjmllmlahfaaDoorref04
namespace Go.Proofs.YtolpjmllmlahfaaDoor
open AL
namespace Part
/-- The number of each element's class, in the order of first elements; and the first elements. -/
def numBy (rel : Nat → Nat → Bool) : Nat → List Int × List Int
  | 0 => ([], [])
  | k + 1 => match (numBy rel k).2.findIdx? (fun y => rel k y.toNat) with
    | some j => ((numBy rel k).1 ++ [(j : Int)], (numBy rel k).2)
    | none => ((numBy rel k).1 ++ [((numBy rel k).2.length : Int)], (numBy rel k).2 ++ [(k : Int)])
structure EqOn (n : Nat) (rel : Nat → Nat → Bool) : Prop where
  refl : ∀ x, x < n → rel x x = true
  symm : ∀ x y, x < n → y < n → rel x y = true → rel y x = true
  trans : ∀ x y z, x < n → y < n → z < n → rel x y = true → rel y z = true → rel x z = true
structure NumOK (rel : Nat → Nat → Bool) (k : Nat) (nx fs : List Int) : Prop where
  len : nx.length = k
  fs0 : ∀ j, j < fs.length → 0 ≤ ix fs j ∧ ix fs j < (k : Int)
  at_ : ∀ j, j < fs.length → ix nx (ix fs j).toNat = (j : Int)
  cls : ∀ x, x < k → 0 ≤ ix nx x ∧ ix nx x < (fs.length : Int) ∧ rel x (ix fs (ix nx x).toNat).toNat = true
  dis : ∀ i j, i < fs.length → j < fs.length → rel (ix fs i).toNat (ix fs j).toNat = true → i = j
theorem findIdx_some {p : Int → Bool} {l : List Int} {j : Nat} (h : l.findIdx? p = some j) : j < l.length ∧ p (ix l j) = true := by
  rw [List.findIdx?_eq_some_iff_getElem] at h
  obtain ⟨h1, h2, _⟩ := h
  exact ⟨h1, by rw [ix_get h1]; exact h2⟩
theorem findIdx_none {p : Int → Bool} {l : List Int} (h : l.findIdx? p = none) {j : Nat} (hj : j < l.length) : p (ix l j) = false := by
  rw [List.findIdx?_eq_none_iff] at h
  rw [ix_get hj]
  exact h _ (List.getElem_mem hj)
theorem ixs {l : List Int} {k : Int} {i : Nat} (h : i < l.length) : ix (l ++ [k]) i = ix l i := by rw [ix_snoc, if_pos h]
theorem ixe {l : List Int} {k : Int} {i : Nat} (h : i = l.length) : ix (l ++ [k]) i = k := by rw [ix_snoc, if_neg (by omega), if_pos h]
theorem numOK {n : Nat} {rel : Nat → Nat → Bool} (hr : EqOn n rel) : ∀ k, k ≤ n → NumOK rel k (numBy rel k).1 (numBy rel k).2
  | 0, _ => ⟨rfl, fun j h => by simp [numBy] at h, fun j h => by simp [numBy] at h, fun x h => by omega, fun i j h => by simp [numBy] at h⟩
  | k + 1, hk => by
    have ih := numOK hr k (by omega)
    unfold numBy
    split
    · next j hj =>
      dsimp only
      obtain ⟨h1, h2⟩ := findIdx_some hj
      refine ⟨by simp [ih.len], fun j hj => ?_, fun j hj => ?_, fun x hx => ?_, ih.dis⟩
      · have := ih.fs0 j hj; omega
      · have := ih.fs0 j hj
        rw [ixs (by rw [ih.len]; omega)]; exact ih.at_ j hj
      · by_cases e : x = k
        · subst e
          rw [ixe ih.len.symm]
          exact ⟨by omega, by simpa using h1, by simpa using h2⟩
        · rw [ixs (by rw [ih.len]; omega)]; exact ih.cls x (by omega)
    · next hnone =>
      dsimp only
      have hno : ∀ j, j < (numBy rel k).2.length → rel k (ix (numBy rel k).2 j).toNat = false := fun j hj => findIdx_none hnone hj
      refine ⟨by simp [ih.len], fun j hj => ?_, fun j hj => ?_, fun x hx => ?_, fun i j hi hj h => ?_⟩
      · by_cases e : j < (numBy rel k).2.length
        · have := ih.fs0 j e; rw [ixs e]; omega
        · simp at hj; rw [ixe (by omega)]; omega
      · by_cases e : j < (numBy rel k).2.length
        · have := ih.fs0 j e
          rw [ixs e, ixs (by rw [ih.len]; omega)]; exact ih.at_ j e
        · simp at hj
          rw [ixe (i := j) (by omega), ixe (by rw [ih.len]; omega)]; omega
      · by_cases e : x = k
        · subst e
          rw [ixe ih.len.symm]
          refine ⟨by omega, by simp; omega, ?_⟩
          rw [ixe (by omega)]
          have := hr.refl x (by omega)
          simpa using this
        · rw [ixs (by rw [ih.len]; omega)]
          obtain ⟨h1, h2, h3⟩ := ih.cls x (by omega)
          exact ⟨h1, by simp; omega, by rw [ixs (by omega)]; exact h3⟩
      · simp at hi hj
        by_cases ei : i < (numBy rel k).2.length
        · by_cases ej : j < (numBy rel k).2.length
          · rw [ixs ei, ixs ej] at h; exact ih.dis i j ei ej h
          · rw [ixs ei, ixe (i := j) (by omega)] at h
            have hf := ih.fs0 i ei
            have h1 := hr.symm _ _ (by omega) (by simp; omega) h
            have h2 := hno i ei
            simp at h1
            rw [h1] at h2; cases h2
        · by_cases ej : j < (numBy rel k).2.length
          · rw [ixe (i := i) (by omega), ixs ej] at h
            have h2 := hno j ej
            simp at h
            rw [h] at h2; cases h2
          · omega
theorem NumOK.iff {n k : Nat} {rel : Nat → Nat → Bool} {nx fs : List Int} (hr : EqOn n rel) (hk : k ≤ n) (h : NumOK rel k nx fs) {x y : Nat} (hx : x < k) (hy : y < k) : ix nx x = ix nx y ↔ rel x y = true := by
  obtain ⟨a1, a2, a3⟩ := h.cls x hx
  obtain ⟨b1, b2, b3⟩ := h.cls y hy
  have hfx := h.fs0 (ix nx x).toNat (by omega)
  have hfy := h.fs0 (ix nx y).toNat (by omega)
  constructor
  · intro e
    rw [e] at a3
    exact hr.trans _ _ _ (by omega) (by omega) (by omega) a3 (hr.symm _ _ (by omega) (by omega) b3)
  · intro e
    have h1 := hr.symm _ _ (by omega) (by omega) a3
    have h2 := hr.trans _ _ _ (by omega) (by omega) (by omega) h1 e
    have h3 := hr.trans _ _ _ (by omega) (by omega) (by omega) h2 b3
    have := h.dis _ _ (by omega) (by omega) h3
    omega
theorem numBy_congr {n : Nat} {rel rel' : Nat → Nat → Bool} (hr : EqOn n rel) (h : ∀ x y, x < n → y < n → rel x y = rel' x y) : ∀ k, k ≤ n → numBy rel k = numBy rel' k
  | 0, _ => rfl
  | k + 1, hk => by
    have ih := numBy_congr hr h k (by omega)
    have ho := numOK hr k (by omega)
    unfold numBy
    rw [← ih]
    have e : (numBy rel k).2.findIdx? (fun y => rel k y.toNat) = (numBy rel k).2.findIdx? (fun y => rel' k y.toNat) := by
      have hall : ∀ y ∈ (numBy rel k).2, rel k y.toNat = rel' k y.toNat := fun y hy => by
        obtain ⟨j, hj, rfl⟩ := List.getElem_of_mem hy
        have := ho.fs0 j hj
        rw [ix_get hj] at this
        exact h _ _ (by omega) (by omega)
      generalize (numBy rel k).2 = l at hall
      induction l with
      | nil => rfl
      | cons a l ih => simp only [List.findIdx?_cons, hall a (by simp), ih (fun y hy => hall y (List.mem_cons_of_mem _ hy))]
    rw [e]
/-- A finer relation has as many classes or more; if as many, the same numbers. -/
theorem refine_num {n : Nat} {rel rel' : Nat → Nat → Bool} (hr : EqOn n rel) (hr' : EqOn n rel') (h : ∀ x y, x < n → y < n → rel' x y = true → rel x y = true) : ∀ k, k ≤ n →
    (numBy rel k).2.length ≤ (numBy rel' k).2.length ∧ ((numBy rel k).2.length = (numBy rel' k).2.length → numBy rel k = numBy rel' k)
  | 0, _ => ⟨Nat.le_refl _, fun _ => rfl⟩
  | k + 1, hk => by
    obtain ⟨ih1, ih2⟩ := refine_num hr hr' h k (by omega)
    have ho := numOK hr k (by omega)
    have ho' := numOK hr' k (by omega)
    unfold numBy
    cases h1 : (numBy rel k).2.findIdx? (fun y => rel k y.toNat) with
    | none =>
      cases h2 : (numBy rel' k).2.findIdx? (fun y => rel' k y.toNat) with
      | none =>
        refine ⟨by simp; omega, fun e => ?_⟩
        have e2 := ih2 (by simpa using e)
        simp only [e2]
      | some j =>
        obtain ⟨g1, g2⟩ := findIdx_some h2
        have hf := ho'.fs0 j g1
        obtain ⟨c1, c2, c3⟩ := ho.cls (ix (numBy rel' k).2 j).toNat (by omega)
        have hf2 := ho.fs0 _ (show (ix (numBy rel k).1 (ix (numBy rel' k).2 j).toNat).toNat < (numBy rel k).2.length by omega)
        have h3 := hr.trans _ _ _ (by omega) (by omega) (by omega) (h _ _ (by omega) (by omega) g2) c3
        have h4 := findIdx_none h1 (show (ix (numBy rel k).1 (ix (numBy rel' k).2 j).toNat).toNat < (numBy rel k).2.length by omega)
        rw [h3] at h4; cases h4
    | some j =>
      cases h2 : (numBy rel' k).2.findIdx? (fun y => rel' k y.toNat) with
      | none => exact ⟨by simp; omega, fun e => by simp at e; omega⟩
      | some j' =>
        refine ⟨by simpa using ih1, fun e => ?_⟩
        have e2 := ih2 (by simpa using e)
        obtain ⟨g1, g2⟩ := findIdx_some h1
        obtain ⟨g3, g4⟩ := findIdx_some h2
        rw [← e2] at g3 g4
        have hf := ho.fs0 j g1
        have hf' := ho.fs0 j' g3
        have h3 := hr.trans _ _ _ (by omega) (by omega) (by omega) (hr.symm _ _ (by omega) (by omega) g2) (h _ _ (by omega) (by omega) g4)
        have := ho.dis j j' g1 g3 h3
        subst this
        simp only [e2]
theorem num_le {rel : Nat → Nat → Bool} : ∀ k, (numBy rel k).2.length ≤ k
  | 0 => Nat.le_refl _
  | k + 1 => by
    have ih := num_le (rel := rel) k
    unfold numBy
    split
    · simp; omega
    · simp; omega
theorem num_len {rel : Nat → Nat → Bool} : ∀ k, (numBy rel k).1.length = k
  | 0 => rfl
  | k + 1 => by
    have ih := num_len (rel := rel) k
    unfold numBy
    split <;> simp [ih]
theorem num_pos {rel : Nat → Nat → Bool} : ∀ k, 1 ≤ k → 1 ≤ (numBy rel k).2.length
  | 1, _ => by simp [numBy]
  | k + 2, _ => by
    have ih := num_pos (rel := rel) (k + 1) (by omega)
    unfold numBy
    split
    · simpa using ih
    · simp
end Part
end Go.Proofs.YtolpjmllmlahfaaDoor
