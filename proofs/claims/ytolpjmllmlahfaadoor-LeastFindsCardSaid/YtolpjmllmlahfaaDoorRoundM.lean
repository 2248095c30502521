/- The rounds of classes, as the program finds them: plain Lean. -/
import Derived.Test.YtolpjmllmlahfaaDoorKeys
namespace Go.Proofs.YtolpjmllmlahfaaDoor
open AL ref01 ref03 ref04 ref06 Part Rungs LeftM TrimM Itoa Keys
namespace RoundM
theorem numBy_lt (rel : Nat → Nat → Bool) : ∀ k, ∀ y ∈ (numBy rel k).2, 0 ≤ y ∧ y < (k : Int)
  | 0, y, h => by simp [numBy] at h
  | k + 1, y, h => by
    have ih := numBy_lt rel k
    rw [numBy] at h
    split at h
    · have := ih y h; omega
    · rcases List.mem_append.1 h with h | h
      · have := ih y h; omega
      · have : y = (k : Int) := by simpa using h
        omega
theorem findIdx_congr {p q : Int → Bool} : ∀ {l : List Int}, (∀ y ∈ l, p y = q y) → l.findIdx? p = l.findIdx? q
  | [], _ => rfl
  | x :: l, h => by
    rw [List.findIdx?_cons, List.findIdx?_cons, h x (by simp), findIdx_congr (l := l) (fun y hy => h y (by simp [hy]))]
theorem numBy_cg {rel rel' : Nat → Nat → Bool} {n : Nat} (h : ∀ x y, x < n → y < n → rel x y = rel' x y) : ∀ k, k ≤ n → numBy rel k = numBy rel' k
  | 0, _ => rfl
  | k + 1, hk => by
    have ih := numBy_cg h k (by omega)
    have e : (numBy rel k).2.findIdx? (fun y => rel k y.toNat) = (numBy rel' k).2.findIdx? (fun y => rel' k y.toNat) := by
      rw [ih]
      exact findIdx_congr (fun y hy => h k y.toNat (by omega) (by have := numBy_lt rel' k y hy; omega))
    unfold numBy
    rw [e, ih]
theorem keep_bd {s : SSpec} (hs : okSpec s) (x : Nat) : (∀ t ∈ keep s x, 0 ≤ t ∧ t < 256) ∧ (keep s x).length ≤ 256 := by
  by_cases hx : x < s.states.length
  · have hok := hs.st x hx
    refine ⟨fun t ht => acc_bd hok (keep_mem ht).1, ?_⟩
    have h1 := List.length_filter_le (fun t => !ix (hollow s) x && !falls (ix s.states x) t (hollow s)) (ix s.states x).accept
    have h2 := hok.acl
    unfold keep; omega
  · have e : (ix s.states x).accept = [] := by
      have : ix s.states x = default := by unfold ix; rw [List.getD_eq_getElem?_getD, List.getElem?_eq_none (by omega)]; rfl
      rw [this]; rfl
    have e2 : keep s x = [] := by unfold keep; rw [e]; rfl
    rw [e2]; exact ⟨fun t ht => by simp at ht, by simp⟩
noncomputable def kf0 (s : SSpec) (x : Nat) : ByteArray := tailB (keep s x)
noncomputable def nbrs (s : SSpec) (cl : List Int) (x : Nat) : List Int := (listOf 63 (orAll (keep s x))).map fun a => ix cl (ix (ix s.states x).next a.toNat).toNat
noncomputable def kf1 (s : SSpec) (cl : List Int) (x : Nat) : ByteArray := keyB (ix cl x) (nbrs s cl x)
theorem solid_next_ix {s : SSpec} (hs : okSpec s) {x : Nat} (hx : x < s.states.length) {a : Nat} (ha : a < (ix (solid s).states x).next.length) :
    ix (ix (solid s).states x).next a = if has (orAll (keep s x)) (a : Int) then ix (ix s.states x).next a else -1 := by
  rw [solid_next hs hx, ← (hs.st x hx).len] at ha
  rw [solid_at hx]
  exact cut_ix ha
theorem alike_keep {s : SSpec} {cl : List Int} {x y : Nat} (hx : x < s.states.length) (hy : y < s.states.length) (h : alike (solid s) cl x y = true) : keep s x = keep s y := by
  have := (alike_iff.1 h).2.1
  rw [solid_at hx, solid_at hy] at this
  exact this
/-- What two states are alike by. -/
theorem alike_nbrs {s : SSpec} (hs : okSpec s) {cl : List Int} {x y : Nat} (hx : x < s.states.length) (hy : y < s.states.length) :
    alike (solid s) cl x y = true ↔ ix cl x = ix cl y ∧ keep s x = keep s y ∧ nbrs s cl x = nbrs s cl y := by
  have hlx := (hs.st x hx).len
  have hly := (hs.st y hy).len
  constructor
  · intro h
    have hk := alike_keep hx hy h
    obtain ⟨h1, _, h3⟩ := alike_iff.1 h
    refine ⟨h1, hk, ?_⟩
    unfold nbrs
    rw [← hk]
    refine List.map_congr_left (fun a ha => ?_)
    obtain ⟨b, rfl, _, hb⟩ := listOf_mem.1 ha
    obtain ⟨g1, g2, _, _⟩ := can_go hs hx hb
    have hb2 := hb
    rw [hk] at hb2
    have hbl : b < (ix (solid s).states x).next.length := by rw [solid_next hs hx, ← hlx]; exact g1
    have hbl2 : b < (ix (solid s).states y).next.length := by rw [solid_next hs hy, ← hlx]; exact g1
    have := (alikeNext_iff.1 h3 b hbl).2
    rw [solid_next_ix hs hx hbl, solid_next_ix hs hy hbl2, if_pos hb, if_pos hb2] at this
    rw [Int.toNat_natCast]
    exact this g2
  · rintro ⟨h1, h2, h3⟩
    refine alike_iff.2 ⟨h1, by rw [solid_at hx, solid_at hy]; exact h2, alikeNext_iff.2 (fun b hb => ?_)⟩
    have hb2 : b < (ix (solid s).states y).next.length := by rw [solid_next hs hy, ← solid_next hs hx]; exact hb
    rw [solid_next_ix hs hx hb, solid_next_ix hs hy hb2, ← h2]
    by_cases hh : has (orAll (keep s x)) (b : Int) = true
    · rw [if_pos hh, if_pos hh]
      have g := can_go hs hx hh
      have g' := can_go hs hy (by rw [← h2]; exact hh)
      refine ⟨by omega, fun _ => ?_⟩
      unfold nbrs at h3
      rw [← h2] at h3
      have hm : (b : Int) ∈ listOf 63 (orAll (keep s x)) := listOf_mem.2 ⟨b, rfl, by have := hs.n8; omega, hh⟩
      have := List.map_inj_left.1 h3 (b : Int) hm
      rw [Int.toNat_natCast] at this
      exact this
    · rw [if_neg hh, if_neg hh]
      exact ⟨Iff.rfl, fun h => by omega⟩
theorem bool_eq {a b : Bool} (h : a = true ↔ b = true) : a = b := by cases a <;> cases b <;> simp_all
theorem rel0 {s : SSpec} (hs : okSpec s) {x y : Nat} (hx : x < s.states.length) (hy : y < s.states.length) : decide (kf0 s x = kf0 s y) = alike (solid s) (itR s 0).1 x y := by
  refine bool_eq ?_
  rw [decide_eq_true_eq, alike_nbrs hs hx hy]
  have hz : ∀ i, ix (itR s 0).1 i = 0 := fun i => by
    show ix (List.replicate s.states.length (0 : Int)) i = 0
    unfold ix
    rw [List.getD_eq_getElem?_getD, List.getElem?_replicate]
    split <;> rfl
  constructor
  · intro h
    have hk : keep s x = keep s y := tailB_inj (fun t ht => ((keep_bd hs x).1 t ht).1) (fun t ht => ((keep_bd hs y).1 t ht).1) h
    refine ⟨by rw [hz, hz], hk, ?_⟩
    unfold nbrs
    rw [hk]
    exact List.map_congr_left (fun a _ => by rw [hz, hz])
  · rintro ⟨_, h, _⟩
    unfold kf0; rw [h]
theorem cl_bd {s : SSpec} (hs : okSpec s) (i : Nat) (x : Nat) : 0 ≤ ix (itR s i).1 x ∧ ix (itR s i).1 x ≤ 500 := by
  by_cases hx : x < s.states.length
  · cases i with
    | zero =>
      show 0 ≤ ix (List.replicate s.states.length (0 : Int)) x ∧ _
      unfold ix
      rw [show (itR s 0).1 = List.replicate s.states.length (0 : Int) from rfl, List.getD_eq_getElem?_getD, List.getElem?_replicate, if_pos hx]
      exact ⟨Int.le_refl _, by decide⟩
    | succ i =>
      have h := (numOK (itR_eqOn hs i) s.states.length (Nat.le_refl _)).cls x hx
      have h2 := num_le (rel := alike (solid s) (itR s i).1) s.states.length
      have hf := hs.few1
      show 0 ≤ ix (numBy _ _).1 x ∧ ix (numBy _ _).1 x ≤ 500
      omega
  · have : ix (itR s i).1 x = 0 := by unfold ix; rw [List.getD_eq_getElem?_getD, List.getElem?_eq_none (by rw [itR_len]; omega)]; rfl
    rw [this]; omega
theorem nbrs_bd {s : SSpec} (hs : okSpec s) (i x : Nat) : ∀ y ∈ nbrs s (itR s i).1 x, 0 ≤ y ∧ y ≤ 500 := fun y hy => by
  obtain ⟨a, _, rfl⟩ := List.mem_map.1 hy
  exact cl_bd hs i _
theorem rel1 {s : SSpec} (hs : okSpec s) (i : Nat) {x y : Nat} (hx : x < s.states.length) (hy : y < s.states.length) : decide (kf1 s (itR s (i + 1)).1 x = kf1 s (itR s (i + 1)).1 y) = alike (solid s) (itR s (i + 1)).1 x y := by
  refine bool_eq ?_
  rw [decide_eq_true_eq, alike_nbrs hs hx hy]
  constructor
  · intro h
    obtain ⟨h1, h2⟩ := keyB_inj (cl_bd hs _ _).1 (cl_bd hs _ _).1 (fun y hy => (nbrs_bd hs _ _ y hy).1) (fun y hy => (nbrs_bd hs _ _ y hy).1) h
    refine ⟨h1, ?_, h2⟩
    have := ((numOK (itR_eqOn hs i) s.states.length (Nat.le_refl _)).iff (itR_eqOn hs i) (Nat.le_refl _) hx hy).1 h1
    exact alike_keep hx hy this
  · rintro ⟨h1, _, h3⟩
    unfold kf1; rw [h1, h3]
theorem num0 {s : SSpec} (hs : okSpec s) : ((numBy (fun x y => decide (kf0 s x = kf0 s y)) s.states.length).1, (numBy (fun x y => decide (kf0 s x = kf0 s y)) s.states.length).2.length) = itR s 1 := by
  rw [numBy_cg (rel' := alike (solid s) (itR s 0).1) (fun x y hx hy => rel0 hs hx hy) _ (Nat.le_refl _)]; rfl
theorem num1 {s : SSpec} (hs : okSpec s) (i : Nat) : ((numBy (fun x y => decide (kf1 s (itR s (i + 1)).1 x = kf1 s (itR s (i + 1)).1 y)) s.states.length).1, (numBy (fun x y => decide (kf1 s (itR s (i + 1)).1 x = kf1 s (itR s (i + 1)).1 y)) s.states.length).2.length) = itR s (i + 2) := by
  rw [numBy_cg (rel' := alike (solid s) (itR s (i + 1)).1) (fun x y hx hy => rel1 hs i hx hy) _ (Nat.le_refl _)]; rfl
def stopP (s : SSpec) (r : Nat) : Prop := (itR s (r + 2)).2 = (itR s (r + 1)).2
noncomputable instance (s : SSpec) (r : Nat) : Decidable (stopP s r) := Nat.decEq _ _
noncomputable def stopR (s : SSpec) : Nat := (List.range (s.states.length + 1)).findIdx fun r => decide (stopP s r)
theorem grows {s : SSpec} (hs : okSpec s) : ∀ j, (∀ r, r < j → ¬ stopP s r) → j + 1 ≤ (itR s (j + 1)).2
  | 0, _ => num_pos (rel := alike (solid s) (itR s 0).1) s.states.length hs.few0
  | j + 1, h => by
    have h1 := grows hs j (fun r hr => h r (by omega))
    have h2 := (itR_step hs (j + 1)).1
    have h3 : (itR s (j + 1 + 1)).2 ≠ (itR s (j + 1)).2 := h j (by omega)
    omega
theorem stop_lt {s : SSpec} (hs : okSpec s) {j : Nat} (h : ∀ r, r < j → ¬ stopP s r) : j < s.states.length := by
  have h1 := grows hs j h
  have h2 := itR_le (s := s) (j + 1)
  omega
theorem stop_ge {s : SSpec} (hs : okSpec s) {j : Nat} (h : ∀ r, r < j → ¬ stopP s r) : j ≤ stopR s := by
  have hj := stop_lt hs h
  rcases Nat.lt_or_ge (stopR s) j with h1 | h1
  · have hl : stopR s < (List.range (s.states.length + 1)).length := by rw [List.length_range]; omega
    have h5 : decide (stopP s ((List.range (s.states.length + 1))[stopR s]'hl)) = true := List.findIdx_getElem (w := hl)
    rw [List.getElem_range, decide_eq_true_eq] at h5
    exact absurd h5 (h _ h1)
  · exact h1
theorem stop_at {s : SSpec} (hs : okSpec s) {j : Nat} (h : ∀ r, r < j → ¬ stopP s r) (hP : stopP s j) : stopR s = j := by
  have hj := stop_lt hs h
  have h1 := stop_ge hs h
  rcases Nat.lt_or_ge j (stopR s) with h2 | h2
  · have := List.not_of_lt_findIdx h2
    simp only [List.getElem_range, decide_eq_false_iff_not] at this
    exact absurd hP this
  · omega
theorem stop_spec {s : SSpec} (hs : okSpec s) : stopP s (stopR s) := by
  have hno : ∀ r, r < stopR s → ¬ stopP s r := fun r hr => by
    have := List.not_of_lt_findIdx hr
    simpa only [List.getElem_range, decide_eq_false_iff_not] using this
  have hl := stop_lt hs hno
  have hl : stopR s < (List.range (s.states.length + 1)).length := by rw [List.length_range]; omega
  have h5 : decide (stopP s ((List.range (s.states.length + 1))[stopR s]'hl)) = true := List.findIdx_getElem (w := hl)
  rw [List.getElem_range, decide_eq_true_eq] at h5
  exact h5
noncomputable def roundsL (s : SSpec) : List (List Int) := (List.range (stopR s + 1)).map fun j => (itR s (j + 1)).1
theorem rounds_at {s : SSpec} (hs : okSpec s) {j : Nat} (h : ∀ r, r < j → ¬ stopP s r) : (roundsL s)[j]? = some (itR s (j + 1)).1 := by
  have := stop_ge hs h
  unfold roundsL
  rw [List.getElem?_map, List.getElem?_range (by omega)]; rfl
theorem rounds_len {s : SSpec} (hs : okSpec s) {j : Nat} (h : ∀ r, r < j → ¬ stopP s r) (hP : stopP s j) : (roundsL s).length = j + 1 := by
  unfold roundsL
  rw [List.length_map, List.length_range, stop_at hs h hP]
theorem rounds_get {s : SSpec} {j : Nat} {x : List Int} (h : (roundsL s)[j]? = some x) : x = (itR s (j + 1)).1 := by
  unfold roundsL at h
  rw [List.getElem?_map] at h
  cases hr : (List.range (stopR s + 1))[j]? with
  | none => rw [hr] at h; cases h
  | some k =>
    rw [hr] at h
    have := List.getElem?_eq_some_iff.1 hr
    obtain ⟨h1, h2⟩ := this
    simp at h2
    subst h2
    simpa using h.symm
theorem rounds_last {s : SSpec} (hs : okSpec s) : (roundsL s).length = stopR s + 1 ∧ (itR s (stopR s + 1)).1 = classesR s := by
  have hP := stop_spec hs
  have hno : ∀ r, r < stopR s → ¬ stopP s r := fun r hr => by
    have := List.not_of_lt_findIdx hr
    simpa only [List.getElem_range, decide_eq_false_iff_not] using this
  have hl := stop_lt hs hno
  have e : (itR s (stopR s + 1)).2 = (itR s (stopR s + 1 + 1)).2 := hP.symm
  refine ⟨by simp [roundsL], ?_⟩
  have h1 := (itR_step hs (stopR s + 1)).2 e
  have h2 := itR_end hs (i := stopR s + 1) (by omega) e
  rw [h2, h1]
end RoundM
end Go.Proofs.YtolpjmllmlahfaaDoor
