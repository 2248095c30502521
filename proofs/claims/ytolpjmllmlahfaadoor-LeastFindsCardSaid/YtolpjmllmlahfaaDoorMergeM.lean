/- The least specification, as the program merges it: plain Lean. -/
import Derived.Test.YtolpjmllmlahfaaDoorRoundM
namespace Go.Proofs.YtolpjmllmlahfaaDoor
open AL ref01 ref03 ref04 ref06 Part Rungs LeftM TrimM Itoa Keys RoundM
namespace MergeM
theorem rising_pw {l : List Int} (h : rising l = true) : l.Pairwise (· < ·) := by
  rw [List.pairwise_iff_getElem]
  intro i j hi hj hij
  have hstep : ∀ k, i + k < l.length → ix l i ≤ ix l (i + k) ∧ (0 < k → ix l i < ix l (i + k)) := fun k => by
    induction k with
    | zero => exact fun _ => ⟨Int.le_refl _, fun h => by omega⟩
    | succ k ih =>
      intro hk
      have h1 := ih (by omega)
      have h2 := rising_ix h (i := i + k) (by omega)
      rw [show i + (k + 1) = i + k + 1 by omega]
      exact ⟨by omega, fun _ => by omega⟩
  have := (hstep (j - i) (by omega)).2 (by omega)
  rw [show i + (j - i) = j by omega, ix_get hi, ix_get hj] at this
  exact this
theorem pw_rising {l : List Int} (h : l.Pairwise (· < ·)) : rising l = true := by
  unfold rising
  rw [List.all_eq_true]
  intro i hi
  have hi := List.mem_range.1 hi
  rw [decide_eq_true_eq, ix_get (by omega), ix_get (by omega)]
  exact List.pairwise_iff_getElem.1 h i (i + 1) (by omega) (by omega) (by omega)
theorem keep_rising {s : SSpec} (hs : okSpec s) {x : Nat} (hx : x < s.states.length) : rising (keep s x) = true :=
  pw_rising ((rising_pw (hs.st x hx).rise).filter _)
theorem tnext_ix {s : SSpec} {x : Int} {a : Nat} (ha : a < s.actions.length) : ix (tnext s x) a = if has (orAll (keep s x.toNat)) (a : Int) then posN (ordS s) (ix (ix s.states x.toNat).next a) else -1 := ix_map_range ha
theorem ord_bd {s : SSpec} (hs : okSpec s) {i : Nat} (hi : i < (ordS s).length) : 0 ≤ ix (ordS s) i ∧ ix (ordS s) i < (s.states.length : Int) := (show okQ s.states.length (ordS s) from order_okQ hs).1 i hi
theorem ord_le {s : SSpec} (hs : okSpec s) : (ordS s).length ≤ s.states.length := (show okQ s.states.length (ordS s) from order_okQ hs).le
noncomputable abbrev tS (s : SSpec) : SSpec := ⟨s.actions, (ordS s).map (tstate s)⟩
theorem tS_len (s : SSpec) : (tS s).states.length = (ordS s).length := by simp
theorem tS_at {s : SSpec} {i : Nat} (hi : i < (ordS s).length) : ix (tS s).states i = tstate s (ix (ordS s) i) := by
  rw [ix_get (by rw [tS_len]; exact hi), ix_get hi]; simp
theorem tS_ok {s : SSpec} (hs : okSpec s) : okSpec (tS s) := by
  have hop := ordS_pos s
  have hol := ord_le hs
  have hf1 := hs.few1
  have hn8 := hs.n8
  refine ⟨hs.acts, hs.n8, by rw [tS_len]; exact hop, by rw [tS_len]; omega, fun k hk => ?_⟩
  rw [tS_len] at hk ⊢
  rw [tS_at hk]
  have hb := ord_bd hs hk
  have hx : (ix (ordS s) k).toNat < s.states.length := by omega
  have hkb := keep_bd hs (ix (ordS s) k).toNat
  refine ⟨by simp [tstate, tnext], fun a ha => ?_, fun i hi => hkb.1 _ (ix_mem hi), fun i hi a ha => ?_, keep_rising hs hx⟩
  · show -1 ≤ ix (tnext s _) a ∧ ix (tnext s _) a < _
    rw [tnext_ix (s := s) ha]
    split
    · have := posN_bd (ordS s) (ix (ix s.states (ix (ordS s) k).toNat).next a)
      omega
    · omega
  · have hh : has (orAll (keep s (ix (ordS s) k).toNat)) (a : Int) = true := (orAll_has _ _).2 ⟨_, ix_mem hi, ha⟩
    have hg := can_go hs hx hh
    have hal : a < s.actions.length := by have := (hs.st _ hx).len; omega
    refine ⟨hal, ?_⟩
    show 0 ≤ ix (tnext s _) a
    rw [tnext_ix hal, if_pos hh]
    exact (posN_bd _ _).1
open Classical in
theorem hollow_ix {s : SSpec} {x : Nat} (hx : x < s.states.length) : ix (hollow s) x = true ↔ Hol s x := by
  unfold hollow; rw [ix_map_range hx]; simp
theorem hollow_out {s : SSpec} {x : Nat} (hx : ¬ x < s.states.length) : ix (hollow s) x = false := by
  have : (hollow s)[x]? = none := List.getElem?_eq_none (by rw [hollow_len]; omega)
  unfold ix
  rw [List.getD_eq_getElem?_getD, this]; rfl
/-- A state that is not hollow keeps a set. -/
theorem keep_ne {s : SSpec} {x : Nat} (hx : x < s.states.length) (h : ix (hollow s) x = false) : keep s x ≠ [] := fun he => by
  have hH : ¬ Hol s x := fun hh => by rw [(hollow_ix hx).2 hh] at h; cases h
  refine hH (Hol_closed s x hx (fun i hi => ?_))
  rw [keep_filter h, List.filter_eq_nil_iff] at he
  have h1 := he _ (ix_mem hi)
  simp only [Bool.not_eq_true', Bool.not_eq_false] at h1
  obtain ⟨a, h2, h3, h4, h5⟩ := falls_iff.1 h1
  refine ⟨a, h2, h3, h4, ?_⟩
  by_cases hb : (ix (ix s.states x).next a).toNat < s.states.length
  · exact (hollow_ix hb).1 h5
  · rw [hollow_out hb] at h5; cases h5
theorem ord_solid {s : SSpec} (hs : okSpec s) (h0 : ix (hollow s) 0 = false) {i : Nat} (hi : i < (ordS s).length) : ix (hollow s) (ix (ordS s) i).toNat = false :=
  bq_solid hs h0 _ _ (ix_mem hi)
theorem tS_hollow {s : SSpec} (hs : okSpec s) (h0 : ix (hollow s) 0 = false) (i : Nat) : ix (hollow (tS s)) i = false := by
  by_cases hi : i < (tS s).states.length
  · cases hv : ix (hollow (tS s)) i with
    | false => rfl
    | true =>
      have h := (hollow_ix hi).1 hv
      exfalso
      refine h (fun _ => False) (fun x hx hc => ?_)
      rw [tS_len] at hx
      have hb := ord_bd hs hx
      have hne := keep_ne (s := s) (x := (ix (ordS s) x).toNat) (by omega) (ord_solid hs h0 hx)
      have hl : 0 < (ix (tS s).states x).accept.length := by rw [tS_at hx]; exact List.length_pos_iff.2 hne
      obtain ⟨_, _, _, _, h⟩ := hc 0 hl
      exact h
  · exact hollow_out hi
theorem tS_keep {s : SSpec} (hs : okSpec s) (h0 : ix (hollow s) 0 = false) {i : Nat} (hi : i < (ordS s).length) : keep (tS s) i = keep s (ix (ordS s) i).toNat := by
  rw [keep_filter (tS_hollow hs h0 i), tS_at hi]
  show (keep s _).filter _ = _
  rw [List.filter_eq_self]
  intro t _
  rw [Bool.not_eq_true']
  cases hf : falls (tstate s (ix (ordS s) i)) t (hollow (tS s)) with
  | false => rfl
  | true =>
    obtain ⟨a, _, _, _, h⟩ := falls_iff.1 hf
    rw [tS_hollow hs h0] at h; cases h
theorem visit_sub {y : Int} : ∀ (ks l : List Int), y ∈ l → y ∈ visit l ks := fun ks l h => (visit_prefix ks l).subset h
theorem visit_has {y : Int} (h0 : 0 ≤ y) : ∀ (ks l : List Int), y ∈ ks → y ∈ visit l ks
  | k :: ks, l, h => by
    rw [visit_foldl, List.foldl_cons]
    rcases List.mem_cons.1 h with rfl | h
    · refine visit_sub ks _ ?_
      unfold visit1
      by_cases hc : l.contains y = true
      · rw [hc]; simp; exact List.contains_iff_mem.1 hc
      · simp only [Bool.not_eq_true] at hc
        rw [hc, if_pos (by simp [h0])]; simp
    · exact visit_has h0 ks _ h
/-- Where a state that is found leads to is found. -/
theorem ord_closed {s : SSpec} (hs : okSpec s) {i : Nat} (hi : i < (ordS s).length) {a : Nat} (ha : has (orAll (keep s (ix (ordS s) i).toNat)) (a : Int) = true) : ix (ix s.states (ix (ordS s) i).toNat).next a ∈ ordS s := by
  have hol := ord_le hs
  have hi2 : i < (bq (solid s) i).length := by
    rcases Nat.lt_or_ge i (bq (solid s) i).length with h | h
    · exact h
    · have he := bq_end hs h (by omega)
      have : (ordS s).length ≤ i := by show (order (solid s)).length ≤ i; rw [← he]; exact h
      omega
  have hp := bq_order hs (i := i) (by omega)
  have hix : ix (ordS s) i = ix (bq (solid s) i) i := ix_prefix hp hi2
  have hp1 := bq_order hs (i := i + 1) (by omega)
  rw [bq_succ hs hi2] at hp1
  refine hp1.subset ?_
  have hb := ord_bd hs hi
  have hg := can_go hs (x := (ix (ordS s) i).toNat) (by omega) ha
  rw [← hix]
  have hn8 := hs.n8
  have hl := (hs.st (ix (ordS s) i).toNat (by omega)).len
  refine visit_has hg.2.1 _ _ (List.mem_map.2 ⟨(a : Int), listOf_mem.2 ⟨a, rfl, by omega, ha⟩, by rw [Int.toNat_natCast]⟩)
theorem tS_nbrs {s : SSpec} (hs : okSpec s) (h0 : ix (hollow s) 0 = false) (cl : List Int) {i : Nat} (hi : i < (ordS s).length) :
    nbrs (tS s) cl i = (listOf 63 (orAll (keep s (ix (ordS s) i).toNat))).map fun a => ix cl (posN (ordS s) (ix (ix s.states (ix (ordS s) i).toNat).next a.toNat)).toNat := by
  unfold nbrs
  rw [tS_keep hs h0 hi, tS_at hi]
  refine List.map_congr_left (fun a ha => ?_)
  obtain ⟨b, rfl, _, hb⟩ := listOf_mem.1 ha
  have hbd := ord_bd hs hi
  have hg := can_go hs (x := (ix (ordS s) i).toNat) (by omega) hb
  have hl := (hs.st (ix (ordS s) i).toNat (by omega)).len
  show ix cl (ix (tnext s _) _).toNat = _
  rw [Int.toNat_natCast, tnext_ix (by omega), if_pos hb]
/-- The rounds of a trimS specification are those of the whole one, at the states that are found. -/
theorem rounds_same {s : SSpec} (hs : okSpec s) (h0 : ix (hollow s) 0 = false) : ∀ r, ∀ i j, i < (ordS s).length → j < (ordS s).length →
    (ix (itR (tS s) r).1 i = ix (itR (tS s) r).1 j ↔ ix (itR s r).1 (ix (ordS s) i).toNat = ix (itR s r).1 (ix (ordS s) j).toNat)
  | 0, i, j, _, _ => by
    have hz : ∀ (u : SSpec) (k : Nat), ix (itR u 0).1 k = 0 := fun u k => by
      show ix (List.replicate u.states.length (0 : Int)) k = 0
      unfold ix
      rw [List.getD_eq_getElem?_getD, List.getElem?_replicate]
      split <;> rfl
    rw [hz, hz, hz, hz]
  | r + 1, i, j, hi, hj => by
    have ih := rounds_same hs h0 r
    have ht := tS_ok hs
    have hbi := ord_bd hs hi
    have hbj := ord_bd hs hj
    have e1 := (numOK (itR_eqOn ht r) (tS s).states.length (Nat.le_refl _)).iff (itR_eqOn ht r) (Nat.le_refl _) (x := i) (y := j) (by rw [tS_len]; exact hi) (by rw [tS_len]; exact hj)
    have e2 := (numOK (itR_eqOn hs r) s.states.length (Nat.le_refl _)).iff (itR_eqOn hs r) (Nat.le_refl _) (x := (ix (ordS s) i).toNat) (y := (ix (ordS s) j).toNat) (by omega) (by omega)
    refine Iff.trans e1 (Iff.trans ?_ e2.symm)
    rw [alike_nbrs ht (by rw [tS_len]; exact hi) (by rw [tS_len]; exact hj), alike_nbrs hs (by omega) (by omega), ih i j hi hj, tS_keep hs h0 hi, tS_keep hs h0 hj, tS_nbrs hs h0 _ hi, tS_nbrs hs h0 _ hj]
    refine and_congr_right (fun _ => and_congr_right (fun hk => ?_))
    unfold nbrs
    rw [hk, List.map_inj_left, List.map_inj_left]
    refine forall_congr' (fun a => forall_congr' (fun ha => ?_))
    obtain ⟨b, rfl, _, hb⟩ := listOf_mem.1 ha
    rw [Int.toNat_natCast]
    have hbi' : has (orAll (keep s (ix (ordS s) i).toNat)) (b : Int) = true := by rw [hk]; exact hb
    obtain ⟨p1, p2⟩ := posN_at (ord_closed hs hi hbi')
    obtain ⟨q1, q2⟩ := posN_at (ord_closed hs hj hb)
    have p0 := (posN_bd (ordS s) (ix (ix s.states (ix (ordS s) i).toNat).next b)).1
    have q0 := (posN_bd (ordS s) (ix (ix s.states (ix (ordS s) j).toNat).next b)).1
    have := ih _ _ (show (posN (ordS s) (ix (ix s.states (ix (ordS s) i).toNat).next b)).toNat < (ordS s).length by omega) (show (posN (ordS s) (ix (ix s.states (ix (ordS s) j).toNat).next b)).toNat < (ordS s).length by omega)
    rw [p2, q2] at this
    exact this
theorem itR_late {s : SSpec} (hs : okSpec s) {R : Nat} (h : s.states.length + 1 ≤ R) : (itR s R).1 = classesR s := by
  have hP := stop_spec hs
  have hno : ∀ r, r < stopR s → ¬ stopP s r := fun r hr => by
    have := List.not_of_lt_findIdx hr
    simpa only [List.getElem_range, decide_eq_false_iff_not] using this
  have hl := stop_lt hs hno
  have e := (itR_step hs (stopR s + 1)).2 (show (itR s (stopR s + 1)).2 = (itR s (stopR s + 1 + 1)).2 from hP.symm)
  have h1 := itR_stable e (R - (stopR s + 1))
  rw [show stopR s + 1 + (R - (stopR s + 1)) = R by omega] at h1
  rw [h1, (rounds_last hs).2]
theorem classes_same {s : SSpec} (hs : okSpec s) (h0 : ix (hollow s) 0 = false) {i j : Nat} (hi : i < (ordS s).length) (hj : j < (ordS s).length) :
    ix (classesR (tS s)) i = ix (classesR (tS s)) j ↔ ix (classesR s) (ix (ordS s) i).toNat = ix (classesR s) (ix (ordS s) j).toNat := by
  have := rounds_same hs h0 (s.states.length + 1) i j hi hj
  rw [itR_late (tS_ok hs) (by rw [tS_len]; have := ord_le hs; omega)] at this
  exact this
/-- Numbers in the order of first elements: each new one is the count so far. -/
theorem num_prefix (rel : Nat → Nat → Bool) (k : Nat) : (numBy rel k).1 <+: (numBy rel (k + 1)).1 := by
  rw [numBy]
  split
  · exact List.prefix_append _ _
  · exact List.prefix_append _ _
theorem num_prefixN (rel : Nat → Nat → Bool) (k : Nat) : ∀ j, (numBy rel k).1 <+: (numBy rel (k + j)).1
  | 0 => List.prefix_rfl
  | j + 1 => (num_prefixN rel k j).trans (num_prefix rel (k + j))
theorem num_step {n : Nat} {rel : Nat → Nat → Bool} (hr : EqOn n rel) {k : Nat} (hk : k < n) :
    (ix (numBy rel n).1 k = ((numBy rel k).2.length : Int) ∧ (numBy rel (k + 1)).2.length = (numBy rel k).2.length + 1 ∧ ∀ i, i < k → ix (numBy rel n).1 i ≠ ix (numBy rel n).1 k) ∨
    (ix (numBy rel n).1 k < ((numBy rel k).2.length : Int) ∧ (numBy rel (k + 1)).2.length = (numBy rel k).2.length ∧ ∃ i, i < k ∧ ix (numBy rel n).1 i = ix (numBy rel n).1 k) := by
  have hok := numOK hr k (by omega)
  have hp : ∀ m, m ≤ n → ∀ i, i < m → ix (numBy rel n).1 i = ix (numBy rel m).1 i := fun m hm i hi => by
    have := num_prefixN rel m (n - m)
    rw [show m + (n - m) = n by omega] at this
    exact ix_prefix this (by rw [num_len]; exact hi)
  have hlen := num_len (rel := rel) k
  have hv : ix (numBy rel n).1 k = ix (numBy rel (k + 1)).1 k := hp (k + 1) (by omega) k (by omega)
  rw [hv]
  have hi' : ∀ i, i < k → ix (numBy rel n).1 i = ix (numBy rel k).1 i := fun i hi => hp k (by omega) i hi
  rw [numBy]
  split
  · next j hj =>
    right
    have h1 := (findIdx_some hj).1
    refine ⟨by rw [ixe hlen.symm]; omega, rfl, (ix (numBy rel k).2 j).toNat, ?_, ?_⟩
    · have := hok.fs0 j h1; omega
    · have h2 := hok.fs0 j h1
      rw [hi' _ (by omega), hok.at_ j h1, ixe hlen.symm]
  · left
    refine ⟨by rw [ixe hlen.symm], by simp, fun i hi => ?_⟩
    have := hok.cls i hi
    rw [hi' i hi, ixe hlen.symm]; omega
def mst (cl : List Int) (x : SState) : SState := ⟨x.accept, x.next.map (mapK cl)⟩
def mout (cl : List Int) (ts : List SState) : Nat → List SState
  | 0 => []
  | k + 1 => if ix cl k = ((mout cl ts k).length : Int) then mout cl ts k ++ [mst cl (ix ts k)] else mout cl ts k
def mat (cl from_ : List Int) (n : Nat) : Nat → List Int
  | 0 => List.replicate n (-1)
  | k + 1 => (mat cl from_ n k).set (ix from_ k).toNat (ix cl k)
theorem mat_len (cl from_ : List Int) (n : Nat) : ∀ k, (mat cl from_ n k).length = n
  | 0 => by simp [mat]
  | k + 1 => by simp [mat, mat_len cl from_ n k]
noncomputable def merged (s : SSpec) : SSpec × List Int :=
  if ix (hollow s) 0 = true then (nothing s.actions, List.replicate s.states.length (-1))
  else (⟨s.actions, mout (classesR (tS s)) (tS s).states (ordS s).length⟩, mat (classesR (tS s)) (ordS s) s.states.length (ordS s).length)
theorem mat_out {cl l : List Int} {n : Nat} (hn : l.Nodup) (hb : ∀ i, i < l.length → 0 ≤ ix l i ∧ ix l i < (n : Int)) : ∀ k, k ≤ l.length → ∀ i, i < k → ix (mat cl l n k) (ix l i).toNat = ix cl i
  | 0, _, i, hi => by omega
  | k + 1, hk, i, hi => by
    have hbk := hb k (by omega)
    have hbi := hb i (by omega)
    show ix ((mat cl l n k).set _ _) _ = _
    rw [ix_set (by rw [mat_len]; omega)]
    by_cases e : i = k
    · subst e; rw [if_pos rfl]
    · rw [if_neg (fun h => ?_)]
      · exact mat_out hn hb k (by omega) i (by omega)
      · have h1 : ix l i = ix l k := by omega
        rw [ix_get (by omega), ix_get (by omega)] at h1
        exact e ((List.getElem_inj hn).1 h1)
/-- The reference's walk over the states that are found, and the program's. -/
theorem fold_same {s : SSpec} (hs : okSpec s) (h0 : ix (hollow s) 0 = false) : ∀ k, k ≤ (ordS s).length →
    (lfold (classesR s) s.states.length ((ordS s).take k)).1.length = (numBy (alike (solid (tS s)) (itR (tS s) (tS s).states.length).1) k).2.length ∧
    (lfold (classesR s) s.states.length ((ordS s).take k)).2.1.length = s.states.length ∧
    (lfold (classesR s) s.states.length ((ordS s).take k)).2.2 = mat (classesR (tS s)) (ordS s) s.states.length k ∧
    (∀ i, i < k → ix (lfold (classesR s) s.states.length ((ordS s).take k)).2.1 (ix (classesR s) (ix (ordS s) i).toNat).toNat = ix (classesR (tS s)) i + 1) ∧
    (∀ y, (∀ i, i < k → ix (classesR s) (ix (ordS s) i).toNat ≠ y) → 0 ≤ y → ix (lfold (classesR s) s.states.length ((ordS s).take k)).2.1 y.toNat = 0) ∧
    mout (classesR (tS s)) (tS s).states k = (lfold (classesR s) s.states.length ((ordS s).take k)).1.map (fun y => mst (classesR (tS s)) (tstate s y)) ∧
    (∀ y ∈ (lfold (classesR s) s.states.length ((ordS s).take k)).1, y ∈ ordS s)
  | 0, _ => by
    refine ⟨rfl, by simp [lfold], rfl, fun i hi => by omega, fun y _ _ => ?_, rfl, fun y hy => by simp [lfold] at hy⟩
    show ix (List.replicate s.states.length (0 : Int)) _ = 0
    unfold ix
    rw [List.getD_eq_getElem?_getD, List.getElem?_replicate]
    split <;> rfl
  | k + 1, hk => by
    obtain ⟨a1, a2, a3, a4, a5, a6, a7⟩ := fold_same hs h0 k (by omega)
    have hkl : k < (ordS s).length := by omega
    have ht := tS_ok hs
    have hb := ord_bd hs hkl
    have hcb := classes_bd hs (x := (ix (ordS s) k).toNat) (by omega)
    have hcl : ∀ i, i < k → (ix (classesR (tS s)) i = ix (classesR (tS s)) k ↔ ix (classesR s) (ix (ordS s) i).toNat = ix (classesR s) (ix (ordS s) k).toNat) := fun i hi => classes_same hs h0 (by omega) hkl
    have hcn : ∀ i, 0 ≤ ix (classesR (tS s)) i := fun i => (cl_bd ht _ i).1
    have hstep := num_step (itR_eqOn ht (tS s).states.length) (k := k) (by rw [tS_len]; exact hkl)
    have hc : (numBy (alike (solid (tS s)) (itR (tS s) (tS s).states.length).1) (tS s).states.length).1 = classesR (tS s) := rfl
    rw [hc] at hstep
    have hml : ((mout (classesR (tS s)) (tS s).states k).length : Int) = ((numBy (alike (solid (tS s)) (itR (tS s) (tS s).states.length).1) k).2.length : Int) := by rw [a6, List.length_map, a1]
    have htk : (ordS s).take (k + 1) = (ordS s).take k ++ [ix (ordS s) k] := take_s hkl
    have hmo : mout (classesR (tS s)) (tS s).states (k + 1) = if ix (classesR (tS s)) k = ((mout (classesR (tS s)) (tS s).states k).length : Int) then mout (classesR (tS s)) (tS s).states k ++ [mst (classesR (tS s)) (ix (tS s).states k)] else mout (classesR (tS s)) (tS s).states k := rfl
    have hma : mat (classesR (tS s)) (ordS s) s.states.length (k + 1) = (mat (classesR (tS s)) (ordS s) s.states.length k).set (ix (ordS s) k).toNat (ix (classesR (tS s)) k) := rfl
    rw [htk, lfold_snoc, hmo, hma, tS_at hkl]
    generalize hst : lfold (classesR s) s.states.length ((ordS s).take k) = st at a1 a2 a3 a4 a5 a6 a7 ⊢
    obtain ⟨fi, pl, tm⟩ := st
    dsimp only at a1 a2 a3 a4 a5 a6 a7
    rcases hstep with ⟨b1, b2, b3⟩ | ⟨b1, b2, i, hi, b3⟩
    · have hz : ix pl (ix (classesR s) (ix (ordS s) k).toNat).toNat = 0 := a5 _ (fun i hi h => b3 i hi ((hcl i hi).2 h)) hcb.1
      have hself : ∀ v : Int, ix (pl.set (ix (classesR s) (ix (ordS s) k).toNat).toNat v) (ix (classesR s) (ix (ordS s) k).toNat).toNat = v := fun v => by rw [ix_set (by omega), if_pos rfl]
      unfold lstep
      rw [if_pos hz, if_pos (by rw [b1, hml])]
      dsimp only
      refine ⟨by rw [List.length_append, List.length_singleton, a1, b2], by simp [a2], ?_, fun i hi => ?_, fun y hy h0y => ?_, ?_, fun y hy => ?_⟩
      · rw [hself, a3]
        congr 1
        rw [b1, ← a1]; omega
      · by_cases e : i = k
        · subst e; rw [hself, b1, ← a1]; omega
        · have hne : ix (classesR s) (ix (ordS s) i).toNat ≠ ix (classesR s) (ix (ordS s) k).toNat := fun h => b3 i (by omega) ((hcl i (by omega)).2 h)
          have hbi := ord_bd hs (i := i) (by omega)
          have hci := classes_bd hs (x := (ix (ordS s) i).toNat) (by omega)
          rw [ix_set (by omega), if_neg (fun h => hne (by omega))]
          exact a4 i (by omega)
      · have hne := hy k (by omega)
        rw [ix_set (by omega), if_neg (fun h => hne (by omega))]
        exact a5 y (fun i hi => hy i (by omega)) h0y
      · rw [a6, List.map_append]; rfl
      · rcases List.mem_append.1 hy with hy | hy
        · exact a7 y hy
        · have : y = ix (ordS s) k := by simpa using hy
          subst this; exact ix_mem hkl
    · have hci := (hcl i hi).1 b3
      have hv : ix pl (ix (classesR s) (ix (ordS s) k).toNat).toNat = ix (classesR (tS s)) k + 1 := by rw [← hci, a4 i hi, b3]
      have hk0 := hcn k
      unfold lstep
      rw [if_neg (by rw [hv]; omega), if_neg (by rw [hml]; omega)]
      dsimp only
      refine ⟨by rw [a1, b2], a2, ?_, fun j hj => ?_, fun y hy h0y => a5 y (fun i hi => hy i (by omega)) h0y, a6, a7⟩
      · rw [hv, a3, show ix (classesR (tS s)) k + 1 - 1 = ix (classesR (tS s)) k by omega]
      · by_cases e : j = k
        · subst e; exact hv
        · exact a4 j (by omega)
theorem merged_eq {s : SSpec} (hs : okSpec s) : merged s = leastR s := by
  unfold merged leastR
  by_cases h : ix (hollow s) 0 = true
  · rw [if_pos h, if_pos h]
  · rw [if_neg h, if_neg h]
    have h0 : ix (hollow s) 0 = false := by simpa using h
    obtain ⟨a1, a2, a3, a4, a5, a6, a7⟩ := fold_same hs h0 (ordS s).length (Nat.le_refl _)
    rw [List.take_length] at a1 a2 a3 a4 a5 a6 a7
    dsimp only
    rw [a6, ← a3]
    congr 2
    refine List.map_congr_left (fun y hy => ?_)
    have hyo := a7 y hy
    obtain ⟨i, hi, rfl⟩ := mem_ix hyo
    have hb := ord_bd hs hi
    have hx : (ix (ordS s) i).toNat < s.states.length := by omega
    have hl := (hs.st _ hx).len
    unfold mst outState
    rw [solid_at hx]
    congr 1
    show (tnext s _).map (mapK _) = (cut _ _).map (mapK _)
    unfold tnext cut
    rw [List.map_map, List.map_map, hl]
    refine List.map_congr_left (fun a ha => ?_)
    have ha := List.mem_range.1 ha
    show mapK _ (if _ then _ else _) = mapK _ (if _ then _ else _)
    by_cases hh : has (orAll (keep s (ix (ordS s) i).toNat)) (a : Int) = true
    · rw [if_pos hh, if_pos hh]
      have hg := can_go hs hx hh
      obtain ⟨p1, p2⟩ := posN_at (ord_closed hs hi hh)
      have p0 := (posN_bd (ordS s) (ix (ix s.states (ix (ordS s) i).toNat).next a)).1
      unfold mapK
      rw [if_pos p0, if_pos hg.2.1]
      have := mat_out (cl := classesR (tS s)) (n := s.states.length) (order_nodup (solid s)) (fun i hi => ord_bd hs hi) (ordS s).length (Nat.le_refl _) (posN (ordS s) (ix (ix s.states (ix (ordS s) i).toNat).next a)).toNat (by omega)
      have hp2 : ix (order (solid s)) (posN (ordS s) (ix (ix s.states (ix (ordS s) i).toNat).next a)).toNat = ix (ix s.states (ix (ordS s) i).toNat).next a := p2
      rw [hp2] at this
      rw [a3]
      exact this.symm
    · rw [if_neg hh, if_neg hh]; rfl
theorem mout_len (cl : List Int) (ts : List SState) : ∀ k, (mout cl ts k).length ≤ k
  | 0 => Nat.le_refl _
  | k + 1 => by
    have ih := mout_len cl ts k
    show (if _ then _ else _ : List SState).length ≤ _
    split
    · rw [List.length_append]; simp; omega
    · omega
theorem merged_not {s : SSpec} (h : ix (hollow s) 0 = false) : merged s = (⟨s.actions, mout (classesR (tS s)) (tS s).states (ordS s).length⟩, mat (classesR (tS s)) (ordS s) s.states.length (ordS s).length) := by
  unfold merged; rw [if_neg (by simp [h])]
theorem merged_hol {s : SSpec} (h : ix (hollow s) 0 = true) : merged s = (nothing s.actions, List.replicate s.states.length (-1)) := by
  unfold merged; rw [if_pos h]
theorem drop_ix {l : List Int} {k : Nat} (h : k < l.length) : l.drop k = ix l k :: l.drop (k + 1) := by
  rw [ix_get h]; exact List.drop_eq_getElem_cons h
theorem mapdrop_len {f : Int → Int} {l : List Int} {k : Nat} (h : k < l.length) : ((l.take k).map f).length = k := by simp; omega
theorem mapdrop_ix {f : Int → Int} {l : List Int} {k : Nat} (h : k < l.length) : ix ((l.take k).map f ++ l.drop k) k = ix l k := by
  have hl := mapdrop_len (f := f) h
  rw [drop_ix h]
  unfold ix
  rw [List.getD_eq_getElem?_getD, List.getElem?_append_right (by omega), hl, Nat.sub_self]; rfl
theorem mapdrop_set {f : Int → Int} {l : List Int} {k : Nat} (h : k < l.length) : ((l.take k).map f ++ l.drop k).set k (f (ix l k)) = (l.take (k + 1)).map f ++ l.drop (k + 1) := by
  have hl := mapdrop_len (f := f) h
  rw [drop_ix h, List.set_append_right _ _ (by omega), hl, Nat.sub_self, List.set_cons_zero, take_s h, List.map_append]
  simp only [List.map_cons, List.map_nil, List.append_assoc, List.cons_append, List.nil_append]
theorem mapdrop_keep {f : Int → Int} {l : List Int} {k : Nat} (h : k < l.length) (hf : f (ix l k) = ix l k) : (l.take k).map f ++ l.drop k = (l.take (k + 1)).map f ++ l.drop (k + 1) := by
  rw [drop_ix h, take_s h, List.map_append]
  simp only [List.map_cons, List.map_nil, List.append_assoc, List.cons_append, List.nil_append, hf]
end MergeM
end Go.Proofs.YtolpjmllmlahfaaDoor
