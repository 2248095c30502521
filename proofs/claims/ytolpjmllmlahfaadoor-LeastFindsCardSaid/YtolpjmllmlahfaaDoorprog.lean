/- Walks of the functions of this claim, printed by a program of its own out of annotations. -/
import Derived.Test.YtolpjmllmlahfaaDoorref06
namespace Go.Proofs.YtolpjmllmlahfaaDoor
open AL Go
set_option maxRecDepth 100000
set_option linter.all false

open ref01 ref03 ref04 ref06 Part
theorem indexOf_bd (l : List ByteArray) (s : ByteArray) : (0 ≤ indexOf l s ↔ s ∈ l) := by
  unfold indexOf
  cases h : l.findIdx? (fun x => decide (x = s)) with
  | none =>
    rw [List.findIdx?_eq_none_iff] at h
    simp
    intro hm
    have := h s hm
    simp at this
  | some i =>
    rw [List.findIdx?_eq_some_iff_getElem] at h
    obtain ⟨h1, h2, _⟩ := h
    simp at h2
    simp
    rw [← h2]; exact List.getElem_mem h1
theorem bsize {s : ByteArray} (h : ¬ s = ⟨#[]⟩) : 1 ≤ s.size := by
  rcases Nat.eq_zero_or_pos s.size with h0 | h0
  · exact absurd (by
      cases s with
      | mk d => simp [ByteArray.size] at h0; simp [h0]) h
  · exact h0
theorem indexOf_self {l : List ByteArray} {k : Nat} (hk : k < l.length) : (indexOf l (ix l k) = (k : Int)) ↔ ¬ ix l k ∈ l.take k := by
  unfold indexOf
  cases h : l.findIdx? (fun x => decide (x = ix l k)) with
  | none =>
    rw [List.findIdx?_eq_none_iff] at h
    have := h (ix l k) (by rw [ix_get hk]; exact List.getElem_mem hk)
    simp at this
  | some i =>
    rw [List.findIdx?_eq_some_iff_getElem] at h
    obtain ⟨h1, h2, h3⟩ := h
    simp at h2
    constructor
    · intro e hm
      have e : (i : Int) = (k : Int) := e
      have e : i = k := by omega
      subst e
      obtain ⟨j, hj, he⟩ := List.mem_take_iff_getElem.1 hm
      have := h3 j (by omega)
      simp at this
      exact this he
    · intro hn
      rcases Nat.lt_trichotomy i k with hlt | e | hgt
      · exact absurd (List.mem_take_iff_getElem.2 ⟨i, by omega, h2⟩) hn
      · simp [e]
      · have := h3 k hgt
        rw [ix_get hk] at this
        simp at this

namespace prog
namespace T
theorem str9 : Tryd.prog.underlying 9 = some .string := by kernel_rfl
theorem ent112 : Ent Tryd.prog 112 := ent_of (by kernel_rfl)
theorem sl22 : IsSlice Tryd.prog 22 9 1 := isSlice_of (by kernel_rfl)
theorem one9 : IsOne Tryd.prog 9 := isOne_of (by kernel_rfl)
theorem ent113 : Ent Tryd.prog 113 := ent_of (by kernel_rfl)
theorem ent86 : Ent Tryd.prog 86 := ent_of (by kernel_rfl)
theorem ent87 : Ent Tryd.prog 87 := ent_of (by kernel_rfl)
theorem mk22 : MakeT Tryd.prog 22 9 1 16 [.string ⟨#[]⟩] := makeT_of (by kernel_rfl) (by kernel_rfl)
theorem sl28 : IsSlice Tryd.prog 28 3 1 := isSlice_of (by kernel_rfl)
theorem mk28 : MakeT Tryd.prog 28 3 1 8 [.int .i64 0] := makeT_of (by kernel_rfl) (by kernel_rfl)
theorem mixed : Tryd.prog.follows .mixedOrders = true := by kernel_rfl
theorem one3 : IsOne Tryd.prog 3 := isOne_of (by kernel_rfl)
end T

theorem aletter_ok (c : Int) :
    Fn0 Tryd.prog 112 [u8 c] (bl (isLetter c)) := by
  refine fnI Tryd.func112 rfl rfl (fun w0 F0 => ?_)
  refine sq (rg (ag (nl (th (sq (rg (mv (bi rfl rfl b_geq (mv ?_)))))))))
  apply gAnd (t := 5) (pd := 8) rfl
  rotate_left
  · intro hg0 fin
    have hg0' := hg0
    try simp at hg0'
    exact gy rfl rfl rfl hg0 (mv (gy rfl rfl rfl hg0 (bi rfl rfl b_leq (pkT rfl hg0 rfl (drp (X := [(7, _), (6, _)]) ⟨rfl, rfl, trivial⟩ (fin))))))
  · intro hg0 fin
    exact gn rfl rfl rfl hg0 rfl rfl (gn rfl rfl rfl hg0 rfl rfl (pkF rfl hg0 rfl (drp (X := [(7, _), (6, _)]) ⟨rfl, rfl, trivial⟩ (fin))))
  refine mv ?_
  apply gOr (t := 9) (pd := 16) rfl
  rotate_left
  · intro hg1 fin
    have hg1' := hg1
    try simp at hg1'
    refine gy rfl rfl rfl hg1 (mv (gy rfl rfl rfl hg1 (bi rfl rfl b_geq (gy rfl rfl rfl hg1 (mv ?_)))))
    apply gAnd (t := 12) (pd := 15) rfl
    rotate_left
    · intro hg2 fin
      have hg2' := hg2
      try simp at hg2'
      exact gy rfl rfl rfl hg2 (mv (gy rfl rfl rfl hg2 (bi rfl rfl b_leq (gy rfl rfl rfl hg1 (pkT rfl hg2 rfl (drp (X := [(14, _), (13, _)]) ⟨rfl, rfl, trivial⟩ (fin)))))))
    · intro hg2 fin
      exact gn rfl rfl rfl hg2 rfl rfl (gn rfl rfl rfl hg2 rfl rfl (gy rfl rfl rfl hg1 (pkF rfl hg2 rfl (drp (X := [(14, _), (13, _)]) ⟨rfl, rfl, trivial⟩ (fin)))))
    exact pkF rfl hg1 rfl (drp (X := [(15, _), (12, _), (11, _), (10, _)]) ⟨rfl, rfl, rfl, rfl, trivial⟩ (fin))
  · intro hg1 fin
    exact gn rfl rfl rfl hg1 rfl rfl (gn rfl rfl rfl hg1 rfl rfl (gn rfl rfl rfl hg1 rfl rfl (gu rfl rfl rfl rfl rfl (gu rfl rfl rfl rfl rfl (gn rfl rfl rfl hg1 rfl rfl (pkT rfl hg1 rfl (drp (X := [(15, _), (14, _), (13, _), (12, _), (11, _), (10, _)]) ⟨rfl, rfl, rfl, rfl, rfl, rfl, trivial⟩ (fin))))))))
  refine ag (nl (th (rt ?_)))
  have hr0 : (((decide (97 ≤ c)) && (decide (c ≤ 122))) || ((decide (65 ≤ c)) && (decide (c ≤ 90)))) = (isLetter c) := by
    first | rfl | simp_all | omega
  have hall : ∀ x0, (((decide (97 ≤ c)) && (decide (c ≤ 122))) || ((decide (65 ≤ c)) && (decide (c ≤ 90)))) = x0 → resAV [bl (((decide (97 ≤ c)) && (decide (c ≤ 122))) || ((decide (65 ≤ c)) && (decide (c ≤ 90))))] = resAV [bl x0] := by rintro _ rfl; rfl
  exact rE () [.tmp 2] rfl [bl (((decide (97 ≤ c)) && (decide (c ≤ 122))) || ((decide (65 ≤ c)) && (decide (c ≤ 90))))] ⟨.tmp rfl, trivial⟩ (hall _ hr0) trivial (by first | exact .inr rfl | exact .inl rfl)

theorem aName_ok (s : ByteArray) :
    Fn0 Tryd.prog 86 [str s] (bl (isName s)) := by
  refine fnI Tryd.func86 rfl rfl (fun w0 F0 => ?_)
  refine sq (rg (ag (nl (th (sq (sq (rg (mv (bi rfl rfl b_eqlS (mv ?_))))))))))
  apply gOr (t := 7) (pd := 11) rfl
  rotate_left
  · intro hg0 fin
    have hg0' := hg0
    try simp at hg0'
    exact gy rfl rfl rfl hg0 (mv (gy rfl rfl rfl hg0 (lnS rfl T.str9 (gy rfl rfl rfl hg0 (bi rfl rfl b_gtr (pkF rfl hg0 rfl (drp (X := [(10, _), (9, _), (8, _)]) ⟨rfl, rfl, rfl, trivial⟩ (fin))))))))
  · intro hg0 fin
    exact gn rfl rfl rfl hg0 rfl rfl (gn rfl rfl rfl hg0 rfl rfl (gn rfl rfl rfl hg0 rfl rfl (pkT rfl hg0 rfl (drp (X := [(10, _), (9, _), (8, _)]) ⟨rfl, rfl, rfl, trivial⟩ (fin)))))
  refine mv ?_
  apply gOr (t := 12) (pd := 17) rfl
  rotate_left
  · intro hg1 fin
    have hg1' := hg1
    try simp at hg1'
    have hs1 : 1 ≤ s.size := bsize (fun e => by rw [decide_eq_true e] at hg1; cases hg1)
    exact gy rfl rfl rfl hg1 (mv (gy rfl rfl rfl hg1 (idxS rfl rfl T.str9 (by omega) (by omega) (gy rfl rfl rfl hg1 (cal0 (φs := [u8 (byteAt s 0)]) (φ := bl (isLetter (byteAt s 0))) ⟨rfl, trivial⟩ (prog.aletter_ok _) T.ent112 (gy rfl rfl rfl hg1 (no rfl (pkF rfl hg1 rfl (drp (X := [(16, _), (15, _), (14, _), (13, _)]) ⟨rfl, rfl, rfl, rfl, trivial⟩ (fin))))))))))
  · intro hg1 fin
    exact gn rfl rfl rfl hg1 rfl rfl (gn rfl rfl rfl hg1 rfl rfl (gn rfl rfl rfl hg1 rfl rfl (gn rfl rfl rfl hg1 rfl rfl (pkT rfl hg1 rfl (drp (X := [(16, _), (15, _), (14, _), (13, _)]) ⟨rfl, rfl, rfl, rfl, trivial⟩ (fin))))))
  refine nl (th ?_)
  refine cd rfl (fun hc0 => ?_) (fun hc0 => ?_)
  · try simp at hc0
    refine sq (rg (ag (nl (th (rt (rt_ ?_))))))
    have hr0 : false = (isName s) := by
      unfold isName
      by_cases h0 : 1 ≤ s.size
      · by_cases h2 : s.size ≤ 20
        · by_cases h1 : isLetter (byteAt s 0) = true
          · exfalso
            rcases hc0 with (h | h) | h
            · subst h; simp [ByteArray.size] at h0
            · omega
            · rw [h1] at h; cases h
          · simp [h1]
        · simp [h2]
      · simp [h0]
    have hall : ∀ x0, false = x0 → resAV [bl false] = resAV [bl x0] := by rintro _ rfl; rfl
    exact rE () [.tmp 2] rfl [bl false] ⟨.tmp rfl, trivial⟩ (hall _ hr0) trivial (by first | exact .inr rfl | exact .inl rfl)
  · try simp at hc0
    have hs1 : 1 ≤ s.size := bsize (by simpa using hc0.1.1)
    refine sk (th (sq (sq (rg (mv (lnS rfl T.str9 (mv (nl (th (bk ?_))))))))))
    have hI0_0 : 0 ≤ s.size := by
      first | omega | simp
    have hI0_1 : (List.range 0).all (fun i => nameByte (byteAt s i)) = true := by
      simp
    refine lp (κ := Nat) (fun p => [(0, str s), (19, int (s.size : Int)), (20, int (p : Int))]) (fun p => []) (fun p => (p ≤ s.size) ∧ ((List.range p).all (fun i => nameByte (byteAt s i)) = true)) (fun p => s.size - p) 0 ⟨hI0_0, hI0_1⟩ ⟨id, id, id, trivial⟩ trivial ?_
    intro k hG0
    obtain ⟨hk0, hI0⟩ : (k ≤ s.size) ∧ ((List.range k).all (fun i => nameByte (byteAt s i)) = true) := hG0
    refine sq (rg (bi rfl rfl b_lss (nl (th (sq ?_)))))
    refine cd rfl (fun hc1 => ?_) (fun hc1 => ?_)
    · try simp at hc1
      refine sk (th (sq (bk (sq (rg (mv (ag (nl (th (sq (rg (mv (mv (idxS rfl rfl T.str9 (by omega) (by omega) (ag (nl (th (sq (rg (mv (cal0 (φs := [u8 (byteAt s k)]) (φ := bl (isLetter (byteAt s k))) ⟨rfl, trivial⟩ (prog.aletter_ok _) T.ent112 (no rfl (mv ?_)))))))))))))))))))))))
      apply gAnd (t := 29) (pd := 36) rfl
      rotate_left
      · intro hg2 fin
        have hg2' := hg2
        try simp at hg2'
        refine gy rfl rfl rfl hg2 (mv (gy rfl rfl rfl hg2 (bi rfl rfl b_lss (gy rfl rfl rfl hg2 (mv ?_)))))
        apply gOr (t := 32) (pd := 35) rfl
        rotate_left
        · intro hg3 fin
          have hg3' := hg3
          try simp at hg3'
          exact gy rfl rfl rfl hg3 (mv (gy rfl rfl rfl hg3 (bi rfl rfl b_gtr (gy rfl rfl rfl hg2 (pkF rfl hg3 rfl (drp (X := [(34, _), (33, _)]) ⟨rfl, rfl, trivial⟩ (fin)))))))
        · intro hg3 fin
          exact gn rfl rfl rfl hg3 rfl rfl (gn rfl rfl rfl hg3 rfl rfl (gy rfl rfl rfl hg2 (pkT rfl hg3 rfl (drp (X := [(34, _), (33, _)]) ⟨rfl, rfl, trivial⟩ (fin)))))
        exact pkT rfl hg2 rfl (drp (X := [(35, _), (32, _), (31, _), (30, _)]) ⟨rfl, rfl, rfl, rfl, trivial⟩ (fin))
      · intro hg2 fin
        exact gn rfl rfl rfl hg2 rfl rfl (gn rfl rfl rfl hg2 rfl rfl (gn rfl rfl rfl hg2 rfl rfl (gu rfl rfl rfl rfl rfl (gu rfl rfl rfl rfl rfl (gn rfl rfl rfl hg2 rfl rfl (pkF rfl hg2 rfl (drp (X := [(35, _), (34, _), (33, _), (32, _), (31, _), (30, _)]) ⟨rfl, rfl, rfl, rfl, rfl, rfl, trivial⟩ (fin))))))))
      refine mv ?_
      apply gAnd (t := 37) (pd := 40) rfl
      rotate_left
      · intro hg4 fin
        have hg4' := hg4
        try simp at hg4'
        exact gy rfl rfl rfl hg4 (mv (gy rfl rfl rfl hg4 (bi rfl rfl b_neq (pkT rfl hg4 rfl (drp (X := [(39, _), (38, _)]) ⟨rfl, rfl, trivial⟩ (fin))))))
      · intro hg4 fin
        exact gn rfl rfl rfl hg4 rfl rfl (gn rfl rfl rfl hg4 rfl rfl (pkF rfl hg4 rfl (drp (X := [(39, _), (38, _)]) ⟨rfl, rfl, trivial⟩ (fin))))
      refine mv ?_
      apply gAnd (t := 41) (pd := 44) rfl
      rotate_left
      · intro hg5 fin
        have hg5' := hg5
        try simp at hg5'
        exact gy rfl rfl rfl hg5 (mv (gy rfl rfl rfl hg5 (bi rfl rfl b_neq (pkT rfl hg5 rfl (drp (X := [(43, _), (42, _)]) ⟨rfl, rfl, trivial⟩ (fin))))))
      · intro hg5 fin
        exact gn rfl rfl rfl hg5 rfl rfl (gn rfl rfl rfl hg5 rfl rfl (pkF rfl hg5 rfl (drp (X := [(43, _), (42, _)]) ⟨rfl, rfl, trivial⟩ (fin))))
      refine nl (th ?_)
      refine cd rfl (fun hc2 => ?_) (fun hc2 => ?_)
      · try simp at hc2
        refine sq (rg (ag (nl (th (rt (rb (rt_ (rt_ (rb (rt_ ?_))))))))))
        have hr0 : false = (isName s) := by
          unfold isName
          rw [all_range_not (i := k) (by omega) ?_]
          · simp
          · simp [nameByte, hc2.1.1.1]
            omega
        have hall : ∀ x0, false = x0 → resAV [bl false] = resAV [bl x0] := by rintro _ rfl; rfl
        exact rE () [.tmp 2] rfl [bl false] ⟨.tmp rfl, trivial⟩ (hall _ hr0) trivial (by first | exact .inr rfl | exact .inl rfl)
      · try simp at hc2
        refine sk (eb (th (rg (bi rfl rfl (b_add (by unfold I64; omega)) (mv (nl ?_))))))
        have hN0 : (k + 1) ≤ s.size := by
          first | omega | simp_all
        have hN1 : (List.range (k + 1)).all (fun i => nameByte (byteAt s i)) = true := by
          rw [all_range_succ, hI0]
          simp [nameByte]
          by_cases h1 : isLetter (byteAt s k) = true
          · simp [h1]
          · simp [h1] at hc2
            simp [h1]
            omega
        exact ln (k + 1) ⟨hN0, hN1⟩ (by first | omega | (dsimp only; omega)) ⟨id, id, id, trivial⟩ trivial
    · try simp at hc1
      refine ex (xt_ (xt_ (xb (th (sq (rg (ag (nl (th (rt ?_))))))))))
      have hr0 : true = (isName s) := by
        unfold isName
        rw [show s.size = k by omega, hI0]
        simp [hc0.2]
        omega
      have hall : ∀ x0, true = x0 → resAV [bl true] = resAV [bl x0] := by rintro _ rfl; rfl
      exact rE () [.tmp 2] rfl [bl true] ⟨.tmp rfl, trivial⟩ (hall _ hr0) trivial (by first | exact .inr rfl | exact .inl rfl)

theorem sIndex_ok (l : List ByteArray) (s : ByteArray) :
    Fn0 Tryd.prog 113 [strs l, str s] (int (indexOf l s)) := by
  refine fnI Tryd.func113 rfl rfl (fun w0 F0 => ?_)
  refine fcC (slenI 0 rfl) (fun hm0 => ?_)
  refine sq (rg (ag (nl (th (sq (sq (rg (mv (lnF rfl T.sl22 (mv (nl (th (bk ?_)))))))))))))
  have hI0_0 : 0 ≤ l.length := by
    first | omega | simp
  have hI0_1 : ∀ x ∈ l.take 0, x ≠ s := by
    simp
  refine lp (κ := Nat) (fun p => [(0, sl 1 strE l), (1, str s), (7, int (l.length : Int)), (8, int (p : Int))]) (fun p => []) (fun p => (p ≤ l.length) ∧ (∀ x ∈ l.take p, x ≠ s)) (fun p => l.length - p) 0 ⟨hI0_0, hI0_1⟩ ⟨id, id, id, id, trivial⟩ trivial ?_
  intro k hG0
  obtain ⟨hk0, hI0⟩ : (k ≤ l.length) ∧ (∀ x ∈ l.take k, x ≠ s) := hG0
  refine sq (rg (bi rfl rfl b_lss (nl (th (sq ?_)))))
  refine cd rfl (fun hc0 => ?_) (fun hc0 => ?_)
  · try simp at hc0
    refine sk (th (sq (bk (sq (rg (mv (ag (nl (th (sq (rg (mv (mv (mv (iF rfl rfl T.sl22 (by omega) (by first | exact gN (by omega) | exact gI (by omega) (by omega)) (lF rfl rfl T.one9 (bi rfl rfl b_eqlS (nl (th ?_)))))))))))))))))))
    refine cd rfl (fun hc1 => ?_) (fun hc1 => ?_)
    · try simp at hc1
      refine sq (rg (mv (ag (nl (th (rt (rb (rt_ (rt_ (rb (rt_ ?_)))))))))))
      have hr0 : ((k : Int) : Int) = (indexOf l s) := by
        unfold indexOf
        have : l.findIdx? (fun x => decide (x = s)) = some k := by
          rw [List.findIdx?_eq_some_iff_getElem]
          refine ⟨by omega, by simpa [ix_get (show k < l.length by omega)] using hc1.symm, fun j hj => ?_⟩
          have := hI0 l[j] (List.mem_take_iff_getElem.2 ⟨j, by omega, rfl⟩)
          simpa using this
        rw [this]
      have hall : ∀ x0, (k : Int) = x0 → resAV [int (k : Int)] = resAV [int x0] := by rintro _ rfl; rfl
      exact rE () [.tmp 4] rfl [int (k : Int)] ⟨.tmp rfl, trivial⟩ (hall _ hr0) trivial (by first | exact .inr rfl | exact .inl rfl)
    · try simp at hc1
      refine sk (eb (th (rg (bi rfl rfl (b_add (by unfold I64; omega)) (mv (nl ?_))))))
      have hN0 : (k + 1) ≤ l.length := by
        first | omega | simp_all
      have hN1 : ∀ x ∈ l.take (k + 1), x ≠ s := by
        rw [take_s (by omega)]
        intro x hx
        rcases List.mem_append.1 hx with hx | hx
        · exact hI0 x hx
        · simp at hx; subst hx; exact fun e => hc1 e.symm
      exact ln (k + 1) ⟨hN0, hN1⟩ (by first | omega | (dsimp only; omega)) ⟨id, id, id, id, trivial⟩ trivial
  · try simp at hc0
    refine ex (xt_ (xt_ (xb (th (sq (rg (ag (nl (th (rt ?_))))))))))
    have hr0 : (-1 : Int) = (indexOf l s) := by
      unfold indexOf
      have : l.findIdx? (fun x => decide (x = s)) = none := by
        rw [List.findIdx?_eq_none_iff]
        intro x hx
        have hk2 : k = l.length := by omega
        rw [hk2, List.take_length] at hI0
        simp [hI0 x hx]
      rw [this]
    have hall : ∀ x0, (-1) = x0 → resAV [int (-1)] = resAV [int x0] := by rintro _ rfl; rfl
    exact rE () [.tmp 4] rfl [int (-1)] ⟨.tmp rfl, trivial⟩ (hall _ hr0) trivial (by first | exact .inr rfl | exact .inl rfl)

theorem sContains_ok (l : List ByteArray) (s : ByteArray) :
    Fn0 Tryd.prog 87 [strs l, str s] (bl (decide (0 ≤ indexOf l s))) := by
  refine fnI Tryd.func87 rfl rfl (fun w0 F0 => ?_)
  refine fcC (slenI 0 rfl) (fun hm0 => ?_)
  refine sq (rg (ag (nl (th (sq (rg (mv (mv (cal0 (φs := [sl 1 strE l, str s]) (φ := int (indexOf l s)) ⟨rfl, rfl, trivial⟩ (prog.sIndex_ok _ _) T.ent113 (bi rfl rfl b_geq (ag (nl (th (rt ?_))))))))))))))
  have hr0 : (decide (0 ≤ (indexOf l s))) = (decide (0 ≤ indexOf l s)) := by
    first | rfl | simp_all | omega
  have hall : ∀ x0, (decide (0 ≤ (indexOf l s))) = x0 → resAV [bl (decide (0 ≤ (indexOf l s)))] = resAV [bl x0] := by rintro _ rfl; rfl
  exact rE () [.tmp 4] rfl [bl (decide (0 ≤ (indexOf l s)))] ⟨.tmp rfl, trivial⟩ (hall _ hr0) trivial (by first | exact .inr rfl | exact .inl rfl)

theorem aValid_ok (l : List ByteArray) :
    Fn0 Tryd.prog 61 [strs l] (bl (actionsOK l)) := by
  refine fnI Tryd.func61 rfl rfl (fun w0 F0 => ?_)
  refine fcC (slenI 0 rfl) (fun hm0 => ?_)
  refine sq (rg (ag (nl (th (sq (sq (rg (mv (lnF rfl T.sl22 (bi rfl rfl b_gtr (nl (th ?_))))))))))))
  refine cd rfl (fun hc0 => ?_) (fun hc0 => ?_)
  · try simp at hc0
    refine sq (rg (ag (nl (th (rt (rt_ ?_))))))
    have hr0 : false = (actionsOK l) := by
      unfold actionsOK
      rw [decide_eq_false (by omega)]; rfl
    have hall : ∀ x0, false = x0 → resAV [bl false] = resAV [bl x0] := by rintro _ rfl; rfl
    exact rE () [.tmp 2] rfl [bl false] ⟨.tmp rfl, trivial⟩ (hall _ hr0) trivial (by first | exact .inr rfl | exact .inl rfl)
  · try simp at hc0
    refine sk (th (sq (sq (rg (mv (lnF rfl T.sl22 (mv (nl (th (bk ?_))))))))))
    have hI0_0 : 0 ≤ l.length := by
      first | omega | simp
    have hI0_1 : (List.range 0).all (fun i => isName (ix l i) && decide (indexOf l (ix l i) = (i : Int))) = true := by
      simp
    refine lp (κ := Nat) (fun p => [(0, sl 1 strE l), (8, sl 1 strE l), (9, int (l.length : Int)), (10, int (p : Int))]) (fun p => []) (fun p => (p ≤ l.length) ∧ ((List.range p).all (fun i => isName (ix l i) && decide (indexOf l (ix l i) = (i : Int))) = true)) (fun p => l.length - p) 0 ⟨hI0_0, hI0_1⟩ ⟨id, id, id, id, trivial⟩ trivial ?_
    intro k hG0
    obtain ⟨hk0, hI0⟩ : (k ≤ l.length) ∧ ((List.range k).all (fun i => isName (ix l i) && decide (indexOf l (ix l i) = (i : Int))) = true) := hG0
    refine sq (rg (bi rfl rfl b_lss (nl (th (sq ?_)))))
    refine cd rfl (fun hc1 => ?_) (fun hc1 => ?_)
    · try simp at hc1
      refine sk (th (sq (bk (sq (rg (mv (iF rfl rfl T.sl22 (by omega) (by first | exact gN (by omega) | exact gI (by omega) (by omega)) (lF rfl rfl T.one9 (ag (ag (nl (th (sq (rg (mv (cal0 (φs := [str (ix l k)]) (φ := bl (isName (ix l k))) ⟨rfl, trivial⟩ (prog.aName_ok _) T.ent86 (no rfl (mv ?_))))))))))))))))))
      apply gOr (t := 18) (pd := 24) rfl
      rotate_left
      · intro hg0 fin
        have hg0' := hg0
        try simp at hg0'
        exact gy rfl rfl rfl hg0 (mv (gy rfl rfl rfl hg0 (mv (gy rfl rfl rfl hg0 (sliceF (l := 0) (m := k) rfl T.sl22 rfl rfl (by omega) (by omega) (gy rfl rfl rfl hg0 (mv (gy rfl rfl rfl hg0 (cal0 (φs := [sl 1 strE (l.take k), str (ix l k)]) (φ := bl (decide (0 ≤ indexOf (l.take k) (ix l k)))) ⟨rfl, rfl, trivial⟩ (prog.sContains_ok _ _) T.ent87 (pkF rfl hg0 rfl (drp (X := [(23, _), (22, _), (21, _), (20, _), (19, _)]) ⟨rfl, rfl, rfl, rfl, rfl, trivial⟩ (fin))))))))))))
      · intro hg0 fin
        exact gn rfl rfl rfl hg0 rfl rfl (gn rfl rfl rfl hg0 rfl rfl (gn rfl rfl rfl hg0 rfl rfl (gn rfl rfl rfl hg0 rfl rfl (gn rfl rfl rfl hg0 rfl rfl (pkT rfl hg0 rfl (drp (X := [(23, _), (22, _), (21, _), (20, _), (19, _)]) ⟨rfl, rfl, rfl, rfl, rfl, trivial⟩ (fin)))))))
      refine nl (th ?_)
      refine cd rfl (fun hc2 => ?_) (fun hc2 => ?_)
      · try simp at hc2
        refine sq (rg (ag (nl (th (rt (rb (rt_ (rt_ (rb (rt_ ?_))))))))))
        have hr0 : false = (actionsOK l) := by
          unfold actionsOK
          rw [all_range_not (i := k) (by omega) ?_]
          · simp
          · by_cases h : isName (ix l k) = true
            · have h2 := (indexOf_bd (l.take k) (ix l k)).1 (by simpa [h] using hc2)
              have h3 : ¬ indexOf l (ix l k) = (k : Int) := fun e => (indexOf_self (by omega)).1 e h2
              simp [h3]
            · simp [h]
        have hall : ∀ x0, false = x0 → resAV [bl false] = resAV [bl x0] := by rintro _ rfl; rfl
        exact rE () [.tmp 2] rfl [bl false] ⟨.tmp rfl, trivial⟩ (hall _ hr0) trivial (by first | exact .inr rfl | exact .inl rfl)
      · try simp at hc2
        refine sk (eb (th (rg (bi rfl rfl (b_add (by unfold I64; omega)) (mv (nl ?_))))))
        have hN0 : (k + 1) ≤ l.length := by
          first | omega | simp_all
        have hN1 : (List.range (k + 1)).all (fun i => isName (ix l i) && decide (indexOf l (ix l i) = (i : Int))) = true := by
          rw [all_range_succ, hI0]
          have h1 : indexOf l (ix l k) = (k : Int) := (indexOf_self (by omega)).2 (fun hm => by
            have h2 := (indexOf_bd (l.take k) (ix l k)).2 hm
            have := hc2.2; omega)
          simp [hc2.1, h1]
        exact ln (k + 1) ⟨hN0, hN1⟩ (by first | omega | (dsimp only; omega)) ⟨id, id, id, id, trivial⟩ trivial
    · try simp at hc1
      refine ex (xt_ (xt_ (xb (th (sq (rg (ag (nl (th (rt ?_))))))))))
      have hr0 : true = (actionsOK l) := by
        unfold actionsOK
        rw [show l.length = k by omega, hI0, decide_eq_true (by omega)]; rfl
      have hall : ∀ x0, true = x0 → resAV [bl true] = resAV [bl x0] := by rintro _ rfl; rfl
      exact rE () [.tmp 2] rfl [bl true] ⟨.tmp rfl, trivial⟩ (hall _ hr0) trivial (by first | exact .inr rfl | exact .inl rfl)

theorem sClonestrE_ok (l : List ByteArray) (hl : l.length ≤ 1000000) :
    Fn0 Tryd.prog 97 [strs l] (strs l) := by
  refine fnI Tryd.func97 rfl rfl (fun w0 F0 => ?_)
  refine fcC (slenI 0 rfl) (fun hm0 => ?_)
  refine sq (rg (ag (nl (th (sq (sq (rg (mv (nilF rfl T.sl22.und fun nb4 hnb4 => (nl (th ?_)))))))))))
  refine cd rfl (fun hc0 => ?_) (fun hc0 => ?_)
  · try simp at hc0
    refine sq (rg (ag (nl (th (rt (rt_ ?_))))))
    refine knA 2 (sl 1 strE []) rfl slnil ?_
    have hr0 : [] = l := by
      rw [hnb4 hc0]
    have hall : ∀ x0, [] = x0 → resAV [sl 1 strE []] = resAV [sl 1 strE x0] := by rintro _ rfl; rfl
    exact rE () [.tmp 2] rfl [sl 1 strE []] ⟨.tmp rfl, trivial⟩ (hall _ hr0) trivial (by first | exact .inr rfl | exact .inl rfl)
  · try simp at hc0
    refine sk (th (sq (rg (bs0 5 strE T.mk22 fun v5 => (mv (ap (key := 5) (zs := l) osl_eq rfl rfl rfl T.mk22 (by unfold maxL at *; simp; omega) (by unfold maxL at *; simp; omega) fun v7 => (ag (nl (th (rt ?_))))))))))
    refine fzA 5 2 rfl rfl ?_
    have hr0 : ([] ++ l) = l := by
      first | rfl | simp_all | omega
    have hall : ∀ x0, ([] ++ l) = x0 → resAV [sl 1 strE ([] ++ l)] = resAV [sl 1 strE x0] := by rintro _ rfl; rfl
    exact rE () [.tmp 2] rfl [sl 1 strE ([] ++ l)] ⟨.tmp rfl, trivial⟩ (hall _ hr0) trivial (by first | exact .inr rfl | exact .inl rfl)

theorem sCloneintE_ok (l : List Int) (hl : l.length ≤ 1000000) :
    Fn0 Tryd.prog 65 [ints l] (ints l) := by
  refine fnI Tryd.func65 rfl rfl (fun w0 F0 => ?_)
  refine fcC (slenI 0 rfl) (fun hm0 => ?_)
  refine sq (rg (ag (nl (th (sq (sq (rg (mv (nilF rfl T.sl28.und fun nb4 hnb4 => (nl (th ?_)))))))))))
  refine cd rfl (fun hc0 => ?_) (fun hc0 => ?_)
  · try simp at hc0
    refine sq (rg (ag (nl (th (rt (rt_ ?_))))))
    refine knA 2 (sl 1 intE []) rfl slnil ?_
    have hr0 : [] = l := by
      rw [hnb4 hc0]
    have hall : ∀ x0, [] = x0 → resAV [sl 1 intE []] = resAV [sl 1 intE x0] := by rintro _ rfl; rfl
    exact rE () [.tmp 2] rfl [sl 1 intE []] ⟨.tmp rfl, trivial⟩ (hall _ hr0) trivial (by first | exact .inr rfl | exact .inl rfl)
  · try simp at hc0
    refine sk (th (sq (rg (bs0 5 intE T.mk28 fun v5 => (mv (ap (key := 5) (zs := l) osl_eq rfl rfl rfl T.mk28 (by unfold maxL at *; simp; omega) (by unfold maxL at *; simp; omega) fun v7 => (ag (nl (th (rt ?_))))))))))
    refine fzA 5 2 rfl rfl ?_
    have hr0 : ([] ++ l) = l := by
      first | rfl | simp_all | omega
    have hall : ∀ x0, ([] ++ l) = x0 → resAV [sl 1 intE ([] ++ l)] = resAV [sl 1 intE x0] := by rintro _ rfl; rfl
    exact rE () [.tmp 2] rfl [sl 1 intE ([] ++ l)] ⟨.tmp rfl, trivial⟩ (hall _ hr0) trivial (by first | exact .inr rfl | exact .inl rfl)

theorem sEqualstrE_ok (xs ys : List ByteArray) :
    Fn0 Tryd.prog 66 [strs xs, strs ys] (bl (decide (xs = ys))) := by
  refine fnI Tryd.func66 rfl rfl (fun w0 F0 => ?_)
  refine fcC (slenI 0 rfl) (fun hm0 => ?_)
  refine fcC (slenI 1 rfl) (fun hm1 => ?_)
  refine sq (rg (ag (nl (th (sq (sq (rg (mv (lnF rfl T.sl22 (mv (lnF rfl T.sl22 (bi rfl rfl b_neq (nl (th ?_))))))))))))))
  refine cd rfl (fun hc0 => ?_) (fun hc0 => ?_)
  · try simp at hc0
    refine sq (rg (ag (nl (th (rt (rt_ ?_))))))
    have hr0 : false = (decide (xs = ys)) := by
      rw [decide_eq_false]; intro h; subst h; simp at hc0
    have hall : ∀ x0, false = x0 → resAV [bl false] = resAV [bl x0] := by rintro _ rfl; rfl
    exact rE () [.tmp 4] rfl [bl false] ⟨.tmp rfl, trivial⟩ (hall _ hr0) trivial (by first | exact .inr rfl | exact .inl rfl)
  · try simp at hc0
    refine sk (th (sq (sq (rg (mv (lnF rfl T.sl22 (mv (nl (th (bk ?_))))))))))
    have hI0_0 : 0 ≤ xs.length := by
      first | omega | simp
    have hI0_1 : xs.take 0 = ys.take 0 := by
      simp
    refine lp (κ := Nat) (fun p => [(0, sl 1 strE xs), (1, sl 1 strE ys), (12, int (xs.length : Int)), (13, int (p : Int))]) (fun p => []) (fun p => (p ≤ xs.length) ∧ (xs.take p = ys.take p)) (fun p => xs.length - p) 0 ⟨hI0_0, hI0_1⟩ ⟨id, id, id, id, trivial⟩ trivial ?_
    intro k hG0
    obtain ⟨hk0, hI0⟩ : (k ≤ xs.length) ∧ (xs.take k = ys.take k) := hG0
    refine sq (rg (bi rfl rfl b_lss (nl (th (sq ?_)))))
    refine cd rfl (fun hc1 => ?_) (fun hc1 => ?_)
    · try simp at hc1
      refine sk (th (sq (bk (sq (rg (mv (ag (nl (th (sq (dr (nh := 9) [0, 0, 3, 7, 0, 0, 48, 112, 255] T.mixed (by kernel_rfl) ?_)))))))))))
      refine st_ rfl (fun _ _ _ gq kq => mv' (gq.1.trans rfl) kq) ?_
      refine st_ rfl (fun _ _ _ gq kq => mv' (gq.1.trans rfl) kq) ?_
      refine st_ rfl (fun _ _ _ gq kq => iF (gq.1.trans rfl) (gq.2.1.trans rfl) T.sl22 (by omega) (by first | exact gN (by omega) | exact gI (by omega) (by omega)) kq) ?_
      refine st_ rfl (fun _ _ _ gq kq => lF (gq.1.trans rfl) rfl T.one9 kq) ?_
      refine st_ rfl (fun _ _ _ gq kq => mv' (gq.1.trans rfl) kq) ?_
      refine st_ rfl (fun _ _ _ gq kq => mv' (gq.1.trans rfl) kq) ?_
      refine st_ rfl (fun _ _ _ gq kq => iF (gq.1.trans rfl) (gq.2.1.trans rfl) T.sl22 (by omega) (by first | exact gN (by omega) | exact gI (by omega) (by omega)) kq) ?_
      refine st_ rfl (fun _ _ _ gq kq => lF (gq.1.trans rfl) rfl T.one9 kq) ?_
      refine st_ rfl (fun _ _ _ gq kq => bi (gq.1.trans rfl) (gq.2.1.trans rfl) b_neqS kq) ?_
      refine pn (nl (th ?_))
      refine cd rfl (fun hc2 => ?_) (fun hc2 => ?_)
      · try simp at hc2
        refine sq (rg (ag (nl (th (rt (rb (rt_ (rt_ (rb (rt_ ?_))))))))))
        have hr0 : false = (decide (xs = ys)) := by
          rw [decide_eq_false]; intro h; subst h; simp at hc2
        have hall : ∀ x0, false = x0 → resAV [bl false] = resAV [bl x0] := by rintro _ rfl; rfl
        exact rE () [.tmp 4] rfl [bl false] ⟨.tmp rfl, trivial⟩ (hall _ hr0) trivial (by first | exact .inr rfl | exact .inl rfl)
      · try simp at hc2
        refine sk (eb (th (rg (bi rfl rfl (b_add (by unfold I64; omega)) (mv (nl ?_))))))
        have hN0 : (k + 1) ≤ xs.length := by
          first | omega | simp_all
        have hN1 : xs.take (k + 1) = ys.take (k + 1) := by
          rw [take_s (by omega), take_s (by omega), hI0]; try simp at hc2
          rw [hc2]
        exact ln (k + 1) ⟨hN0, hN1⟩ (by first | omega | (dsimp only; omega)) ⟨id, id, id, id, trivial⟩ trivial
    · try simp at hc1
      refine ex (xt_ (xt_ (xb (th (sq (rg (ag (nl (th (rt ?_))))))))))
      have hr0 : true = (decide (xs = ys)) := by
        rw [decide_eq_true]
        rw [show k = xs.length by omega, List.take_length] at hI0
        rw [hI0, show xs.length = ys.length by omega, List.take_length]
      have hall : ∀ x0, true = x0 → resAV [bl true] = resAV [bl x0] := by rintro _ rfl; rfl
      exact rE () [.tmp 4] rfl [bl true] ⟨.tmp rfl, trivial⟩ (hall _ hr0) trivial (by first | exact .inr rfl | exact .inl rfl)

theorem sEqualintE_ok (xs ys : List Int) :
    Fn0 Tryd.prog 69 [ints xs, ints ys] (bl (decide (xs = ys))) := by
  refine fnI Tryd.func69 rfl rfl (fun w0 F0 => ?_)
  refine fcC (slenI 0 rfl) (fun hm0 => ?_)
  refine fcC (slenI 1 rfl) (fun hm1 => ?_)
  refine sq (rg (ag (nl (th (sq (sq (rg (mv (lnF rfl T.sl28 (mv (lnF rfl T.sl28 (bi rfl rfl b_neq (nl (th ?_))))))))))))))
  refine cd rfl (fun hc0 => ?_) (fun hc0 => ?_)
  · try simp at hc0
    refine sq (rg (ag (nl (th (rt (rt_ ?_))))))
    have hr0 : false = (decide (xs = ys)) := by
      rw [decide_eq_false]; intro h; subst h; simp at hc0
    have hall : ∀ x0, false = x0 → resAV [bl false] = resAV [bl x0] := by rintro _ rfl; rfl
    exact rE () [.tmp 4] rfl [bl false] ⟨.tmp rfl, trivial⟩ (hall _ hr0) trivial (by first | exact .inr rfl | exact .inl rfl)
  · try simp at hc0
    refine sk (th (sq (sq (rg (mv (lnF rfl T.sl28 (mv (nl (th (bk ?_))))))))))
    have hI0_0 : 0 ≤ xs.length := by
      first | omega | simp
    have hI0_1 : xs.take 0 = ys.take 0 := by
      simp
    refine lp (κ := Nat) (fun p => [(0, sl 1 intE xs), (1, sl 1 intE ys), (12, int (xs.length : Int)), (13, int (p : Int))]) (fun p => []) (fun p => (p ≤ xs.length) ∧ (xs.take p = ys.take p)) (fun p => xs.length - p) 0 ⟨hI0_0, hI0_1⟩ ⟨id, id, id, id, trivial⟩ trivial ?_
    intro k hG0
    obtain ⟨hk0, hI0⟩ : (k ≤ xs.length) ∧ (xs.take k = ys.take k) := hG0
    refine sq (rg (bi rfl rfl b_lss (nl (th (sq ?_)))))
    refine cd rfl (fun hc1 => ?_) (fun hc1 => ?_)
    · try simp at hc1
      refine sk (th (sq (bk (sq (rg (mv (ag (nl (th (sq (dr (nh := 9) [0, 0, 3, 7, 0, 0, 48, 112, 255] T.mixed (by kernel_rfl) ?_)))))))))))
      refine st_ rfl (fun _ _ _ gq kq => mv' (gq.1.trans rfl) kq) ?_
      refine st_ rfl (fun _ _ _ gq kq => mv' (gq.1.trans rfl) kq) ?_
      refine st_ rfl (fun _ _ _ gq kq => iF (gq.1.trans rfl) (gq.2.1.trans rfl) T.sl28 (by omega) (by first | exact gN (by omega) | exact gI (by omega) (by omega)) kq) ?_
      refine st_ rfl (fun _ _ _ gq kq => lF (gq.1.trans rfl) rfl T.one3 kq) ?_
      refine st_ rfl (fun _ _ _ gq kq => mv' (gq.1.trans rfl) kq) ?_
      refine st_ rfl (fun _ _ _ gq kq => mv' (gq.1.trans rfl) kq) ?_
      refine st_ rfl (fun _ _ _ gq kq => iF (gq.1.trans rfl) (gq.2.1.trans rfl) T.sl28 (by omega) (by first | exact gN (by omega) | exact gI (by omega) (by omega)) kq) ?_
      refine st_ rfl (fun _ _ _ gq kq => lF (gq.1.trans rfl) rfl T.one3 kq) ?_
      refine st_ rfl (fun _ _ _ gq kq => bi (gq.1.trans rfl) (gq.2.1.trans rfl) b_neq kq) ?_
      refine pn (nl (th ?_))
      refine cd rfl (fun hc2 => ?_) (fun hc2 => ?_)
      · try simp at hc2
        refine sq (rg (ag (nl (th (rt (rb (rt_ (rt_ (rb (rt_ ?_))))))))))
        have hr0 : false = (decide (xs = ys)) := by
          rw [decide_eq_false]; intro h; subst h; simp at hc2
        have hall : ∀ x0, false = x0 → resAV [bl false] = resAV [bl x0] := by rintro _ rfl; rfl
        exact rE () [.tmp 4] rfl [bl false] ⟨.tmp rfl, trivial⟩ (hall _ hr0) trivial (by first | exact .inr rfl | exact .inl rfl)
      · try simp at hc2
        refine sk (eb (th (rg (bi rfl rfl (b_add (by unfold I64; omega)) (mv (nl ?_))))))
        have hN0 : (k + 1) ≤ xs.length := by
          first | omega | simp_all
        have hN1 : xs.take (k + 1) = ys.take (k + 1) := by
          rw [take_s (by omega), take_s (by omega), hI0]; try simp at hc2
          rw [hc2]
        exact ln (k + 1) ⟨hN0, hN1⟩ (by first | omega | (dsimp only; omega)) ⟨id, id, id, id, trivial⟩ trivial
    · try simp at hc1
      refine ex (xt_ (xt_ (xb (th (sq (rg (ag (nl (th (rt ?_))))))))))
      have hr0 : true = (decide (xs = ys)) := by
        rw [decide_eq_true]
        rw [show k = xs.length by omega, List.take_length] at hI0
        rw [hI0, show xs.length = ys.length by omega, List.take_length]
      have hall : ∀ x0, true = x0 → resAV [bl true] = resAV [bl x0] := by rintro _ rfl; rfl
      exact rE () [.tmp 4] rfl [bl true] ⟨.tmp rfl, trivial⟩ (hall _ hr0) trivial (by first | exact .inr rfl | exact .inl rfl)
end prog
end Go.Proofs.YtolpjmllmlahfaaDoor
