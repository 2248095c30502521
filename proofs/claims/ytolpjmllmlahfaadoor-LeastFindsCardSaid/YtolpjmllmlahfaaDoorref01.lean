/- Walks of the functions of this claim, printed by a program of its own out of annotations. -/
import Derived.Test.YtolpjmllmlahfaaDoorBase
namespace Go.Proofs.YtolpjmllmlahfaaDoor
open AL Go
set_option maxRecDepth 100000
set_option linter.all false

def isLetter (c : Int) : Bool := (decide (97 ≤ c) && decide (c ≤ 122)) || (decide (65 ≤ c) && decide (c ≤ 90))
def rising (l : List Int) : Bool := (List.range (l.length - 1)).all fun i => decide (ix l i < ix l (i + 1))
def indexOf (l : List ByteArray) (s : ByteArray) : Int := match l.findIdx? (fun x => decide (x = s)) with | some i => i | none => -1
def isSet (n s : Int) : Bool := decide (0 ≤ s) && decide (s < ((2 ^ n.toNat : Nat) : Int))
def has (s a : Int) : Bool := s.toNat.testBit a.toNat
def listOf (n : Nat) (s : Int) : List Int := ((List.range n).filter fun (a : Nat) => has s (a : Int)).map fun (a : Nat) => (a : Int)
theorem has_eq (s a : Nat) : s.testBit a = decide (((s >>> a &&& 1 : Nat) : Int) = 1) := by
  rw [Nat.testBit_eq_decide_div_mod_eq, Nat.shiftRight_eq_div_pow, Nat.and_one_is_mod]
  by_cases h : s / 2 ^ a % 2 = 1
  · simp [h]
  · have h2 : s / 2 ^ a % 2 = 0 := by omega
    simp [h2]
theorem listOf_succ (n : Nat) (s : Int) : listOf (n + 1) s = listOf n s ++ (if has s (n : Int) then [(n : Int)] else []) := by
  unfold listOf
  rw [List.range_succ, List.filter_append, List.map_append]
  congr 1
  by_cases h : has s (n : Int) <;> simp [h]
theorem listOf_len (n : Nat) (s : Int) : (listOf n s).length ≤ n := by
  unfold listOf
  rw [List.length_map]
  exact Nat.le_trans (List.length_filter_le _ _) (by simp)
theorem all_range_succ (n : Nat) (f : Nat → Bool) : (List.range (n + 1)).all f = ((List.range n).all f && f n) := by
  rw [List.range_succ, List.all_append]; simp
theorem all_range_not {n i : Nat} {f : Nat → Bool} (hi : i < n) (hf : f i = false) : (List.range n).all f = false := by
  cases h : (List.range n).all f
  · rfl
  · have := List.all_eq_true.1 h i (List.mem_range.2 hi)
    rw [hf] at this; cases this
def nameByte (c : Int) : Bool := isLetter c || (decide (48 ≤ c) && decide (c ≤ 57)) || decide (c = 45) || decide (c = 95)
def isName (s : ByteArray) : Bool := decide (1 ≤ s.size) && decide (s.size ≤ 20) && isLetter (byteAt s 0) && (List.range s.size).all fun i => nameByte (byteAt s i)
def actionsOK (l : List ByteArray) : Bool := decide (l.length ≤ 8) && (List.range l.length).all fun i => isName (ix l i) && decide (indexOf l (ix l i) = (i : Int))
theorem all_take_succ {α : Type} [Inhabited α] {xs : List α} {k : Nat} (h : k < xs.length) (p : α → Bool) : (xs.take (k + 1)).all p = ((xs.take k).all p && p (ix xs k)) := by
  rw [take_s h, List.all_append]; simp
theorem all_fail {α : Type} [Inhabited α] {xs : List α} {k : Nat} (h : k < xs.length) {p : α → Bool} (hp : p (ix xs k) = false) : xs.all p = false := by
  cases hh : xs.all p
  · rfl
  · have := List.all_eq_true.1 hh (ix xs k) (by rw [ix_get h]; exact List.getElem_mem h)
    rw [hp] at this; cases this
theorem all_ix {α : Type} [Inhabited α] {xs : List α} {p : α → Bool} (hh : xs.all p = true) {k : Nat} (h : k < xs.length) : p (ix xs k) = true := List.all_eq_true.1 hh _ (by rw [ix_get h]; exact List.getElem_mem h)
theorem any_take_succ {α : Type} [Inhabited α] {xs : List α} {k : Nat} (h : k < xs.length) (p : α → Bool) : (xs.take (k + 1)).any p = ((xs.take k).any p || p (ix xs k)) := by
  rw [take_s h, List.any_append]; simp

namespace ref01
namespace T
theorem sl28 : IsSlice Tryd.prog 28 3 1 := isSlice_of (by kernel_rfl)
theorem mixed : Tryd.prog.follows .mixedOrders = true := by kernel_rfl
theorem one3 : IsOne Tryd.prog 3 := isOne_of (by kernel_rfl)
theorem sl22 : IsSlice Tryd.prog 22 9 1 := isSlice_of (by kernel_rfl)
theorem one9 : IsOne Tryd.prog 9 := isOne_of (by kernel_rfl)
theorem ent59 : Ent Tryd.prog 59 := ent_of (by kernel_rfl)
theorem mk28 : MakeT Tryd.prog 28 3 1 8 [.int .i64 0] := makeT_of (by kernel_rfl) (by kernel_rfl)
theorem str9 : Tryd.prog.underlying 9 = some .string := by kernel_rfl
theorem ent85 : Ent Tryd.prog 85 := ent_of (by kernel_rfl)
theorem ent53 : Ent Tryd.prog 53 := ent_of (by kernel_rfl)
theorem ent54 : Ent Tryd.prog 54 := ent_of (by kernel_rfl)
end T

theorem Has_ok (s a : Int) (h0 : 0 ≤ s) (h1 : s < 2 ^ 63) (h2 : 0 ≤ a) (h3 : a ≤ 64) :
    Fn0 Tryd.prog 59 [int s, int a] (bl (has s a)) := by
  refine fnI Tryd.func59 rfl rfl (fun w0 F0 => ?_)
  refine sq (rg (ag (nl (th (sq (rg (mv (mv (bi rfl rfl (b_shrI (by omega) (by omega) (by omega)) (bi rfl rfl (b_and1 (m := (s.toNat >>> a.toNat)) (Nat.lt_of_le_of_lt (Nat.shiftRight_le _ _) (by omega))) (bi rfl rfl b_eql (ag (nl (th (rt ?_)))))))))))))))
  have hr0 : (decide ((((s.toNat >>> a.toNat) &&& 1 : Nat) : Int) = 1)) = (has s a) := by
    exact (has_eq _ _).symm
  have hall : ∀ x0, (decide ((((s.toNat >>> a.toNat) &&& 1 : Nat) : Int) = 1)) = x0 → resAV [bl (decide ((((s.toNat >>> a.toNat) &&& 1 : Nat) : Int) = 1))] = resAV [bl x0] := by rintro _ rfl; rfl
  exact rE () [.tmp 4] rfl [bl (decide ((((s.toNat >>> a.toNat) &&& 1 : Nat) : Int) = 1))] ⟨.tmp rfl, trivial⟩ (hall _ hr0) trivial (by first | exact .inr rfl | exact .inl rfl)

theorem letter_ok (c : Int) :
    Fn0 Tryd.prog 85 [u8 c] (bl (isLetter c)) := by
  refine fnI Tryd.func85 rfl rfl (fun w0 F0 => ?_)
  refine sq (rg (ag (nl (th (sq (rg (mv (bi rfl rfl b_geq (mv ?_)))))))))
  apply gAnd (t := 5) (pd := 8) rfl
  rotate_left
  · intro hg0 fin
    have hg0' := hg0
    try simp at hg0'
    exact gy rfl rfl rfl hg0 (mv (gy rfl rfl rfl hg0 (bi rfl rfl b_leq (pkT rfl hg0 rfl (drp (X := [(7, _), (6, _)]) ⟨rfl, rfl, trivial⟩ (fin))))))
  · intro hg0 fin
    exact gn rfl rfl rfl hg0 rfl rfl (gn rfl rfl rfl hg0 rfl rfl (pkF rfl hg0 rfl (drp (X := [(7, _), (6, _)]) ⟨rfl, rfl, trivial⟩ (fin))))
  refine mv ?_
  apply gOr (t := 9) (pd := 16) rfl
  rotate_left
  · intro hg1 fin
    have hg1' := hg1
    try simp at hg1'
    refine gy rfl rfl rfl hg1 (mv (gy rfl rfl rfl hg1 (bi rfl rfl b_geq (gy rfl rfl rfl hg1 (mv ?_)))))
    apply gAnd (t := 12) (pd := 15) rfl
    rotate_left
    · intro hg2 fin
      have hg2' := hg2
      try simp at hg2'
      exact gy rfl rfl rfl hg2 (mv (gy rfl rfl rfl hg2 (bi rfl rfl b_leq (gy rfl rfl rfl hg1 (pkT rfl hg2 rfl (drp (X := [(14, _), (13, _)]) ⟨rfl, rfl, trivial⟩ (fin)))))))
    · intro hg2 fin
      exact gn rfl rfl rfl hg2 rfl rfl (gn rfl rfl rfl hg2 rfl rfl (gy rfl rfl rfl hg1 (pkF rfl hg2 rfl (drp (X := [(14, _), (13, _)]) ⟨rfl, rfl, trivial⟩ (fin)))))
    exact pkF rfl hg1 rfl (drp (X := [(15, _), (12, _), (11, _), (10, _)]) ⟨rfl, rfl, rfl, rfl, trivial⟩ (fin))
  · intro hg1 fin
    exact gn rfl rfl rfl hg1 rfl rfl (gn rfl rfl rfl hg1 rfl rfl (gn rfl rfl rfl hg1 rfl rfl (gu rfl rfl rfl rfl rfl (gu rfl rfl rfl rfl rfl (gn rfl rfl rfl hg1 rfl rfl (pkT rfl hg1 rfl (drp (X := [(15, _), (14, _), (13, _), (12, _), (11, _), (10, _)]) ⟨rfl, rfl, rfl, rfl, rfl, rfl, trivial⟩ (fin))))))))
  refine ag (nl (th (rt ?_)))
  have hr0 : (((decide (97 ≤ c)) && (decide (c ≤ 122))) || ((decide (65 ≤ c)) && (decide (c ≤ 90)))) = (isLetter c) := by
    first | rfl | simp_all | omega
  have hall : ∀ x0, (((decide (97 ≤ c)) && (decide (c ≤ 122))) || ((decide (65 ≤ c)) && (decide (c ≤ 90)))) = x0 → resAV [bl (((decide (97 ≤ c)) && (decide (c ≤ 122))) || ((decide (65 ≤ c)) && (decide (c ≤ 90))))] = resAV [bl x0] := by rintro _ rfl; rfl
  exact rE () [.tmp 2] rfl [bl (((decide (97 ≤ c)) && (decide (c ≤ 122))) || ((decide (65 ≤ c)) && (decide (c ≤ 90))))] ⟨.tmp rfl, trivial⟩ (hall _ hr0) trivial (by first | exact .inr rfl | exact .inl rfl)

theorem Rising_ok (l : List Int) :
    Fn0 Tryd.prog 55 [ints l] (bl (rising l)) := by
  refine fnI Tryd.func55 rfl rfl (fun w0 F0 => ?_)
  refine fcC (slenI 0 rfl) (fun hm0 => ?_)
  refine sq (rg (ag (nl (th (sq (sq (rg (ag (nl (th (bk ?_)))))))))))
  have hI0_0 : (0 + 1 ≤ l.length ∨ l.length = 0 ∧ 0 = 0) ∧ (List.range 0).all (fun i => decide (ix l i < ix l (i + 1))) = true := by
    refine ⟨by omega, by simp⟩
  refine lp (κ := Nat) (fun p => [(0, sl 1 intE l), (3, int ((p + 1 : Nat) : Int))]) (fun p => []) (fun p => (p + 1 ≤ l.length ∨ l.length = 0 ∧ p = 0) ∧ (List.range p).all (fun i => decide (ix l i < ix l (i + 1))) = true) (fun p => l.length - p) 0 hI0_0 ⟨id, id, trivial⟩ trivial ?_
  intro k hG0
  have hI0 : (k + 1 ≤ l.length ∨ l.length = 0 ∧ k = 0) ∧ (List.range k).all (fun i => decide (ix l i < ix l (i + 1))) = true := hG0
  refine sq (sq (rg (mv (mv (lnF rfl T.sl28 (bi rfl rfl b_lss (nl (th ?_))))))))
  refine cd rfl (fun hc0 => ?_) (fun hc0 => ?_)
  · try simp at hc0
    refine sk (th (sq (bk (sq (dr (nh := 10) [0, 0, 2, 7, 15, 0, 0, 96, 224, 511] T.mixed (by kernel_rfl) ?_)))))
    refine st_ rfl (fun _ _ _ gq kq => mv' (gq.1.trans rfl) kq) ?_
    refine st_ rfl (fun _ _ _ gq kq => mv' (gq.1.trans rfl) kq) ?_
    refine st_ rfl (fun _ _ _ gq kq => bi (gq.1.trans rfl) rfl (b_sub (by unfold I64; omega)) kq) ?_
    refine st_ rfl (fun _ _ _ gq kq => iF (gq.1.trans rfl) (gq.2.1.trans rfl) T.sl28 (by omega) (by first | exact gN (by omega) | exact gI (by omega) (by omega)) kq) ?_
    refine st_ rfl (fun _ _ _ gq kq => lF (gq.1.trans rfl) rfl T.one3 kq) ?_
    refine st_ rfl (fun _ _ _ gq kq => mv' (gq.1.trans rfl) kq) ?_
    refine st_ rfl (fun _ _ _ gq kq => mv' (gq.1.trans rfl) kq) ?_
    refine st_ rfl (fun _ _ _ gq kq => iF (gq.1.trans rfl) (gq.2.1.trans rfl) T.sl28 (by omega) (by first | exact gN (by omega) | exact gI (by omega) (by omega)) kq) ?_
    refine st_ rfl (fun _ _ _ gq kq => lF (gq.1.trans rfl) rfl T.one3 kq) ?_
    refine st_ rfl (fun _ _ _ gq kq => bi (gq.1.trans rfl) (gq.2.1.trans rfl) b_geq kq) ?_
    refine pn (nl (th ?_))
    refine cd rfl (fun hc1 => ?_) (fun hc1 => ?_)
    · try simp at hc1
      have hlt : k < l.length - 1 := by omega
      refine sq (rg (ag (nl (th (rt (rb (rt_ (rt_ (rb (rt_ ?_))))))))))
      have hr0 : false = (rising l) := by
        exact (all_range_not hlt (by simp; omega)).symm
      have hall : ∀ x0, false = x0 → resAV [bl false] = resAV [bl x0] := by rintro _ rfl; rfl
      exact rE () [.tmp 2] rfl [bl false] ⟨.tmp rfl, trivial⟩ (hall _ hr0) trivial (by first | exact .inr rfl | exact .inl rfl)
    · try simp at hc1
      refine sk (eb (th (rg (mv (bi rfl rfl (b_add (by unfold I64; omega)) (ag (nl ?_)))))))
      have hN0 : ((k + 1) + 1 ≤ l.length ∨ l.length = 0 ∧ (k + 1) = 0) ∧ (List.range (k + 1)).all (fun i => decide (ix l i < ix l (i + 1))) = true := by
        refine ⟨by omega, ?_⟩
        rw [all_range_succ, hI0.2]
        simp at hc1 ⊢
        exact hc1
      exact ln (k + 1) hN0 (by first | omega | (dsimp only; omega)) ⟨id, id, trivial⟩ trivial
  · try simp at hc0
    refine ex (xt_ (xt_ (xb (th (sq (rg (ag (nl (th (rt ?_))))))))))
    have hr0 : true = (rising l) := by
      unfold rising
      rw [show l.length - 1 = k by omega]
      exact hI0.2.symm
    have hall : ∀ x0, true = x0 → resAV [bl true] = resAV [bl x0] := by rintro _ rfl; rfl
    exact rE () [.tmp 2] rfl [bl true] ⟨.tmp rfl, trivial⟩ (hall _ hr0) trivial (by first | exact .inr rfl | exact .inl rfl)

theorem Index_ok (l : List ByteArray) (s : ByteArray) :
    Fn0 Tryd.prog 54 [strs l, str s] (int (indexOf l s)) := by
  refine fnI Tryd.func54 rfl rfl (fun w0 F0 => ?_)
  refine fcC (slenI 0 rfl) (fun hm0 => ?_)
  refine sq (rg (ag (nl (th (sq (sq (rg (mv (lnF rfl T.sl22 (mv (nl (th (bk ?_)))))))))))))
  have hI0_0 : 0 ≤ l.length := by
    first | omega | simp
  have hI0_1 : ∀ x ∈ l.take 0, x ≠ s := by
    simp
  refine lp (κ := Nat) (fun p => [(1, str s), (7, sl 1 strE l), (8, int (l.length : Int)), (9, int (p : Int))]) (fun p => []) (fun p => (p ≤ l.length) ∧ (∀ x ∈ l.take p, x ≠ s)) (fun p => l.length - p) 0 ⟨hI0_0, hI0_1⟩ ⟨id, id, id, id, trivial⟩ trivial ?_
  intro k hG0
  obtain ⟨hk0, hI0⟩ : (k ≤ l.length) ∧ (∀ x ∈ l.take k, x ≠ s) := hG0
  refine sq (rg (bi rfl rfl b_lss (nl (th (sq ?_)))))
  refine cd rfl (fun hc0 => ?_) (fun hc0 => ?_)
  · try simp at hc0
    refine sk (th (sq (bk (sq (rg (mv (iF rfl rfl T.sl22 (by omega) (by first | exact gN (by omega) | exact gI (by omega) (by omega)) (lF rfl rfl T.one9 (ag (ag (nl (th (sq (rg (mv (mv (bi rfl rfl b_eqlS (nl (th ?_)))))))))))))))))))
    refine cd rfl (fun hc1 => ?_) (fun hc1 => ?_)
    · try simp at hc1
      refine sq (rg (mv (ag (nl (th (rt (rb (rt_ (rt_ (rb (rt_ ?_)))))))))))
      have hr0 : ((k : Int) : Int) = (indexOf l s) := by
        unfold indexOf
        have : l.findIdx? (fun x => decide (x = s)) = some k := by
          rw [List.findIdx?_eq_some_iff_getElem]
          refine ⟨by omega, by simpa [ix_get (show k < l.length by omega)] using hc1, fun j hj => ?_⟩
          have := hI0 l[j] (List.mem_take_iff_getElem.2 ⟨j, by omega, rfl⟩)
          simpa using this
        rw [this]
      have hall : ∀ x0, (k : Int) = x0 → resAV [int (k : Int)] = resAV [int x0] := by rintro _ rfl; rfl
      exact rE () [.tmp 4] rfl [int (k : Int)] ⟨.tmp rfl, trivial⟩ (hall _ hr0) trivial (by first | exact .inr rfl | exact .inl rfl)
    · try simp at hc1
      refine sk (eb (th (rg (bi rfl rfl (b_add (by unfold I64; omega)) (mv (nl ?_))))))
      have hN0 : (k + 1) ≤ l.length := by
        first | omega | simp_all
      have hN1 : ∀ x ∈ l.take (k + 1), x ≠ s := by
        rw [take_s (by omega)]
        intro x hx
        rcases List.mem_append.1 hx with hx | hx
        · exact hI0 x hx
        · simp at hx; subst hx; exact hc1
      exact ln (k + 1) ⟨hN0, hN1⟩ (by first | omega | (dsimp only; omega)) ⟨id, id, id, id, trivial⟩ trivial
  · try simp at hc0
    refine ex (xt_ (xt_ (xb (th (sq (rg (ag (nl (th (rt ?_))))))))))
    have hr0 : (-1 : Int) = (indexOf l s) := by
      unfold indexOf
      have : l.findIdx? (fun x => decide (x = s)) = none := by
        rw [List.findIdx?_eq_none_iff]
        intro x hx
        have hk2 : k = l.length := by omega
        rw [hk2, List.take_length] at hI0
        simp [hI0 x hx]
      rw [this]
    have hall : ∀ x0, (-1) = x0 → resAV [int (-1)] = resAV [int x0] := by rintro _ rfl; rfl
    exact rE () [.tmp 4] rfl [int (-1)] ⟨.tmp rfl, trivial⟩ (hall _ hr0) trivial (by first | exact .inr rfl | exact .inl rfl)

theorem Set_ok (n s : Int) (h0 : 0 ≤ n) (h1 : n < 63) :
    Fn0 Tryd.prog 56 [int n, int s] (bl (isSet n s)) := by
  refine fnI Tryd.func56 rfl rfl (fun w0 F0 => ?_)
  refine sq (rg (ag (nl (th (sq (rg (mv (bi rfl rfl b_geq (mv ?_)))))))))
  apply gAnd (t := 7) (pd := 12) rfl
  rotate_left
  · intro hg0 fin
    have hg0' := hg0
    try simp at hg0'
    exact gy rfl rfl rfl hg0 (mv (gy rfl rfl rfl hg0 (mv (gy rfl rfl rfl hg0 (bi rfl rfl (b_shlI (by omega) (by omega)) (gy rfl rfl rfl hg0 (bi rfl rfl b_lss (pkT rfl hg0 rfl (drp (X := [(11, _), (10, _), (9, _), (8, _)]) ⟨rfl, rfl, rfl, rfl, trivial⟩ (fin))))))))))
  · intro hg0 fin
    exact gn rfl rfl rfl hg0 rfl rfl (gn rfl rfl rfl hg0 rfl rfl (gn rfl rfl rfl hg0 rfl rfl (gn rfl rfl rfl hg0 rfl rfl (pkF rfl hg0 rfl (drp (X := [(11, _), (10, _), (9, _), (8, _)]) ⟨rfl, rfl, rfl, rfl, trivial⟩ (fin))))))
  refine ag (nl (th (rt ?_)))
  have hr0 : ((decide (0 ≤ s)) && (decide (s < ((2 ^ n.toNat : Nat) : Int)))) = (isSet n s) := by
    first | rfl | simp_all | omega
  have hall : ∀ x0, ((decide (0 ≤ s)) && (decide (s < ((2 ^ n.toNat : Nat) : Int)))) = x0 → resAV [bl ((decide (0 ≤ s)) && (decide (s < ((2 ^ n.toNat : Nat) : Int))))] = resAV [bl x0] := by rintro _ rfl; rfl
  exact rE () [.tmp 4] rfl [bl ((decide (0 ≤ s)) && (decide (s < ((2 ^ n.toNat : Nat) : Int))))] ⟨.tmp rfl, trivial⟩ (hall _ hr0) trivial (by first | exact .inr rfl | exact .inl rfl)

theorem List_ok (n : Nat) (s : Int) (hn : n ≤ 64) (h0 : 0 ≤ s) (h1 : s < 2 ^ 63) :
    Fn0 Tryd.prog 57 [int (n : Int), int s] (ints (listOf n s)) := by
  refine fnI Tryd.func57 rfl rfl (fun w0 F0 => ?_)
  refine sq (rg (ag (kn 4 (sl 1 intE []) rfl slnil (nl (th (sq (rg (nw 5 3 1 intE (ag (rtg (key := 5) 5 rfl (nl (th (sq (sq (rg (mv (mv (nl (th (bk ?_))))))))))))))))))))
  have hI0_0 : 0 ≤ n := by
    first | omega | simp
  have hI0_1 : ([] : List Int) = listOf 0 s := by
    rfl
  refine lp (κ := Nat × Value × (List Int)) (fun p => [(1, int s), (4, sl 1 intE []), (5, osl 5 p.2.1), (7, int (n : Int)), (8, int (p.1 : Int))]) (fun p => [(5, own p.2.1 3 1 intE p.2.2)]) (fun p => (p.1 ≤ n) ∧ (p.2.2 = listOf p.1 s)) (fun p => n - p.1) ⟨0, (.slice none 0 0), ([] : List Int)⟩ ⟨hI0_0, hI0_1⟩ ⟨id, id, id, id, id, trivial⟩ ⟨⟨rfl, id⟩, trivial⟩ ?_
  intro ⟨k, v, acc⟩ hG0
  obtain ⟨hk0, hI0⟩ : (k ≤ n) ∧ (acc = listOf k s) := hG0
  show Ct _ _ _ _ [(1, int s), (4, sl 1 intE []), (5, osl 5 v), (7, int (n : Int)), (8, int (k : Int))] [(5, own v 3 1 intE acc)] _
  have hll := listOf_len k s
  rw [← hI0] at hll
  refine sq (rg (bi rfl rfl b_lss (nl (th (sq ?_)))))
  refine cd rfl (fun hc0 => ?_) (fun hc0 => ?_)
  · try simp at hc0
    refine sk (th (sq (bk (sq (rg (mv (ag (nl (th (sq (rg (mv (mv (cal0 (φs := [int s, int (k : Int)]) (φ := bl (has s (k : Int))) ⟨rfl, rfl, trivial⟩ (ref01.Has_ok _ _ (by omega) (by omega) (by omega) (by omega)) T.ent59 (nl (th ?_))))))))))))))))
    refine cd rfl (fun hc1 => ?_) (fun hc1 => ?_)
    · try simp at hc1
      refine rg (mv (mv (bsE (enc := intE) (xs := [(k : Int)]) (css := [[int (k : Int)]]) T.mk28 ⟨rfl, rfl, p1 (φ := int (k : Int)) rfl, trivial⟩ rfl rfl rfl rfl (ap (key := 5) (zs := [(k : Int)]) osl_eq rfl rfl rfl T.mk28 (by unfold maxL at *; simp; omega) (by unfold maxL at *; simp; omega) fun v17 => (ag (nl (eb (th (rg (bi rfl rfl (b_add (by unfold I64; omega)) (mv (nl ?_))))))))))))
      have hN0 : (k + 1) ≤ n := by
        first | omega | simp_all
      have hN1 : (acc ++ [(k : Int)]) = listOf (k + 1) s := by
        rw [listOf_succ, hc1]; simp [hI0]
      exact ln (⟨k + 1, v17, acc ++ [(k : Int)]⟩ : Nat × Value × (List Int)) ⟨hN0, hN1⟩ (by first | omega | (dsimp only; omega)) ⟨id, id, id, id, id, trivial⟩ ⟨⟨rfl, id⟩, trivial⟩
    · try simp at hc1
      refine sk (eb (th (rg (bi rfl rfl (b_add (by unfold I64; omega)) (mv (nl ?_))))))
      have hN0 : (k + 1) ≤ n := by
        first | omega | simp_all
      have hN1 : acc = listOf (k + 1) s := by
        rw [listOf_succ, hc1]; simp [hI0]
      exact ln (⟨k + 1, v, acc⟩ : Nat × Value × (List Int)) ⟨hN0, hN1⟩ (by first | omega | (dsimp only; omega)) ⟨id, id, id, id, id, trivial⟩ ⟨⟨rfl, id⟩, trivial⟩
  · try simp at hc0
    refine ex (xt_ (xt_ (xb (th (sq (rg (mv (ag (nl (th (rt ?_)))))))))))
    refine fzA 5 4 rfl rfl ?_
    have hr0 : acc = (listOf n s) := by
      rw [hI0]; congr 1; omega
    have hall : ∀ x0, acc = x0 → resAV [sl 1 intE acc] = resAV [sl 1 intE x0] := by rintro _ rfl; rfl
    exact rE () [.tmp 4] rfl [sl 1 intE acc] ⟨.tmp rfl, trivial⟩ (hall _ hr0) trivial (by first | exact .inr rfl | exact .inl rfl)

theorem Name_ok (s : ByteArray) :
    Fn0 Tryd.prog 53 [str s] (bl (isName s)) := by
  refine fnI Tryd.func53 rfl rfl (fun w0 F0 => ?_)
  refine sq (rg (ag (nl (th (sq (sq (rg (mv (lnS rfl T.str9 (bi rfl rfl b_lss (mv ?_)))))))))))
  apply gOr (t := 8) (pd := 12) rfl
  rotate_left
  · intro hg0 fin
    have hg0' := hg0
    try simp at hg0'
    exact gy rfl rfl rfl hg0 (mv (gy rfl rfl rfl hg0 (lnS rfl T.str9 (gy rfl rfl rfl hg0 (bi rfl rfl b_gtr (pkF rfl hg0 rfl (drp (X := [(11, _), (10, _), (9, _)]) ⟨rfl, rfl, rfl, trivial⟩ (fin))))))))
  · intro hg0 fin
    exact gn rfl rfl rfl hg0 rfl rfl (gn rfl rfl rfl hg0 rfl rfl (gn rfl rfl rfl hg0 rfl rfl (pkT rfl hg0 rfl (drp (X := [(11, _), (10, _), (9, _)]) ⟨rfl, rfl, rfl, trivial⟩ (fin)))))
  refine mv ?_
  apply gOr (t := 13) (pd := 18) rfl
  rotate_left
  · intro hg1 fin
    have hg1' := hg1
    try simp at hg1'
    exact gy rfl rfl rfl hg1 (mv (gy rfl rfl rfl hg1 (idxS rfl rfl T.str9 (by omega) (by omega) (gy rfl rfl rfl hg1 (cal0 (φs := [u8 (byteAt s 0)]) (φ := bl (isLetter (byteAt s 0))) ⟨rfl, trivial⟩ (ref01.letter_ok _) T.ent85 (gy rfl rfl rfl hg1 (no rfl (pkF rfl hg1 rfl (drp (X := [(17, _), (16, _), (15, _), (14, _)]) ⟨rfl, rfl, rfl, rfl, trivial⟩ (fin))))))))))
  · intro hg1 fin
    exact gn rfl rfl rfl hg1 rfl rfl (gn rfl rfl rfl hg1 rfl rfl (gn rfl rfl rfl hg1 rfl rfl (gn rfl rfl rfl hg1 rfl rfl (pkT rfl hg1 rfl (drp (X := [(17, _), (16, _), (15, _), (14, _)]) ⟨rfl, rfl, rfl, rfl, trivial⟩ (fin))))))
  refine nl (th ?_)
  refine cd rfl (fun hc0 => ?_) (fun hc0 => ?_)
  · try simp at hc0
    refine sq (rg (ag (nl (th (rt (rt_ ?_))))))
    have hr0 : false = (isName s) := by
      unfold isName
      by_cases h1 : isLetter (byteAt s 0) = true
      · simp [h1] at hc0
        rw [show (decide (1 ≤ s.size) && decide (s.size ≤ 20)) = false by simp; omega]; simp
      · simp [h1]
    have hall : ∀ x0, false = x0 → resAV [bl false] = resAV [bl x0] := by rintro _ rfl; rfl
    exact rE () [.tmp 2] rfl [bl false] ⟨.tmp rfl, trivial⟩ (hall _ hr0) trivial (by first | exact .inr rfl | exact .inl rfl)
  · try simp at hc0
    refine sk (th (sq (sq (rg (mv (lnS rfl T.str9 (mv (nl (th (bk ?_))))))))))
    have hI0_0 : 0 ≤ s.size := by
      first | omega | simp
    have hI0_1 : (List.range 0).all (fun i => nameByte (byteAt s i)) = true := by
      simp
    refine lp (κ := Nat) (fun p => [(0, str s), (20, int (s.size : Int)), (21, int (p : Int))]) (fun p => []) (fun p => (p ≤ s.size) ∧ ((List.range p).all (fun i => nameByte (byteAt s i)) = true)) (fun p => s.size - p) 0 ⟨hI0_0, hI0_1⟩ ⟨id, id, id, trivial⟩ trivial ?_
    intro k hG0
    obtain ⟨hk0, hI0⟩ : (k ≤ s.size) ∧ ((List.range k).all (fun i => nameByte (byteAt s i)) = true) := hG0
    refine sq (rg (bi rfl rfl b_lss (nl (th (sq ?_)))))
    refine cd rfl (fun hc1 => ?_) (fun hc1 => ?_)
    · try simp at hc1
      refine sk (th (sq (bk (sq (rg (mv (ag (nl (th (sq (rg (mv (mv (idxS rfl rfl T.str9 (by omega) (by omega) (ag (nl (th (sq (rg (mv (cal0 (φs := [u8 (byteAt s k)]) (φ := bl (isLetter (byteAt s k))) ⟨rfl, trivial⟩ (ref01.letter_ok _) T.ent85 (no rfl (mv ?_)))))))))))))))))))))))
      apply gAnd (t := 30) (pd := 37) rfl
      rotate_left
      · intro hg2 fin
        have hg2' := hg2
        try simp at hg2'
        refine gy rfl rfl rfl hg2 (mv (gy rfl rfl rfl hg2 (bi rfl rfl b_lss (gy rfl rfl rfl hg2 (mv ?_)))))
        apply gOr (t := 33) (pd := 36) rfl
        rotate_left
        · intro hg3 fin
          have hg3' := hg3
          try simp at hg3'
          exact gy rfl rfl rfl hg3 (mv (gy rfl rfl rfl hg3 (bi rfl rfl b_gtr (gy rfl rfl rfl hg2 (pkF rfl hg3 rfl (drp (X := [(35, _), (34, _)]) ⟨rfl, rfl, trivial⟩ (fin)))))))
        · intro hg3 fin
          exact gn rfl rfl rfl hg3 rfl rfl (gn rfl rfl rfl hg3 rfl rfl (gy rfl rfl rfl hg2 (pkT rfl hg3 rfl (drp (X := [(35, _), (34, _)]) ⟨rfl, rfl, trivial⟩ (fin)))))
        exact pkT rfl hg2 rfl (drp (X := [(36, _), (33, _), (32, _), (31, _)]) ⟨rfl, rfl, rfl, rfl, trivial⟩ (fin))
      · intro hg2 fin
        exact gn rfl rfl rfl hg2 rfl rfl (gn rfl rfl rfl hg2 rfl rfl (gn rfl rfl rfl hg2 rfl rfl (gu rfl rfl rfl rfl rfl (gu rfl rfl rfl rfl rfl (gn rfl rfl rfl hg2 rfl rfl (pkF rfl hg2 rfl (drp (X := [(36, _), (35, _), (34, _), (33, _), (32, _), (31, _)]) ⟨rfl, rfl, rfl, rfl, rfl, rfl, trivial⟩ (fin))))))))
      refine mv ?_
      apply gAnd (t := 38) (pd := 41) rfl
      rotate_left
      · intro hg4 fin
        have hg4' := hg4
        try simp at hg4'
        exact gy rfl rfl rfl hg4 (mv (gy rfl rfl rfl hg4 (bi rfl rfl b_neq (pkT rfl hg4 rfl (drp (X := [(40, _), (39, _)]) ⟨rfl, rfl, trivial⟩ (fin))))))
      · intro hg4 fin
        exact gn rfl rfl rfl hg4 rfl rfl (gn rfl rfl rfl hg4 rfl rfl (pkF rfl hg4 rfl (drp (X := [(40, _), (39, _)]) ⟨rfl, rfl, trivial⟩ (fin))))
      refine mv ?_
      apply gAnd (t := 42) (pd := 45) rfl
      rotate_left
      · intro hg5 fin
        have hg5' := hg5
        try simp at hg5'
        exact gy rfl rfl rfl hg5 (mv (gy rfl rfl rfl hg5 (bi rfl rfl b_neq (pkT rfl hg5 rfl (drp (X := [(44, _), (43, _)]) ⟨rfl, rfl, trivial⟩ (fin))))))
      · intro hg5 fin
        exact gn rfl rfl rfl hg5 rfl rfl (gn rfl rfl rfl hg5 rfl rfl (pkF rfl hg5 rfl (drp (X := [(44, _), (43, _)]) ⟨rfl, rfl, trivial⟩ (fin))))
      refine nl (th ?_)
      refine cd rfl (fun hc2 => ?_) (fun hc2 => ?_)
      · try simp at hc2
        refine sq (rg (ag (nl (th (rt (rb (rt_ (rt_ (rb (rt_ ?_))))))))))
        have hr0 : false = (isName s) := by
          unfold isName
          rw [all_range_not (i := k) (by omega) ?_]
          · simp
          · simp [nameByte, hc2.1.1.1]
            omega
        have hall : ∀ x0, false = x0 → resAV [bl false] = resAV [bl x0] := by rintro _ rfl; rfl
        exact rE () [.tmp 2] rfl [bl false] ⟨.tmp rfl, trivial⟩ (hall _ hr0) trivial (by first | exact .inr rfl | exact .inl rfl)
      · try simp at hc2
        refine sk (eb (th (rg (bi rfl rfl (b_add (by unfold I64; omega)) (mv (nl ?_))))))
        have hN0 : (k + 1) ≤ s.size := by
          first | omega | simp_all
        have hN1 : (List.range (k + 1)).all (fun i => nameByte (byteAt s i)) = true := by
          rw [all_range_succ, hI0]
          simp [nameByte]
          by_cases h1 : isLetter (byteAt s k) = true
          · simp [h1]
          · simp [h1] at hc2
            simp [h1]
            omega
        exact ln (k + 1) ⟨hN0, hN1⟩ (by first | omega | (dsimp only; omega)) ⟨id, id, id, trivial⟩ trivial
    · try simp at hc1
      refine ex (xt_ (xt_ (xb (th (sq (rg (ag (nl (th (rt ?_))))))))))
      have hr0 : true = (isName s) := by
        unfold isName
        rw [show s.size = k by omega, hI0]
        simp [hc0.2]
        omega
      have hall : ∀ x0, true = x0 → resAV [bl true] = resAV [bl x0] := by rintro _ rfl; rfl
      exact rE () [.tmp 2] rfl [bl true] ⟨.tmp rfl, trivial⟩ (hall _ hr0) trivial (by first | exact .inr rfl | exact .inl rfl)

theorem Is_ok (l : List ByteArray) :
    Fn0 Tryd.prog 32 [strs l] (bl (actionsOK l)) := by
  refine fnI Tryd.func32 rfl rfl (fun w0 F0 => ?_)
  refine fcC (slenI 0 rfl) (fun hm0 => ?_)
  refine sq (rg (ag (nl (th (sq (sq (rg (mv (lnF rfl T.sl22 (bi rfl rfl b_gtr (nl (th ?_))))))))))))
  refine cd rfl (fun hc0 => ?_) (fun hc0 => ?_)
  · try simp at hc0
    refine sq (rg (ag (nl (th (rt (rt_ ?_))))))
    have hr0 : false = (actionsOK l) := by
      unfold actionsOK
      rw [decide_eq_false (by omega)]; rfl
    have hall : ∀ x0, false = x0 → resAV [bl false] = resAV [bl x0] := by rintro _ rfl; rfl
    exact rE () [.tmp 2] rfl [bl false] ⟨.tmp rfl, trivial⟩ (hall _ hr0) trivial (by first | exact .inr rfl | exact .inl rfl)
  · try simp at hc0
    refine sk (th (sq (sq (rg (mv (lnF rfl T.sl22 (mv (nl (th (bk ?_))))))))))
    have hI0_0 : 0 ≤ l.length := by
      first | omega | simp
    have hI0_1 : (List.range 0).all (fun i => isName (ix l i) && decide (indexOf l (ix l i) = (i : Int))) = true := by
      simp
    refine lp (κ := Nat) (fun p => [(0, sl 1 strE l), (8, sl 1 strE l), (9, int (l.length : Int)), (10, int (p : Int))]) (fun p => []) (fun p => (p ≤ l.length) ∧ ((List.range p).all (fun i => isName (ix l i) && decide (indexOf l (ix l i) = (i : Int))) = true)) (fun p => l.length - p) 0 ⟨hI0_0, hI0_1⟩ ⟨id, id, id, id, trivial⟩ trivial ?_
    intro k hG0
    obtain ⟨hk0, hI0⟩ : (k ≤ l.length) ∧ ((List.range k).all (fun i => isName (ix l i) && decide (indexOf l (ix l i) = (i : Int))) = true) := hG0
    refine sq (rg (bi rfl rfl b_lss (nl (th (sq ?_)))))
    refine cd rfl (fun hc1 => ?_) (fun hc1 => ?_)
    · try simp at hc1
      refine sk (th (sq (bk (sq (rg (mv (iF rfl rfl T.sl22 (by omega) (by first | exact gN (by omega) | exact gI (by omega) (by omega)) (lF rfl rfl T.one9 (ag (ag (nl (th (sq (rg (mv (cal0 (φs := [str (ix l k)]) (φ := bl (isName (ix l k))) ⟨rfl, trivial⟩ (ref01.Name_ok _) T.ent53 (no rfl (mv ?_))))))))))))))))))
      apply gOr (t := 18) (pd := 24) rfl
      rotate_left
      · intro hg0 fin
        have hg0' := hg0
        try simp at hg0'
        exact gy rfl rfl rfl hg0 (mv (gy rfl rfl rfl hg0 (mv (gy rfl rfl rfl hg0 (cal0 (φs := [sl 1 strE l, str (ix l k)]) (φ := int (indexOf l (ix l k))) ⟨rfl, rfl, trivial⟩ (ref01.Index_ok _ _) T.ent54 (gy rfl rfl rfl hg0 (mv (gy rfl rfl rfl hg0 (bi rfl rfl b_neq (pkF rfl hg0 rfl (drp (X := [(23, _), (22, _), (21, _), (20, _), (19, _)]) ⟨rfl, rfl, rfl, rfl, rfl, trivial⟩ (fin))))))))))))
      · intro hg0 fin
        exact gn rfl rfl rfl hg0 rfl rfl (gn rfl rfl rfl hg0 rfl rfl (gn rfl rfl rfl hg0 rfl rfl (gn rfl rfl rfl hg0 rfl rfl (gn rfl rfl rfl hg0 rfl rfl (pkT rfl hg0 rfl (drp (X := [(23, _), (22, _), (21, _), (20, _), (19, _)]) ⟨rfl, rfl, rfl, rfl, rfl, trivial⟩ (fin)))))))
      refine nl (th ?_)
      refine cd rfl (fun hc2 => ?_) (fun hc2 => ?_)
      · try simp at hc2
        refine sq (rg (ag (nl (th (rt (rb (rt_ (rt_ (rb (rt_ ?_))))))))))
        have hr0 : false = (actionsOK l) := by
          unfold actionsOK
          rw [all_range_not (i := k) (by omega) ?_]
          · simp
          · by_cases h : isName (ix l k) = true
            · simpa [h] using hc2
            · simp [h]
        have hall : ∀ x0, false = x0 → resAV [bl false] = resAV [bl x0] := by rintro _ rfl; rfl
        exact rE () [.tmp 2] rfl [bl false] ⟨.tmp rfl, trivial⟩ (hall _ hr0) trivial (by first | exact .inr rfl | exact .inl rfl)
      · try simp at hc2
        refine sk (eb (th (rg (bi rfl rfl (b_add (by unfold I64; omega)) (mv (nl ?_))))))
        have hN0 : (k + 1) ≤ l.length := by
          first | omega | simp_all
        have hN1 : (List.range (k + 1)).all (fun i => isName (ix l i) && decide (indexOf l (ix l i) = (i : Int))) = true := by
          rw [all_range_succ, hI0]
          simpa using hc2
        exact ln (k + 1) ⟨hN0, hN1⟩ (by first | omega | (dsimp only; omega)) ⟨id, id, id, id, trivial⟩ trivial
    · try simp at hc1
      refine ex (xt_ (xt_ (xb (th (sq (rg (ag (nl (th (rt ?_))))))))))
      have hr0 : true = (actionsOK l) := by
        unfold actionsOK
        rw [show l.length = k by omega, hI0, decide_eq_true (by omega)]; rfl
      have hall : ∀ x0, true = x0 → resAV [bl true] = resAV [bl x0] := by rintro _ rfl; rfl
      exact rE () [.tmp 2] rfl [bl true] ⟨.tmp rfl, trivial⟩ (hall _ hr0) trivial (by first | exact .inr rfl | exact .inl rfl)

theorem SameInts_ok (xs ys : List Int) :
    Fn0 Tryd.prog 18 [ints xs, ints ys] (bl (decide (xs = ys))) := by
  refine fnI Tryd.func18 rfl rfl (fun w0 F0 => ?_)
  refine fcC (slenI 0 rfl) (fun hm0 => ?_)
  refine fcC (slenI 1 rfl) (fun hm1 => ?_)
  refine sq (rg (ag (nl (th (sq (sq (rg (mv (lnF rfl T.sl28 (mv (lnF rfl T.sl28 (bi rfl rfl b_neq (nl (th ?_))))))))))))))
  refine cd rfl (fun hc0 => ?_) (fun hc0 => ?_)
  · try simp at hc0
    refine sq (rg (ag (nl (th (rt (rt_ ?_))))))
    have hr0 : false = (decide (xs = ys)) := by
      rw [decide_eq_false]; intro h; subst h; simp at hc0
    have hall : ∀ x0, false = x0 → resAV [bl false] = resAV [bl x0] := by rintro _ rfl; rfl
    exact rE () [.tmp 4] rfl [bl false] ⟨.tmp rfl, trivial⟩ (hall _ hr0) trivial (by first | exact .inr rfl | exact .inl rfl)
  · try simp at hc0
    refine sk (th (sq (sq (rg (mv (lnF rfl T.sl28 (mv (nl (th (bk ?_))))))))))
    have hI0_0 : 0 ≤ xs.length := by
      first | omega | simp
    have hI0_1 : xs.take 0 = ys.take 0 := by
      simp
    refine lp (κ := Nat) (fun p => [(1, sl 1 intE ys), (12, sl 1 intE xs), (13, int (xs.length : Int)), (14, int (p : Int))]) (fun p => []) (fun p => (p ≤ xs.length) ∧ (xs.take p = ys.take p)) (fun p => xs.length - p) 0 ⟨hI0_0, hI0_1⟩ ⟨id, id, id, id, trivial⟩ trivial ?_
    intro k hG0
    obtain ⟨hk0, hI0⟩ : (k ≤ xs.length) ∧ (xs.take k = ys.take k) := hG0
    refine sq (rg (bi rfl rfl b_lss (nl (th (sq ?_)))))
    refine cd rfl (fun hc1 => ?_) (fun hc1 => ?_)
    · try simp at hc1
      refine sk (th (sq (bk (sq (rg (mv (iF rfl rfl T.sl28 (by omega) (by first | exact gN (by omega) | exact gI (by omega) (by omega)) (lF rfl rfl T.one3 (ag (ag (nl (th (sq (rg (mv (mv (mv (iF rfl rfl T.sl28 (by omega) (by first | exact gN (by omega) | exact gI (by omega) (by omega)) (lF rfl rfl T.one3 (bi rfl rfl b_neq (nl (th ?_))))))))))))))))))))))
      refine cd rfl (fun hc2 => ?_) (fun hc2 => ?_)
      · try simp at hc2
        refine sq (rg (ag (nl (th (rt (rb (rt_ (rt_ (rb (rt_ ?_))))))))))
        have hr0 : false = (decide (xs = ys)) := by
          rw [decide_eq_false]; intro h; subst h; simp at hc2
        have hall : ∀ x0, false = x0 → resAV [bl false] = resAV [bl x0] := by rintro _ rfl; rfl
        exact rE () [.tmp 4] rfl [bl false] ⟨.tmp rfl, trivial⟩ (hall _ hr0) trivial (by first | exact .inr rfl | exact .inl rfl)
      · try simp at hc2
        refine sk (eb (th (rg (bi rfl rfl (b_add (by unfold I64; omega)) (mv (nl ?_))))))
        have hN0 : (k + 1) ≤ xs.length := by
          first | omega | simp_all
        have hN1 : xs.take (k + 1) = ys.take (k + 1) := by
          rw [take_s (by omega), take_s (by omega), hI0]; try simp at hc2
          rw [hc2]
        exact ln (k + 1) ⟨hN0, hN1⟩ (by first | omega | (dsimp only; omega)) ⟨id, id, id, id, trivial⟩ trivial
    · try simp at hc1
      refine ex (xt_ (xt_ (xb (th (sq (rg (ag (nl (th (rt ?_))))))))))
      have hr0 : true = (decide (xs = ys)) := by
        rw [decide_eq_true]
        rw [show k = xs.length by omega, List.take_length] at hI0
        rw [hI0, show xs.length = ys.length by omega, List.take_length]
      have hall : ∀ x0, true = x0 → resAV [bl true] = resAV [bl x0] := by rintro _ rfl; rfl
      exact rE () [.tmp 4] rfl [bl true] ⟨.tmp rfl, trivial⟩ (hall _ hr0) trivial (by first | exact .inr rfl | exact .inl rfl)

theorem SameStrings_ok (xs ys : List ByteArray) :
    Fn0 Tryd.prog 43 [strs xs, strs ys] (bl (decide (xs = ys))) := by
  refine fnI Tryd.func43 rfl rfl (fun w0 F0 => ?_)
  refine fcC (slenI 0 rfl) (fun hm0 => ?_)
  refine fcC (slenI 1 rfl) (fun hm1 => ?_)
  refine sq (rg (ag (nl (th (sq (sq (rg (mv (lnF rfl T.sl22 (mv (lnF rfl T.sl22 (bi rfl rfl b_neq (nl (th ?_))))))))))))))
  refine cd rfl (fun hc0 => ?_) (fun hc0 => ?_)
  · try simp at hc0
    refine sq (rg (ag (nl (th (rt (rt_ ?_))))))
    have hr0 : false = (decide (xs = ys)) := by
      rw [decide_eq_false]; intro h; subst h; simp at hc0
    have hall : ∀ x0, false = x0 → resAV [bl false] = resAV [bl x0] := by rintro _ rfl; rfl
    exact rE () [.tmp 4] rfl [bl false] ⟨.tmp rfl, trivial⟩ (hall _ hr0) trivial (by first | exact .inr rfl | exact .inl rfl)
  · try simp at hc0
    refine sk (th (sq (sq (rg (mv (lnF rfl T.sl22 (mv (nl (th (bk ?_))))))))))
    have hI0_0 : 0 ≤ xs.length := by
      first | omega | simp
    have hI0_1 : xs.take 0 = ys.take 0 := by
      simp
    refine lp (κ := Nat) (fun p => [(1, sl 1 strE ys), (12, sl 1 strE xs), (13, int (xs.length : Int)), (14, int (p : Int))]) (fun p => []) (fun p => (p ≤ xs.length) ∧ (xs.take p = ys.take p)) (fun p => xs.length - p) 0 ⟨hI0_0, hI0_1⟩ ⟨id, id, id, id, trivial⟩ trivial ?_
    intro k hG0
    obtain ⟨hk0, hI0⟩ : (k ≤ xs.length) ∧ (xs.take k = ys.take k) := hG0
    refine sq (rg (bi rfl rfl b_lss (nl (th (sq ?_)))))
    refine cd rfl (fun hc1 => ?_) (fun hc1 => ?_)
    · try simp at hc1
      refine sk (th (sq (bk (sq (rg (mv (iF rfl rfl T.sl22 (by omega) (by first | exact gN (by omega) | exact gI (by omega) (by omega)) (lF rfl rfl T.one9 (ag (ag (nl (th (sq (rg (mv (mv (mv (iF rfl rfl T.sl22 (by omega) (by first | exact gN (by omega) | exact gI (by omega) (by omega)) (lF rfl rfl T.one9 (bi rfl rfl b_neqS (nl (th ?_))))))))))))))))))))))
      refine cd rfl (fun hc2 => ?_) (fun hc2 => ?_)
      · try simp at hc2
        refine sq (rg (ag (nl (th (rt (rb (rt_ (rt_ (rb (rt_ ?_))))))))))
        have hr0 : false = (decide (xs = ys)) := by
          rw [decide_eq_false]; intro h; subst h; simp at hc2
        have hall : ∀ x0, false = x0 → resAV [bl false] = resAV [bl x0] := by rintro _ rfl; rfl
        exact rE () [.tmp 4] rfl [bl false] ⟨.tmp rfl, trivial⟩ (hall _ hr0) trivial (by first | exact .inr rfl | exact .inl rfl)
      · try simp at hc2
        refine sk (eb (th (rg (bi rfl rfl (b_add (by unfold I64; omega)) (mv (nl ?_))))))
        have hN0 : (k + 1) ≤ xs.length := by
          first | omega | simp_all
        have hN1 : xs.take (k + 1) = ys.take (k + 1) := by
          rw [take_s (by omega), take_s (by omega), hI0]; try simp at hc2
          rw [hc2]
        exact ln (k + 1) ⟨hN0, hN1⟩ (by first | omega | (dsimp only; omega)) ⟨id, id, id, id, trivial⟩ trivial
    · try simp at hc1
      refine ex (xt_ (xt_ (xb (th (sq (rg (ag (nl (th (rt ?_))))))))))
      have hr0 : true = (decide (xs = ys)) := by
        rw [decide_eq_true]
        rw [show k = xs.length by omega, List.take_length] at hI0
        rw [hI0, show xs.length = ys.length by omega, List.take_length]
      have hall : ∀ x0, true = x0 → resAV [bl true] = resAV [bl x0] := by rintro _ rfl; rfl
      exact rE () [.tmp 4] rfl [bl true] ⟨.tmp rfl, trivial⟩ (hall _ hr0) trivial (by first | exact .inr rfl | exact .inl rfl)
end ref01
end Go.Proofs.YtolpjmllmlahfaaDoor
