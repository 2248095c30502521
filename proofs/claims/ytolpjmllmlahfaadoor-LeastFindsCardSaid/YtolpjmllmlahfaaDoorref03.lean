/- Walks of the functions of this claim, printed by a program of its own out of annotations. -/
import Derived.Test.YtolpjmllmlahfaaDoorref01
namespace Go.Proofs.YtolpjmllmlahfaaDoor
open AL Go
set_option maxRecDepth 100000
set_option linter.all false

open ref01
def wt (x : SState) : Nat := x.accept.length + x.next.length
def part (s : SSpec) (k : Nat) : Nat := s.actions.length + s.states.length + ((s.states.take k).map wt).sum
def size (s : SSpec) : Nat := part s s.states.length
def few (s : SSpec) (most : Int) : Bool := decide ((size s : Int) ≤ most)
theorem part_succ {s : SSpec} {k : Nat} (h : k < s.states.length) : part s (k + 1) = part s k + ((ix s.states k).accept.length + (ix s.states k).next.length) := by
  unfold part
  rw [take_s h, List.map_append, List.sum_append]
  simp [wt]; omega
theorem part_mono {s : SSpec} {k j : Nat} (h : k ≤ j) : part s k ≤ part s j := by
  induction j with
  | zero => have : k = 0 := by omega
            subst this; exact Nat.le_refl _
  | succ j ih =>
    by_cases e : k = j + 1
    · subst e; exact Nat.le_refl _
    · have := ih (by omega)
      by_cases hj : j < s.states.length
      · rw [part_succ hj]; omega
      · unfold part at *
        rw [List.take_of_length_le (show s.states.length ≤ j + 1 by omega)]
        rw [List.take_of_length_le (show s.states.length ≤ j by omega)] at this
        exact this
theorem size_bd (s : SSpec) : s.actions.length + s.states.length ≤ size s ∧ ∀ k, k < s.states.length → (ix s.states k).accept.length + (ix s.states k).next.length ≤ size s := by
  refine ⟨?_, fun k hk => ?_⟩
  · have := part_mono (s := s) (show 0 ≤ s.states.length by omega)
    unfold size
    unfold part at this ⊢
    simp at this ⊢
  · have h1 := part_succ (s := s) hk
    have h2 := part_mono (s := s) (show k + 1 ≤ s.states.length by omega)
    unfold size; omega
def setOK (x : SState) (n : Nat) (t : Int) : Bool := isSet (n : Int) t && (listOf n t).all fun a => decide (0 ≤ ix x.next a.toNat)
def stateOK (x : SState) (N : Int) (n : Nat) : Bool := decide ((x.next.length : Int) = (n : Int)) && rising x.accept && x.next.all (fun j => decide (-1 ≤ j) && decide (j < N)) && x.accept.all (setOK x n)
theorem isSet_bd {n : Nat} {t : Int} (hn : n ≤ 8) (h : isSet (n : Int) t = true) : 0 ≤ t ∧ t < 256 := by
  unfold isSet at h
  simp only [Bool.and_eq_true, decide_eq_true_eq, Int.toNat_natCast] at h
  have : 2 ^ n ≤ 2 ^ 8 := Nat.pow_le_pow_right (by omega) hn
  omega
theorem listOf_ix {n : Nat} {t : Int} {k : Nat} (h : k < (listOf n t).length) : 0 ≤ ix (listOf n t) k ∧ ix (listOf n t) k < (n : Int) := by
  have hm : ix (listOf n t) k ∈ listOf n t := by rw [ix_get h]; exact List.getElem_mem h
  unfold listOf at hm
  obtain ⟨a, ha, hk⟩ := List.mem_map.1 hm
  have := List.mem_range.1 (List.mem_filter.1 ha).1
  unfold listOf
  rw [← hk]; omega
def specOK (s : SSpec) : Bool := actionsOK s.actions && decide (1 ≤ s.states.length) && decide (s.states.length ≤ 500) && s.states.all fun x => stateOK x (s.states.length : Int) s.actions.length
theorem actionsOK_len {l : List ByteArray} (h : actionsOK l = true) : l.length ≤ 8 := by
  unfold actionsOK at h; simp at h; exact h.1
def isNone (s : SSpec) : Bool := decide (s.actions.length = 0) && decide (s.states.length = 0)
def nothing (l : List ByteArray) : SSpec := ⟨l, [⟨[], List.replicate l.length (-1)⟩]⟩

namespace ref03
namespace T
theorem fld25_0 : FieldAt Tryd.prog 25 0 0 := fieldAt_of (by kernel_rfl)
theorem one22 : IsOne Tryd.prog 22 := isOne_of (by kernel_rfl)
theorem sl22 : IsSlice Tryd.prog 22 9 1 := isSlice_of (by kernel_rfl)
theorem fld25_1 : FieldAt Tryd.prog 25 1 1 := fieldAt_of (by kernel_rfl)
theorem one23 : IsOne Tryd.prog 23 := isOne_of (by kernel_rfl)
theorem sl23 : IsSlice Tryd.prog 23 69 2 := isSlice_of (by kernel_rfl)
theorem mixed : Tryd.prog.follows .mixedOrders = true := by kernel_rfl
theorem fld69_0 : FieldAt Tryd.prog 69 0 0 := fieldAt_of (by kernel_rfl)
theorem one28 : IsOne Tryd.prog 28 := isOne_of (by kernel_rfl)
theorem sl28 : IsSlice Tryd.prog 28 3 1 := isSlice_of (by kernel_rfl)
theorem fld69_1 : FieldAt Tryd.prog 69 1 1 := fieldAt_of (by kernel_rfl)
theorem ent55 : Ent Tryd.prog 55 := ent_of (by kernel_rfl)
theorem one3 : IsOne Tryd.prog 3 := isOne_of (by kernel_rfl)
theorem ent56 : Ent Tryd.prog 56 := ent_of (by kernel_rfl)
theorem ent57 : Ent Tryd.prog 57 := ent_of (by kernel_rfl)
theorem ent32 : Ent Tryd.prog 32 := ent_of (by kernel_rfl)
theorem agg69 : IsAgg Tryd.prog 69 2 := isAgg_of (by kernel_rfl)
theorem z69 : ZeroIs Tryd.prog 69 [.slice none 0 0, .slice none 0 0] := zeroIs_of (by kernel_rfl)
theorem ent33 : Ent Tryd.prog 33 := ent_of (by kernel_rfl)
theorem ent43 : Ent Tryd.prog 43 := ent_of (by kernel_rfl)
theorem ent18 : Ent Tryd.prog 18 := ent_of (by kernel_rfl)
theorem z25 : ZeroIs Tryd.prog 25 [.slice none 0 0, .slice none 0 0] := zeroIs_of (by kernel_rfl)
theorem mk28 : MakeT Tryd.prog 28 3 1 8 [.int .i64 0] := makeT_of (by kernel_rfl) (by kernel_rfl)
theorem mk22 : MakeT Tryd.prog 22 9 1 16 [.string ⟨#[]⟩] := makeT_of (by kernel_rfl) (by kernel_rfl)
theorem mk23 : MakeT Tryd.prog 23 69 2 48 [.slice none 0 0, .slice none 0 0] := makeT_of (by kernel_rfl) (by kernel_rfl)
theorem st25 : StructT Tryd.prog 25 [(0, 1), (1, 1)] [.slice none 0 0, .slice none 0 0] := structT_of (by kernel_rfl) (by kernel_rfl)
theorem agg25 : IsAgg Tryd.prog 25 2 := isAgg_of (by kernel_rfl)
theorem st69 : StructT Tryd.prog 69 [(0, 1), (1, 1)] [.slice none 0 0, .slice none 0 0] := structT_of (by kernel_rfl) (by kernel_rfl)
end T

theorem Few_ok (s : SSpec) (most : Int) (hm : most ≤ 1000000) :
    Fn0 Tryd.prog 30 [spec s, int most] (bl (few s most)) := by
  refine fnI Tryd.func30 rfl rfl (fun w0 F0 => ?_)
  refine fcC (inhS 0 rfl) (fun hS0 => ?_)
  obtain ⟨hsa0, hss0, hse0⟩ := spec_lens hS0
  refine sq (rg (bx (key := 2) (cs := [sl 1 strE s.actions, sl 2 stateE s.states]) rfl fun b2 => (ag (nl (th (sq (rg (fP rfl T.fld25_0 (lP rfl rfl rfl T.one22 (fc (slenI 8 rfl) fun hm8 => (lnF rfl T.sl22 (fP rfl T.fld25_1 (lP rfl rfl rfl T.one23 (fc (slenI 11 rfl) fun hm11 => (lnF rfl T.sl23 (bi rfl rfl (b_add (by unfold I64; omega)) (ag (nl (th (sq (sq (rg (ag (nl (th (bk ?_))))))))))))))))))))))))))
  have hI0_0 : 0 ≤ s.states.length ∧ ((s.actions.length + s.states.length : Nat) : Int) = (part s 0 : Int) := by
    refine ⟨by omega, ?_⟩
    unfold part; simp
  refine lp (κ := Nat × Int) (fun p => [(1, int most), (2, ptr 2 b2 0), (4, bl false), (5, int p.2), (6, int (p.1 : Int))]) (fun p => [(2, cell b2 [sl 1 strE s.actions, sl 2 stateE s.states])]) (fun p => p.1 ≤ s.states.length ∧ p.2 = (part s p.1 : Int)) (fun p => s.states.length - p.1) ⟨0, ((s.actions.length + s.states.length : Nat) : Int)⟩ hI0_0 ⟨id, id, id, id, id, trivial⟩ ⟨⟨rfl, id⟩, trivial⟩ ?_
  intro ⟨k, n⟩ hG0
  have hI0 : k ≤ s.states.length ∧ n = (part s k : Int) := hG0
  show Ct _ _ _ _ [(1, int most), (2, ptr 2 b2 0), (4, bl false), (5, int n), (6, int (k : Int))] [(2, cell b2 [sl 1 strE s.actions, sl 2 stateE s.states])] _
  refine sq (sq (rg (mv (fP rfl T.fld25_1 (lP rfl rfl rfl T.one23 (lnF rfl T.sl23 (bi rfl rfl b_lss (mv ?_))))))))
  apply gAnd (t := 19) (pd := 23) rfl
  rotate_left
  · intro hg0 fin
    have hg0' := hg0
    try simp at hg0'
    exact gy rfl rfl rfl hg0 (mv (gy rfl rfl rfl hg0 (mv (gy rfl rfl rfl hg0 (bi rfl rfl b_leq (pkT rfl hg0 rfl (drp (X := [(22, _), (21, _), (20, _)]) ⟨rfl, rfl, rfl, trivial⟩ (fin))))))))
  · intro hg0 fin
    exact gn rfl rfl rfl hg0 rfl rfl (gn rfl rfl rfl hg0 rfl rfl (gn rfl rfl rfl hg0 rfl rfl (pkF rfl hg0 rfl (drp (X := [(22, _), (21, _), (20, _)]) ⟨rfl, rfl, rfl, trivial⟩ (fin)))))
  refine nl (th ?_)
  refine cd rfl (fun hc0 => ?_) (fun hc0 => ?_)
  · try simp at hc0
    have hl := hse0 k (by omega)
    refine sk (th (sq (bk (dr (nh := 18) [0, 0, 2, 0, 14, 30, 62, 126, 0, 256, 0, 1792, 3840, 7936, 16128, 32766, 65535, 131071] T.mixed (by kernel_rfl) ?_))))
    refine st_ rfl (fun _ _ _ gq kq => mv' (gq.1.trans rfl) kq) ?_
    refine st_ rfl (fun _ _ _ gq kq => fP (gq.1.trans rfl) T.fld25_1 kq) ?_
    refine st_ rfl (fun _ _ _ gq kq => lP (gq.1.trans rfl) rfl rfl T.one23 kq) ?_
    refine st_ rfl (fun _ _ _ gq kq => mv' (gq.1.trans rfl) kq) ?_
    refine st_ rfl (fun _ _ _ gq kq => iF (gq.1.trans rfl) (gq.2.1.trans rfl) T.sl23 (by omega) (by first | exact gN (by omega) | exact gI (by omega) (by omega)) kq) ?_
    refine st_ rfl (fun _ _ _ gq kq => fF (gq.1.trans rfl) T.fld69_0 kq) ?_
    refine st_ rfl (fun _ _ _ gq kq => lF (gq.1.trans rfl) rfl T.one28 kq) ?_
    refine st_ rfl (fun _ _ _ gq kq => lnF (gq.1.trans rfl) T.sl28 kq) ?_
    refine st_ rfl (fun _ _ _ gq kq => fP (gq.1.trans rfl) T.fld25_1 kq) ?_
    refine st_ rfl (fun _ _ _ gq kq => lP (gq.1.trans rfl) rfl rfl T.one23 kq) ?_
    refine st_ rfl (fun _ _ _ gq kq => mv' (gq.1.trans rfl) kq) ?_
    refine st_ rfl (fun _ _ _ gq kq => iF (gq.1.trans rfl) (gq.2.1.trans rfl) T.sl23 (by omega) (by first | exact gN (by omega) | exact gI (by omega) (by omega)) kq) ?_
    refine st_ rfl (fun _ _ _ gq kq => fF (gq.1.trans rfl) T.fld69_1 kq) ?_
    refine st_ rfl (fun _ _ _ gq kq => lF (gq.1.trans rfl) rfl T.one28 kq) ?_
    refine st_ rfl (fun _ _ _ gq kq => lnF (gq.1.trans rfl) T.sl28 kq) ?_
    refine st_ rfl (fun _ _ _ gq kq => bi (gq.1.trans rfl) (gq.2.1.trans rfl) (b_add (by unfold I64; omega)) kq) ?_
    refine st_ rfl (fun _ _ _ gq kq => bi (gq.1.trans rfl) (gq.2.1.trans rfl) (b_add (by unfold I64; omega)) kq) ?_
    refine st_ rfl (fun _ _ _ gq kq => ag' (gq.1.trans rfl) kq) ?_
    refine pn (nl (eb (th (rg (mv (bi rfl rfl (b_add (by unfold I64; omega)) (ag (nl ?_))))))))
    have hN0 : (k + 1) ≤ s.states.length ∧ (n + (((((ix s.states k).accept).length) + (((ix s.states k).next).length) : Nat) : Int)) = (part s (k + 1) : Int) := by
      have h := part_succ (s := s) (k := k) (by omega)
      refine ⟨by omega, ?_⟩
      rw [h]; omega
    exact ln (⟨k + 1, n + (((((ix s.states k).accept).length) + (((ix s.states k).next).length) : Nat) : Int)⟩ : Nat × Int) hN0 (by first | omega | (dsimp only; omega)) ⟨id, id, id, id, id, trivial⟩ ⟨⟨rfl, id⟩, trivial⟩
  · try simp at hc0
    refine ex (xt_ (xt_ (xb (th (sq (rg (mv (mv (bi rfl rfl b_leq (ag (nl (th (rt ?_)))))))))))))
    have hr0 : (decide (n ≤ most)) = (few s most) := by
      unfold few size
      have h1 := part_mono (s := s) hI0.1
      by_cases h2 : k < s.states.length
      · rw [decide_eq_false (by omega), decide_eq_false (by omega)]
      · rw [hI0.2, show k = s.states.length by omega]
    have hall : ∀ x0, (decide (n ≤ most)) = x0 → resAV [bl (decide (n ≤ most))] = resAV [bl x0] := by rintro _ rfl; rfl
    exact rE () [.tmp 4] rfl [bl (decide (n ≤ most))] ⟨.tmp rfl, trivial⟩ (hall _ hr0) trivial (by first | exact .inr rfl | exact .inl rfl)

theorem state_ok (x : SState) (N : Int) (n : Nat) (hn : n ≤ 8) :
    Fn0 Tryd.prog 33 [state x, int N, int (n : Int)] (bl (stateOK x N n)) := by
  refine fnI Tryd.func33 rfl rfl (fun w0 F0 => ?_)
  refine fcC (inhS 0 rfl) (fun hS0 => ?_)
  obtain ⟨hxa0, hxn0⟩ := state_lens hS0
  refine sq (rg (bx (key := 3) (cs := [sl 1 intE x.accept, sl 1 intE x.next]) rfl fun b3 => (ag (nl (th (sq (sq (rg (fP rfl T.fld69_1 (lP rfl rfl rfl T.one28 (fc (slenI 14 rfl) fun hm14 => (lnF rfl T.sl28 (mv (bi rfl rfl b_neq (mv ?_)))))))))))))))
  apply gOr (t := 18) (pd := 23) rfl
  rotate_left
  · intro hg0 fin
    have hg0' := hg0
    try simp at hg0'
    exact gy rfl rfl rfl hg0 (fP rfl T.fld69_0 (gy rfl rfl rfl hg0 (lP rfl rfl rfl T.one28 (gy rfl rfl rfl hg0 (cal0 (φs := [sl 1 intE x.accept]) (φ := bl (rising x.accept)) ⟨rfl, trivial⟩ (ref01.Rising_ok _) T.ent55 (gy rfl rfl rfl hg0 (no rfl (pkF rfl hg0 rfl (drp (X := [(22, _), (21, _), (20, _), (19, _)]) ⟨rfl, rfl, rfl, rfl, trivial⟩ (fin))))))))))
  · intro hg0 fin
    exact gn rfl rfl rfl hg0 rfl rfl (gn rfl rfl rfl hg0 rfl rfl (gn rfl rfl rfl hg0 rfl rfl (gn rfl rfl rfl hg0 rfl rfl (pkT rfl hg0 rfl (drp (X := [(22, _), (21, _), (20, _), (19, _)]) ⟨rfl, rfl, rfl, rfl, trivial⟩ (fin))))))
  refine nl (th ?_)
  refine cd rfl (fun hc0 => ?_) (fun hc0 => ?_)
  · try simp at hc0
    refine sq (rg (ag (nl (th (rt (rt_ ?_))))))
    have hr0 : false = (stateOK x N n) := by
      unfold stateOK
      by_cases h : rising x.accept = true
      · simp [h] at hc0
        rw [decide_eq_false (by omega)]; rfl
      · simp [h]
    have hall : ∀ x0, false = x0 → resAV [bl false] = resAV [bl x0] := by rintro _ rfl; rfl
    exact rE () [.tmp 6] rfl [bl false] ⟨.tmp rfl, trivial⟩ (hall _ hr0) trivial (by first | exact .inr rfl | exact .inl rfl)
  · try simp at hc0
    refine sk (th (sq (sq (rg (fP rfl T.fld69_1 (lP rfl rfl rfl T.one28 (lnF rfl T.sl28 (mv (nl (th (bk ?_)))))))))))
    have hI0_0 : 0 ≤ x.next.length := by
      first | omega | simp
    have hI0_1 : (x.next.take 0).all (fun j => decide (-1 ≤ j) && decide (j < N)) = true := by
      simp
    refine lp (κ := Nat) (fun p => [(1, int N), (2, int (n : Int)), (3, ptr 3 b3 0), (25, sl 1 intE x.next), (26, int (x.next.length : Int)), (27, int (p : Int))]) (fun p => [(3, cell b3 [sl 1 intE x.accept, sl 1 intE x.next])]) (fun p => (p ≤ x.next.length) ∧ ((x.next.take p).all (fun j => decide (-1 ≤ j) && decide (j < N)) = true)) (fun p => x.next.length - p) 0 ⟨hI0_0, hI0_1⟩ ⟨id, id, id, id, id, id, trivial⟩ ⟨⟨rfl, id⟩, trivial⟩ ?_
    intro k hG0
    obtain ⟨hk0, hI0⟩ : (k ≤ x.next.length) ∧ ((x.next.take k).all (fun j => decide (-1 ≤ j) && decide (j < N)) = true) := hG0
    refine sq (rg (bi rfl rfl b_lss (nl (th (sq ?_)))))
    refine cd rfl (fun hc1 => ?_) (fun hc1 => ?_)
    · try simp at hc1
      refine sk (th (sq (bk (sq (rg (iF rfl rfl T.sl28 (by omega) (by first | exact gN (by omega) | exact gI (by omega) (by omega)) (lF rfl rfl T.one3 (ag (nl (th (sq (rg (mv (bi rfl rfl b_lss (mv ?_)))))))))))))))
      apply gOr (t := 33) (pd := 37) rfl
      rotate_left
      · intro hg1 fin
        have hg1' := hg1
        try simp at hg1'
        exact gy rfl rfl rfl hg1 (mv (gy rfl rfl rfl hg1 (mv (gy rfl rfl rfl hg1 (bi rfl rfl b_geq (pkF rfl hg1 rfl (drp (X := [(36, _), (35, _), (34, _)]) ⟨rfl, rfl, rfl, trivial⟩ (fin))))))))
      · intro hg1 fin
        exact gn rfl rfl rfl hg1 rfl rfl (gn rfl rfl rfl hg1 rfl rfl (gn rfl rfl rfl hg1 rfl rfl (pkT rfl hg1 rfl (drp (X := [(36, _), (35, _), (34, _)]) ⟨rfl, rfl, rfl, trivial⟩ (fin)))))
      refine nl (th ?_)
      refine cd rfl (fun hc2 => ?_) (fun hc2 => ?_)
      · try simp at hc2
        refine sq (rg (ag (nl (th (rt (rb (rt_ (rt_ (rb (rt_ ?_))))))))))
        have hr0 : false = (stateOK x N n) := by
          unfold stateOK
          rw [all_fail (xs := x.next) (k := k) (by omega) (by simp; omega)]; simp
        have hall : ∀ x0, false = x0 → resAV [bl false] = resAV [bl x0] := by rintro _ rfl; rfl
        exact rE () [.tmp 6] rfl [bl false] ⟨.tmp rfl, trivial⟩ (hall _ hr0) trivial (by first | exact .inr rfl | exact .inl rfl)
      · try simp at hc2
        refine sk (eb (th (rg (bi rfl rfl (b_add (by unfold I64; omega)) (mv (nl ?_))))))
        have hN0 : (k + 1) ≤ x.next.length := by
          first | omega | simp_all
        have hN1 : (x.next.take (k + 1)).all (fun j => decide (-1 ≤ j) && decide (j < N)) = true := by
          rw [all_take_succ (by omega), hI0]
          simp
          omega
        exact ln (k + 1) ⟨hN0, hN1⟩ (by first | omega | (dsimp only; omega)) ⟨id, id, id, id, id, id, trivial⟩ ⟨⟨rfl, id⟩, trivial⟩
    · try simp at hc1
      refine ex (xt_ (xt_ (xb (th (sq (sq (rg (fP rfl T.fld69_0 (lP rfl rfl rfl T.one28 (fc (slenI 40 rfl) fun hm40 => (lnF rfl T.sl28 (mv (nl (th (bk ?_)))))))))))))))
      have hI1_0 : 0 ≤ x.accept.length := by
        first | omega | simp
      have hI1_1 : (x.accept.take 0).all (setOK x n) = true := by
        simp
      refine lp (κ := Nat) (fun p => [(2, int (n : Int)), (3, ptr 3 b3 0), (40, sl 1 intE x.accept), (41, int (x.accept.length : Int)), (42, int (p : Int))]) (fun p => [(3, cell b3 [sl 1 intE x.accept, sl 1 intE x.next])]) (fun p => (p ≤ x.accept.length) ∧ ((x.accept.take p).all (setOK x n) = true)) (fun p => x.accept.length - p) 0 ⟨hI1_0, hI1_1⟩ ⟨id, id, id, id, id, trivial⟩ ⟨⟨rfl, id⟩, trivial⟩ ?_
      intro k1 hG1
      obtain ⟨hk1, hI1⟩ : (k1 ≤ x.accept.length) ∧ ((x.accept.take k1).all (setOK x n) = true) := hG1
      refine sq (rg (bi rfl rfl b_lss (nl (th (sq ?_)))))
      refine cd rfl (fun hc3 => ?_) (fun hc3 => ?_)
      · try simp at hc3
        refine sk (th (sq (bk (sq (rg (iF rfl rfl T.sl28 (by omega) (by first | exact gN (by omega) | exact gI (by omega) (by omega)) (lF rfl rfl T.one3 (ag (nl (th (sq (sq (rg (mv (mv (cal0 (φs := [int (n : Int), int (ix x.accept k1)]) (φ := bl (isSet (n : Int) (ix x.accept k1))) ⟨rfl, rfl, trivial⟩ (ref01.Set_ok _ _ (by omega) (by omega)) T.ent56 (no rfl (nl (th ?_)))))))))))))))))))
        refine cd rfl (fun hc4 => ?_) (fun hc4 => ?_)
        · try simp at hc4
          refine sq (rg (ag (nl (th (rt (rt_ (rb (rt_ (rt_ (rb (rt_ ?_)))))))))))
          have hr0 : false = (stateOK x N n) := by
            unfold stateOK
            rw [all_fail (xs := x.accept) (k := k1) (by omega) (by simp [setOK, hc4])]; simp
          have hall : ∀ x0, false = x0 → resAV [bl false] = resAV [bl x0] := by rintro _ rfl; rfl
          exact rE () [.tmp 6] rfl [bl false] ⟨.tmp rfl, trivial⟩ (hall _ hr0) trivial (by first | exact .inr rfl | exact .inl rfl)
        · try simp at hc4
          have hset := isSet_bd (by omega) hc4
          refine sk (th (sq (rg (mv (mv (cal0 (φs := [int (n : Int), int (ix x.accept k1)]) (φ := sl 1 intE (listOf n (ix x.accept k1))) ⟨rfl, rfl, trivial⟩ (ref01.List_ok n _ (by omega) (by omega) (by omega)) T.ent57 (fc (slenI 52 rfl) fun hm52 => (lnF rfl T.sl28 (mv (nl (th (bk ?_))))))))))))
          have hI2_0 : 0 ≤ (listOf n (ix x.accept k1)).length := by
            first | omega | simp
          have hI2_1 : ((listOf n (ix x.accept k1)).take 0).all (fun a => decide (0 ≤ ix x.next a.toNat)) = true := by
            simp
          refine lp (κ := Nat) (fun p => [(2, int (n : Int)), (3, ptr 3 b3 0), (40, sl 1 intE x.accept), (41, int (x.accept.length : Int)), (42, int (k1 : Int)), (52, sl 1 intE (listOf n (ix x.accept k1))), (53, int ((listOf n (ix x.accept k1)).length : Int)), (54, int (p : Int))]) (fun p => [(3, cell b3 [sl 1 intE x.accept, sl 1 intE x.next])]) (fun p => (p ≤ (listOf n (ix x.accept k1)).length) ∧ (((listOf n (ix x.accept k1)).take p).all (fun a => decide (0 ≤ ix x.next a.toNat)) = true)) (fun p => (listOf n (ix x.accept k1)).length - p) 0 ⟨hI2_0, hI2_1⟩ ⟨id, id, id, id, id, id, id, id, trivial⟩ ⟨⟨rfl, id⟩, trivial⟩ ?_
          intro k2 hG2
          obtain ⟨hk2, hI2⟩ : (k2 ≤ (listOf n (ix x.accept k1)).length) ∧ (((listOf n (ix x.accept k1)).take k2).all (fun a => decide (0 ≤ ix x.next a.toNat)) = true) := hG2
          refine sq (rg (bi rfl rfl b_lss (nl (th (sq ?_)))))
          refine cd rfl (fun hc5 => ?_) (fun hc5 => ?_)
          · try simp at hc5
            have hb := listOf_ix (n := n) (t := ix x.accept k1) (k := k2) (by omega)
            refine sk (th (sq (bk (sq (rg (iF rfl rfl T.sl28 (by omega) (by first | exact gN (by omega) | exact gI (by omega) (by omega)) (lF rfl rfl T.one3 (ag (nl (th (sq (rg (fP rfl T.fld69_1 (lP rfl rfl rfl T.one28 (mv (iF rfl rfl T.sl28 (by omega) (by first | exact gN (by omega) | exact gI (by omega) (by omega)) (lF rfl rfl T.one3 (bi rfl rfl b_lss (nl (th ?_))))))))))))))))))))
            refine cd rfl (fun hc6 => ?_) (fun hc6 => ?_)
            · try simp at hc6
              refine sq (rg (ag (nl (th (rt (rb (rt_ (rt_ (rb (rb (rt_ (rt_ (rb (rt_ ?_))))))))))))))
              have hr0 : false = (stateOK x N n) := by
                unfold stateOK
                rw [all_fail (xs := x.accept) (k := k1) (by omega) ?_]; simp
                unfold setOK
                rw [all_fail (xs := listOf n (ix x.accept k1)) (k := k2) (by omega) (by simpa using hc6)]; simp
              have hall : ∀ x0, false = x0 → resAV [bl false] = resAV [bl x0] := by rintro _ rfl; rfl
              exact rE () [.tmp 6] rfl [bl false] ⟨.tmp rfl, trivial⟩ (hall _ hr0) trivial (by first | exact .inr rfl | exact .inl rfl)
            · try simp at hc6
              refine sk (eb (th (rg (bi rfl rfl (b_add (by unfold I64; omega)) (mv (nl ?_))))))
              have hN0 : (k2 + 1) ≤ (listOf n (ix x.accept k1)).length := by
                first | omega | simp_all
              have hN1 : ((listOf n (ix x.accept k1)).take (k2 + 1)).all (fun a => decide (0 ≤ ix x.next a.toNat)) = true := by
                rw [all_take_succ (by omega), hI2]
                simpa using hc6
              exact ln (k2 + 1) ⟨hN0, hN1⟩ (by first | omega | (dsimp only; omega)) ⟨id, id, id, id, id, id, id, id, trivial⟩ ⟨⟨rfl, id⟩, trivial⟩
          · try simp at hc5
            refine ex (xt_ (xt_ (xb (eb (th (rg (bi rfl rfl (b_add (by unfold I64; omega)) (mv (nl ?_)))))))))
            have hN0 : (k1 + 1) ≤ x.accept.length := by
              first | omega | simp_all
            have hN1 : (x.accept.take (k1 + 1)).all (setOK x n) = true := by
              rw [all_take_succ (by omega), hI1]
              unfold setOK
              rw [hc4]
              rw [show k2 = (listOf n (ix x.accept k1)).length by omega, List.take_length] at hI2
              rw [hI2]; rfl
            exact ln (k1 + 1) ⟨hN0, hN1⟩ (by first | omega | (dsimp only; omega)) ⟨id, id, id, id, id, trivial⟩ ⟨⟨rfl, id⟩, trivial⟩
      · try simp at hc3
        refine ex (xt_ (xt_ (xb (th (sq (rg (ag (nl (th (rt ?_))))))))))
        have hr0 : true = (stateOK x N n) := by
          unfold stateOK
          rw [show k = x.next.length by omega, List.take_length] at hI0
          rw [show k1 = x.accept.length by omega, List.take_length] at hI1
          rw [hI0, hI1]
          simp [hc0]
        have hall : ∀ x0, true = x0 → resAV [bl true] = resAV [bl x0] := by rintro _ rfl; rfl
        exact rE () [.tmp 6] rfl [bl true] ⟨.tmp rfl, trivial⟩ (hall _ hr0) trivial (by first | exact .inr rfl | exact .inl rfl)

theorem Is_ok (s : SSpec) :
    Fn0 Tryd.prog 10 [spec s] (bl (specOK s)) := by
  refine fnI Tryd.func10 rfl rfl (fun w0 F0 => ?_)
  refine fcC (inhS 0 rfl) (fun hS0 => ?_)
  obtain ⟨hsa0, hss0, hse0⟩ := spec_lens hS0
  refine sq (rg (bx (key := 1) (cs := [sl 1 strE s.actions, sl 2 stateE s.states]) rfl fun b1 => (ag (nl (th (sq (sq (rg (fP rfl T.fld25_0 (lP rfl rfl rfl T.one22 (cal0 (φs := [sl 1 strE s.actions]) (φ := bl (actionsOK s.actions)) ⟨rfl, trivial⟩ (ref01.Is_ok _) T.ent32 (no rfl (mv ?_)))))))))))))
  apply gOr (t := 9) (pd := 14) rfl
  rotate_left
  · intro hg0 fin
    have hg0' := hg0
    try simp at hg0'
    exact gy rfl rfl rfl hg0 (fP rfl T.fld25_1 (gy rfl rfl rfl hg0 (lP rfl rfl rfl T.one23 (gy rfl rfl rfl hg0 (fc (slenI 11 rfl) fun hm11 => (lnF rfl T.sl23 (gy rfl rfl rfl hg0 (bi rfl rfl b_lss (pkF rfl hg0 rfl (drp (X := [(13, _), (12, _), (11, _), (10, _)]) ⟨rfl, rfl, rfl, rfl, trivial⟩ (fin)))))))))))
  · intro hg0 fin
    exact gn rfl rfl rfl hg0 rfl rfl (gn rfl rfl rfl hg0 rfl rfl (gn rfl rfl rfl hg0 rfl rfl (gn rfl rfl rfl hg0 rfl rfl (pkT rfl hg0 rfl (drp (X := [(13, _), (12, _), (11, _), (10, _)]) ⟨rfl, rfl, rfl, rfl, trivial⟩ (fin))))))
  refine mv ?_
  apply gOr (t := 15) (pd := 20) rfl
  rotate_left
  · intro hg1 fin
    have hg1' := hg1
    try simp at hg1'
    exact gy rfl rfl rfl hg1 (fP rfl T.fld25_1 (gy rfl rfl rfl hg1 (lP rfl rfl rfl T.one23 (gy rfl rfl rfl hg1 (fc (slenI 17 rfl) fun hm17 => (lnF rfl T.sl23 (gy rfl rfl rfl hg1 (bi rfl rfl b_gtr (pkF rfl hg1 rfl (drp (X := [(19, _), (18, _), (17, _), (16, _)]) ⟨rfl, rfl, rfl, rfl, trivial⟩ (fin)))))))))))
  · intro hg1 fin
    exact gn rfl rfl rfl hg1 rfl rfl (gn rfl rfl rfl hg1 rfl rfl (gn rfl rfl rfl hg1 rfl rfl (gn rfl rfl rfl hg1 rfl rfl (pkT rfl hg1 rfl (drp (X := [(19, _), (18, _), (17, _), (16, _)]) ⟨rfl, rfl, rfl, rfl, trivial⟩ (fin))))))
  refine nl (th ?_)
  refine cd rfl (fun hc0 => ?_) (fun hc0 => ?_)
  · try simp at hc0
    refine sq (rg (ag (nl (th (rt (rt_ ?_))))))
    have hr0 : false = (specOK s) := by
      unfold specOK
      by_cases h : actionsOK s.actions = true
      · simp [h] at hc0 ⊢
        omega
      · simp [h]
    have hall : ∀ x0, false = x0 → resAV [bl false] = resAV [bl x0] := by rintro _ rfl; rfl
    exact rE () [.tmp 2] rfl [bl false] ⟨.tmp rfl, trivial⟩ (hall _ hr0) trivial (by first | exact .inr rfl | exact .inl rfl)
  · try simp at hc0
    have hact := actionsOK_len (l := s.actions) (by simp_all)
    refine sk (th (sq (sq (rg (fP rfl T.fld25_1 (lP rfl rfl rfl T.one23 (fc (slenI 22 rfl) fun hm22 => (lnF rfl T.sl23 (mv (nl (th (bk ?_))))))))))))
    have hI0_0 : 0 ≤ s.states.length := by
      first | omega | simp
    have hI0_1 : (s.states.take 0).all (fun x => stateOK x (s.states.length : Int) s.actions.length) = true := by
      simp
    refine lp (κ := Nat) (fun p => [(1, ptr 1 b1 0), (22, sl 2 stateE s.states), (23, int (s.states.length : Int)), (24, int (p : Int))]) (fun p => [(1, cell b1 [sl 1 strE s.actions, sl 2 stateE s.states])]) (fun p => (p ≤ s.states.length) ∧ ((s.states.take p).all (fun x => stateOK x (s.states.length : Int) s.actions.length) = true)) (fun p => s.states.length - p) 0 ⟨hI0_0, hI0_1⟩ ⟨id, id, id, id, trivial⟩ ⟨⟨rfl, id⟩, trivial⟩ ?_
    intro k hG0
    obtain ⟨hk0, hI0⟩ : (k ≤ s.states.length) ∧ ((s.states.take k).all (fun x => stateOK x (s.states.length : Int) s.actions.length) = true) := hG0
    refine sq (rg (bi rfl rfl b_lss (nl (th (sq ?_)))))
    refine cd rfl (fun hc1 => ?_) (fun hc1 => ?_)
    · try simp at hc1
      refine sk (th (sq (bk (sq (rg (iF rfl rfl T.sl23 (by omega) (by first | exact gN (by omega) | exact gI (by omega) (by omega)) (lFA rfl T.agg69 (Nat.le_of_ble_eq_true rfl) (al (key := 4) T.z69 (ex_cons (ex_cons (ex_nil))) fun b4 => (sPA (cs' := [sl 1 intE ((ix s.states k).accept), sl 1 intE ((ix s.states k).next)]) rfl rfl rfl T.agg69 rfl rfl (nl (th (sq (rg (lPA rfl rfl T.agg69 rfl (fP rfl T.fld25_1 (lP rfl rfl rfl T.one23 (lnF rfl T.sl23 (fP rfl T.fld25_0 (lP rfl rfl rfl T.one22 (fc (slenI 33 rfl) fun hm33 => (lnF rfl T.sl22 (cal0 (φs := [agg [sl 1 intE ((ix s.states k).accept), sl 1 intE ((ix s.states k).next)], int (s.states.length : Int), int (s.actions.length : Int)]) (φ := bl (stateOK (ix s.states k) (s.states.length : Int) s.actions.length)) ⟨rfl, rfl, rfl, trivial⟩ (ref03.state_ok (ix s.states k) _ s.actions.length (by omega)) T.ent33 (no rfl (nl (th ?_)))))))))))))))))))))))))
      refine cd rfl (fun hc2 => ?_) (fun hc2 => ?_)
      · try simp at hc2
        refine sq (rg (ag (nl (th (rt (rb (rt_ (rt_ (rb (rt_ ?_))))))))))
        have hr0 : false = (specOK s) := by
          unfold specOK
          rw [all_fail (xs := s.states) (k := k) (by omega) (by simpa using hc2)]; simp
        have hall : ∀ x0, false = x0 → resAV [bl false] = resAV [bl x0] := by rintro _ rfl; rfl
        exact rE () [.tmp 2] rfl [bl false] ⟨.tmp rfl, trivial⟩ (hall _ hr0) trivial (by first | exact .inr rfl | exact .inl rfl)
      · try simp at hc2
        refine sk (eb (th (rg (bi rfl rfl (b_add (by unfold I64; omega)) (mv (nl ?_))))))
        have hN0 : (k + 1) ≤ s.states.length := by
          first | omega | simp_all
        have hN1 : (s.states.take (k + 1)).all (fun x => stateOK x (s.states.length : Int) s.actions.length) = true := by
          rw [all_take_succ (by omega), hI0]
          simpa using hc2
        exact ln (k + 1) ⟨hN0, hN1⟩ (by first | omega | (dsimp only; omega)) ⟨id, id, id, id, trivial⟩ ⟨⟨rfl, id⟩, trivial⟩
    · try simp at hc1
      refine ex (xt_ (xt_ (xb (th (sq (rg (ag (nl (th (rt ?_))))))))))
      have hr0 : true = (specOK s) := by
        unfold specOK
        rw [show k = s.states.length by omega, List.take_length] at hI0
        rw [hI0]
        simp [hc0]; omega
      have hall : ∀ x0, true = x0 → resAV [bl true] = resAV [bl x0] := by rintro _ rfl; rfl
      exact rE () [.tmp 2] rfl [bl true] ⟨.tmp rfl, trivial⟩ (hall _ hr0) trivial (by first | exact .inr rfl | exact .inl rfl)

theorem None_ok (s : SSpec) :
    Fn0 Tryd.prog 17 [spec s] (bl (isNone s)) := by
  refine fnI Tryd.func17 rfl rfl (fun w0 F0 => ?_)
  refine fcC (inhS 0 rfl) (fun hS0 => ?_)
  obtain ⟨hsa0, hss0, hse0⟩ := spec_lens hS0
  refine sq (rg (bx (key := 1) (cs := [sl 1 strE s.actions, sl 2 stateE s.states]) rfl fun b1 => (ag (nl (th (sq (rg (fP rfl T.fld25_0 (lP rfl rfl rfl T.one22 (fc (slenI 4 rfl) fun hm4 => (lnF rfl T.sl22 (bi rfl rfl b_eql (mv ?_)))))))))))))
  apply gAnd (t := 7) (pd := 12) rfl
  rotate_left
  · intro hg0 fin
    have hg0' := hg0
    try simp at hg0'
    exact gy rfl rfl rfl hg0 (fP rfl T.fld25_1 (gy rfl rfl rfl hg0 (lP rfl rfl rfl T.one23 (gy rfl rfl rfl hg0 (fc (slenI 9 rfl) fun hm9 => (lnF rfl T.sl23 (gy rfl rfl rfl hg0 (bi rfl rfl b_eql (pkT rfl hg0 rfl (drp (X := [(11, _), (10, _), (9, _), (8, _)]) ⟨rfl, rfl, rfl, rfl, trivial⟩ (fin)))))))))))
  · intro hg0 fin
    exact gn rfl rfl rfl hg0 rfl rfl (gn rfl rfl rfl hg0 rfl rfl (gn rfl rfl rfl hg0 rfl rfl (gn rfl rfl rfl hg0 rfl rfl (pkF rfl hg0 rfl (drp (X := [(11, _), (10, _), (9, _), (8, _)]) ⟨rfl, rfl, rfl, rfl, trivial⟩ (fin))))))
  refine ag (nl (th (rt ?_)))
  have hr0 : ((decide ((s.actions.length : Int) = 0)) && (decide ((s.states.length : Int) = 0))) = (isNone s) := by
    unfold isNone; simp
  have hall : ∀ x0, ((decide ((s.actions.length : Int) = 0)) && (decide ((s.states.length : Int) = 0))) = x0 → resAV [bl ((decide ((s.actions.length : Int) = 0)) && (decide ((s.states.length : Int) = 0)))] = resAV [bl x0] := by rintro _ rfl; rfl
  exact rE () [.tmp 2] rfl [bl ((decide ((s.actions.length : Int) = 0)) && (decide ((s.states.length : Int) = 0)))] ⟨.tmp rfl, trivial⟩ (hall _ hr0) trivial (by first | exact .inr rfl | exact .inl rfl)

theorem Same_ok (s t : SSpec) :
    Fn0 Tryd.prog 19 [spec s, spec t] (bl (decide (s = t))) := by
  refine fnI Tryd.func19 rfl rfl (fun w0 F0 => ?_)
  refine fcC (inhS 0 rfl) (fun hS0 => ?_)
  obtain ⟨hsa0, hss0, hse0⟩ := spec_lens hS0
  refine fcC (inhS 1 rfl) (fun hS1 => ?_)
  obtain ⟨hsa1, hss1, hse1⟩ := spec_lens hS1
  refine sq (rg (bx (key := 2) (cs := [sl 1 strE s.actions, sl 2 stateE s.states]) rfl fun b2 => (bx (key := 3) (cs := [sl 1 strE t.actions, sl 2 stateE t.states]) rfl fun b3 => (ag (nl (th (sq (sq (rg (fP rfl T.fld25_0 (lP rfl rfl rfl T.one22 (fP rfl T.fld25_0 (lP rfl rfl rfl T.one22 (cal0 (φs := [sl 1 strE s.actions, sl 1 strE t.actions]) (φ := bl (decide (s.actions = t.actions))) ⟨rfl, rfl, trivial⟩ (ref01.SameStrings_ok _ _) T.ent43 (no rfl (mv ?_))))))))))))))))
  apply gOr (t := 13) (pd := 21) rfl
  rotate_left
  · intro hg0 fin
    have hg0' := hg0
    try simp at hg0'
    exact gy rfl rfl rfl hg0 (fP rfl T.fld25_1 (gy rfl rfl rfl hg0 (lP rfl rfl rfl T.one23 (gy rfl rfl rfl hg0 (fc (slenI 15 rfl) fun hm15 => (lnF rfl T.sl23 (gy rfl rfl rfl hg0 (fP rfl T.fld25_1 (gy rfl rfl rfl hg0 (lP rfl rfl rfl T.one23 (gy rfl rfl rfl hg0 (fc (slenI 18 rfl) fun hm18 => (lnF rfl T.sl23 (gy rfl rfl rfl hg0 (bi rfl rfl b_neq (pkF rfl hg0 rfl (drp (X := [(20, _), (19, _), (18, _), (17, _), (16, _), (15, _), (14, _)]) ⟨rfl, rfl, rfl, rfl, rfl, rfl, rfl, trivial⟩ (fin))))))))))))))))))
  · intro hg0 fin
    exact gn rfl rfl rfl hg0 rfl rfl (gn rfl rfl rfl hg0 rfl rfl (gn rfl rfl rfl hg0 rfl rfl (gn rfl rfl rfl hg0 rfl rfl (gn rfl rfl rfl hg0 rfl rfl (gn rfl rfl rfl hg0 rfl rfl (gn rfl rfl rfl hg0 rfl rfl (pkT rfl hg0 rfl (drp (X := [(20, _), (19, _), (18, _), (17, _), (16, _), (15, _), (14, _)]) ⟨rfl, rfl, rfl, rfl, rfl, rfl, rfl, trivial⟩ (fin)))))))))
  refine nl (th ?_)
  refine cd rfl (fun hc0 => ?_) (fun hc0 => ?_)
  · try simp at hc0
    refine sq (rg (ag (nl (th (rt (rt_ ?_))))))
    have hr0 : false = (decide (s = t)) := by
      rw [decide_eq_false]; intro h; subst h; simp at hc0
    have hall : ∀ x0, false = x0 → resAV [bl false] = resAV [bl x0] := by rintro _ rfl; rfl
    exact rE () [.tmp 4] rfl [bl false] ⟨.tmp rfl, trivial⟩ (hall _ hr0) trivial (by first | exact .inr rfl | exact .inl rfl)
  · try simp at hc0
    refine sk (th (sq (sq (rg (fP rfl T.fld25_1 (lP rfl rfl rfl T.one23 (fc (slenI 23 rfl) fun hm23 => (lnF rfl T.sl23 (mv (nl (th (bk ?_))))))))))))
    have hI0_0 : 0 ≤ s.states.length := by
      first | omega | simp
    have hI0_1 : s.states.take 0 = t.states.take 0 := by
      simp
    refine lp (κ := Nat) (fun p => [(3, ptr 3 b3 0), (23, sl 2 stateE s.states), (24, int (s.states.length : Int)), (25, int (p : Int))]) (fun p => [(2, cell b2 [sl 1 strE s.actions, sl 2 stateE s.states]), (3, cell b3 [sl 1 strE t.actions, sl 2 stateE t.states])]) (fun p => (p ≤ s.states.length) ∧ (s.states.take p = t.states.take p)) (fun p => s.states.length - p) 0 ⟨hI0_0, hI0_1⟩ ⟨id, id, id, id, trivial⟩ ⟨⟨rfl, id⟩, ⟨rfl, id⟩, trivial⟩ ?_
    intro k hG0
    obtain ⟨hk0, hI0⟩ : (k ≤ s.states.length) ∧ (s.states.take k = t.states.take k) := hG0
    refine sq (rg (bi rfl rfl b_lss (nl (th (sq ?_)))))
    refine cd rfl (fun hc1 => ?_) (fun hc1 => ?_)
    · try simp at hc1
      refine sk (th (sq (bk (sq (rg (mv (iF rfl rfl T.sl23 (by omega) (by first | exact gN (by omega) | exact gI (by omega) (by omega)) (lFA rfl T.agg69 (Nat.le_of_ble_eq_true rfl) (al (key := 6) T.z69 (ex_cons (ex_cons (ex_nil))) fun b6 => (ag (sPA (cs' := [sl 1 intE ((ix s.states k).accept), sl 1 intE ((ix s.states k).next)]) rfl rfl rfl T.agg69 rfl rfl (nl (th (sq (dr (nh := 22) [0, 1, 0, 4, 0, 28, 60, 124, 255, 511, 1023, 2047, 4095, 2047, 10239, 2047, 59391, 124927, 255999, 524287, 1048575, 2097151] T.mixed (by kernel_rfl) ?_)))))))))))))))
      refine st_ rfl (fun _ _ _ gq kq => fP (gq.1.trans rfl) T.fld69_0 kq) ?_
      refine st_ rfl (fun _ _ _ gq kq => lP (gq.1.trans rfl) rfl rfl T.one28 kq) ?_
      refine st_ rfl (fun _ _ _ gq kq => fP (gq.1.trans rfl) T.fld25_1 kq) ?_
      refine st_ rfl (fun _ _ _ gq kq => lP (gq.1.trans rfl) rfl rfl T.one23 kq) ?_
      refine st_ rfl (fun _ _ _ gq kq => mv' (gq.1.trans rfl) kq) ?_
      refine st_ rfl (fun _ _ _ gq kq => iF (gq.1.trans rfl) (gq.2.1.trans rfl) T.sl23 (by omega) (by first | exact gN (by omega) | exact gI (by omega) (by omega)) kq) ?_
      refine st_ rfl (fun _ _ _ gq kq => fF (gq.1.trans rfl) T.fld69_0 kq) ?_
      refine st_ rfl (fun _ _ _ gq kq => lF (gq.1.trans rfl) rfl T.one28 kq) ?_
      refine st_ rfl (fun _ _ _ gq kq => cal0 (φs := [sl 1 intE ((ix s.states k).accept), sl 1 intE ((ix t.states k).accept)]) (φ := bl (decide (((ix s.states k).accept) = ((ix t.states k).accept)))) ⟨(gq.1.trans rfl), (gq.2.1.trans rfl), trivial⟩ (ref01.SameInts_ok _ _) T.ent18 kq) ?_
      refine st_ rfl (fun _ _ _ gq kq => no (gq.1.trans rfl) kq) ?_
      refine st_ rfl (fun _ _ _ gq kq => mv' (gq.1.trans rfl) kq) ?_
      refine sg_ (φ := ptr 6 b6 1) rfl rfl rfl rfl (List.mem_of_elem_eq_true rfl) (fun hgd => ?_) ?_
      · have hgd' := hgd
        try simp at hgd'
        exact fun _ _ _ gq kq => fP (gq.1.trans rfl) T.fld69_1 kq
      refine sg_ (φ := sl 1 intE ((ix s.states k).next)) rfl rfl rfl rfl (List.mem_of_elem_eq_true rfl) (fun hgd => ?_) ?_
      · have hgd' := hgd
        try simp at hgd'
        exact fun _ _ _ gq kq => lP (gq.1.trans (gif_t hgd)) rfl rfl T.one28 kq
      refine sg_ (φ := ptr 3 b3 1) rfl rfl rfl rfl (List.mem_of_elem_eq_true rfl) (fun hgd => ?_) ?_
      · have hgd' := hgd
        try simp at hgd'
        exact fun _ _ _ gq kq => fP (gq.1.trans rfl) T.fld25_1 kq
      refine sg_ (φ := sl 2 stateE t.states) rfl rfl rfl rfl (List.mem_of_elem_eq_true rfl) (fun hgd => ?_) ?_
      · have hgd' := hgd
        try simp at hgd'
        exact fun _ _ _ gq kq => lP (gq.1.trans (gif_t hgd)) rfl rfl T.one23 kq
      refine sg_ (φ := int (k : Int)) rfl rfl rfl rfl (List.mem_of_elem_eq_true rfl) (fun hgd => ?_) ?_
      · have hgd' := hgd
        try simp at hgd'
        exact fun _ _ _ gq kq => mv' (gq.1.trans rfl) kq
      refine sg_ (φ := fp [sl 1 intE ((ix t.states k).accept), sl 1 intE ((ix t.states k).next)]) rfl rfl rfl rfl (List.mem_of_elem_eq_true rfl) (fun hgd => ?_) ?_
      · have hgd' := hgd
        try simp at hgd'
        exact fun _ _ _ gq kq => iF (gq.1.trans (gif_t hgd)) (gq.2.1.trans (gif_t hgd)) T.sl23 (by omega) (by first | exact gN (by omega) | exact gI (by omega) (by omega)) kq
      refine sg_ (φ := fp [sl 1 intE ((ix t.states k).next)]) rfl rfl rfl rfl (List.mem_of_elem_eq_true rfl) (fun hgd => ?_) ?_
      · have hgd' := hgd
        try simp at hgd'
        exact fun _ _ _ gq kq => fF (gq.1.trans (gif_t hgd)) T.fld69_1 kq
      refine sg_ (φ := sl 1 intE ((ix t.states k).next)) rfl rfl rfl rfl (List.mem_of_elem_eq_true rfl) (fun hgd => ?_) ?_
      · have hgd' := hgd
        try simp at hgd'
        exact fun _ _ _ gq kq => lF (gq.1.trans (gif_t hgd)) rfl T.one28 kq
      refine sg_ (φ := bl (decide (((ix s.states k).next) = ((ix t.states k).next)))) rfl rfl rfl rfl (List.mem_of_elem_eq_true rfl) (fun hgd => ?_) ?_
      · have hgd' := hgd
        try simp at hgd'
        exact fun _ _ _ gq kq => cal0 (φs := [sl 1 intE ((ix s.states k).next), sl 1 intE ((ix t.states k).next)]) (φ := bl (decide (((ix s.states k).next) = ((ix t.states k).next)))) ⟨(gq.1.trans (gif_t hgd)), (gq.2.1.trans (gif_t hgd)), trivial⟩ (ref01.SameInts_ok _ _) T.ent18 kq
      refine sg_ (φ := bl (!(decide (((ix s.states k).next) = ((ix t.states k).next))))) rfl rfl rfl rfl (List.mem_of_elem_eq_true rfl) (fun hgd => ?_) ?_
      · have hgd' := hgd
        try simp at hgd'
        exact fun _ _ _ gq kq => no (gq.1.trans (gif_t hgd)) kq
      refine st_ rfl (fun _ _ _ gq kq => pk (gq.1.trans rfl) (pk_or (x := .tmp 40) (gq.1.trans rfl) (gq.2.1.trans rfl) rfl) kq) ?_
      refine pn (nl (th ?_))
      refine cd rfl (fun hc2 => ?_) (fun hc2 => ?_)
      · try simp at hc2
        refine sq (rg (ag (nl (th (rt (rb (rt_ (rt_ (rb (rt_ ?_))))))))))
        have hr0 : false = (decide (s = t)) := by
          rw [decide_eq_false]; intro h; subst h; simp at hc2
        have hall : ∀ x0, false = x0 → resAV [bl false] = resAV [bl x0] := by rintro _ rfl; rfl
        exact rE () [.tmp 4] rfl [bl false] ⟨.tmp rfl, trivial⟩ (hall _ hr0) trivial (by first | exact .inr rfl | exact .inl rfl)
      · try simp at hc2
        refine sk (eb (th (rg (bi rfl rfl (b_add (by unfold I64; omega)) (mv (nl ?_))))))
        have hN0 : (k + 1) ≤ s.states.length := by
          first | omega | simp_all
        have hN1 : s.states.take (k + 1) = t.states.take (k + 1) := by
          rw [take_s (by omega), take_s (by omega), hI0]
          congr 2
          try simp at hc2
          exact SState.ext hc2.1 hc2.2
        exact ln (k + 1) ⟨hN0, hN1⟩ (by first | omega | (dsimp only; omega)) ⟨id, id, id, id, trivial⟩ ⟨⟨rfl, id⟩, ⟨rfl, id⟩, trivial⟩
    · try simp at hc1
      refine ex (xt_ (xt_ (xb (th (sq (rg (ag (nl (th (rt ?_))))))))))
      have hr0 : true = (decide (s = t)) := by
        rw [decide_eq_true]
        rw [show k = s.states.length by omega, List.take_length] at hI0
        try simp at hc0
        rw [show s.states.length = t.states.length by omega, List.take_length] at hI0
        exact SSpec.ext hc0.1 hI0
      have hall : ∀ x0, true = x0 → resAV [bl true] = resAV [bl x0] := by rintro _ rfl; rfl
      exact rE () [.tmp 4] rfl [bl true] ⟨.tmp rfl, trivial⟩ (hall _ hr0) trivial (by first | exact .inr rfl | exact .inl rfl)

theorem Nothing_ok (l : List ByteArray) (hl : l.length ≤ 1000) :
    Fn0 Tryd.prog 37 [strs l] (spec (nothing l)) := by
  refine fnI Tryd.func37 rfl rfl (fun w0 F0 => ?_)
  refine fcC (slenI 0 rfl) (fun hm0 => ?_)
  refine sq (rg (al (key := 2) T.z25 (ex_cons (ex_cons (ex_nil))) fun b2 => (nl (th (sq (rg (al (key := 3) T.z69 (ex_cons (ex_cons (ex_nil))) fun b3 => (nl (th (sq (sq (rg (mv (lnF rfl T.sl22 (mv (nl (th (bk ?_))))))))))))))))))
  refine nwC 30 3 1 intE (kncC 3 1 (osl 30 (.slice none 0 0)) rfl rfl eq_osl ?_)
  have hI0_0 : 0 ≤ l.length := by
    first | omega | simp
  have hI0_1 : ([] : List Int) = List.replicate 0 (-1) := by
    rfl
  refine lp (κ := Nat × Value × (List Int)) (fun p => [(0, sl 1 strE l), (2, ptr 2 b2 0), (3, ptr 3 b3 0), (5, int (l.length : Int)), (6, int (p.1 : Int))]) (fun p => [(2, cell b2 [eqv (.slice none 0 0), eqv (.slice none 0 0)]), (3, cell b3 [eqv (.slice none 0 0), osl 30 p.2.1]), (30, own p.2.1 3 1 intE p.2.2)]) (fun p => (p.1 ≤ l.length) ∧ (p.2.2 = List.replicate p.1 (-1))) (fun p => l.length - p.1) ⟨0, (.slice none 0 0), ([] : List Int)⟩ ⟨hI0_0, hI0_1⟩ ⟨id, id, id, id, id, trivial⟩ ⟨⟨rfl, id⟩, ⟨rfl, id⟩, ⟨rfl, id⟩, trivial⟩ ?_
  intro ⟨k, v, acc⟩ hG0
  obtain ⟨hk0, hI0⟩ : (k ≤ l.length) ∧ (acc = List.replicate k (-1)) := hG0
  show Ct _ _ _ _ [(0, sl 1 strE l), (2, ptr 2 b2 0), (3, ptr 3 b3 0), (5, int (l.length : Int)), (6, int (k : Int))] [(2, cell b2 [eqv (.slice none 0 0), eqv (.slice none 0 0)]), (3, cell b3 [eqv (.slice none 0 0), osl 30 v]), (30, own v 3 1 intE acc)] _
  have hlen : acc.length = k := by rw [hI0]; simp
  refine sq (rg (bi rfl rfl b_lss (nl (th (sq ?_)))))
  refine cd rfl (fun hc0 => ?_) (fun hc0 => ?_)
  · try simp at hc0
    refine sk (th (sq (bk (rg (fP rfl T.fld69_1 (lP rfl rfl rfl T.one28 (bsE (enc := intE) (xs := [(-1)]) (css := [[int (-1)]]) T.mk28 ⟨rfl, rfl, p1 (φ := int (-1)) rfl, trivial⟩ rfl rfl rfl rfl (ap (key := 30) (zs := [(-1)]) osl_eq rfl rfl rfl T.mk28 (by unfold maxL; simp; omega) (by unfold maxL; simp; omega) fun v11 => (fP rfl T.fld69_1 (storePO rfl rfl rfl rfl T.one28 rfl (nl (eb (th (rg (bi rfl rfl (b_add (by unfold I64; omega)) (mv (nl ?_)))))))))))))))))
    have hN0 : (k + 1) ≤ l.length := by
      first | omega | simp_all
    have hN1 : (acc ++ [(-1)]) = List.replicate (k + 1) (-1) := by
      rw [hI0, List.replicate_succ']
    exact ln (⟨k + 1, v11, acc ++ [(-1)]⟩ : Nat × Value × (List Int)) ⟨hN0, hN1⟩ (by first | omega | (dsimp only; omega)) ⟨id, id, id, id, id, trivial⟩ ⟨⟨rfl, id⟩, ⟨rfl, id⟩, ⟨rfl, id⟩, trivial⟩
  · try simp at hc0
    refine ex (xt_ (xt_ (xb (th (sq (fzcC 3 30 1 rfl rfl rfl rfl (kncC 3 0 (sl 1 intE []) rfl rfl slnil (dr (nh := 5) [0, 1, 0, 4, 15, 31] T.mixed (by kernel_rfl) ?_))))))))
    refine st_ rfl (fun _ _ _ gq kq => mv' (gq.1.trans rfl) kq) ?_
    refine st_ rfl (fun _ _ _ gq kq => appendF (enc := strE) (ys := l) rfl (gq.1.trans rfl) T.mk22 (by unfold maxL; omega) kq) ?_
    refine st_ rfl (fun _ _ _ gq kq => lPA (gq.1.trans rfl) rfl T.agg69 rfl kq) ?_
    refine st_ rfl (fun _ _ _ gq kq => bsE (enc := stateE) (xs := [(⟨[], acc⟩)]) (css := [[sl 1 intE [], sl 1 intE acc]]) T.mk23 ⟨rfl, rfl, pA (cs := [sl 1 intE [], sl 1 intE acc]) (by exact (gq.1.trans rfl)), trivial⟩ rfl rfl rfl rfl kq) ?_
    refine st_ rfl (fun _ _ _ gq kq => bd (css := [(0, _), (1, _)]) T.st25 (ex_cons (ex_cons (ex_nil))) ⟨rfl, rfl, p1 (φ := sl 1 strE l) (by exact (gq.1.trans rfl)), ⟨rfl, rfl, p1 (φ := sl 2 stateE [(⟨[], acc⟩)]) (by exact (gq.2.1.trans rfl)), trivial⟩⟩ kq) ?_
    refine pn (sPA (cs' := [sl 1 strE l, sl 2 stateE [(⟨[], acc⟩)]]) rfl rfl rfl T.agg25 rfl rfl (nl (th (rt ?_))))
    have hr0 : l = ((nothing l).actions) := by
      rfl
    have hr1 : [(⟨[], acc⟩)] = ((nothing l).states) := by
      unfold nothing; rw [hI0, show k = l.length by omega]
    have hall : ∀ x0 x1, l = x0 → [(⟨[], acc⟩)] = x1 → resAV [agg [sl 1 strE l, sl 2 stateE [(⟨[], acc⟩)]]] = resAV [agg [sl 1 strE x0, sl 2 stateE x1]] := by rintro _ _ rfl rfl; rfl
    exact rE () [.cell 2 25] rfl [agg [sl 1 strE l, sl 2 stateE [(⟨[], acc⟩)]]] ⟨.agg rfl rfl T.agg25 rfl rfl, trivial⟩ (hall _ _ hr0 hr1) trivial (by first | exact .inr rfl | exact .inl rfl)

theorem Copy_ok (s : SSpec) (hs : size s ≤ 1000000) :
    Fn0 Tryd.prog 14 [spec s] (spec s) := by
  refine fnI Tryd.func14 rfl rfl (fun w0 F0 => ?_)
  obtain ⟨hb0, hb1⟩ := size_bd s
  refine fcC (inhS 0 rfl) (fun hS0 => ?_)
  obtain ⟨hsa0, hss0, hse0⟩ := spec_lens hS0
  refine sq (rg (bx (key := 1) (cs := [sl 1 strE s.actions, sl 2 stateE s.states]) rfl fun b1 => (al (key := 2) T.z25 (ex_cons (ex_cons (ex_nil))) fun b2 => (nl (th (sq (rg (fP rfl T.fld25_0 (lP rfl rfl rfl T.one22 (appendF (enc := strE) (ys := s.actions) rfl rfl T.mk22 (by unfold maxL; omega) (bd (css := [(0, _)]) T.st25 (ex_cons (ex_cons (ex_nil))) ⟨rfl, rfl, p1 (φ := sl 1 strE s.actions) rfl, trivial⟩ (al (key := 3) T.z25 (ex_cons (ex_cons (ex_nil))) fun b3 => (sPA (cs' := [sl 1 strE s.actions, eqv (.slice none 0 0)]) rfl rfl rfl T.agg25 rfl rfl (nl (th (sq (sq (rg (fP rfl T.fld25_1 (lP rfl rfl rfl T.one23 (fc (slenI 11 rfl) fun hm11 => (lnF rfl T.sl23 (mv (nl (th (bk ?_))))))))))))))))))))))))))
  refine nwC 30 69 2 stateE (kncC 3 1 (osl 30 (.slice none 0 0)) rfl rfl eq_osl ?_)
  have hI0_0 : 0 ≤ s.states.length := by
    first | omega | simp
  have hI0_1 : ([] : List SState) = s.states.take 0 := by
    rfl
  refine lp (κ := Nat × Value × (List SState)) (fun p => [(2, ptr 2 b2 0), (3, ptr 3 b3 0), (11, sl 2 stateE s.states), (12, int (s.states.length : Int)), (13, int (p.1 : Int))]) (fun p => [(1, cell b1 [sl 1 strE s.actions, sl 2 stateE s.states]), (2, cell b2 [eqv (.slice none 0 0), eqv (.slice none 0 0)]), (3, cell b3 [sl 1 strE s.actions, osl 30 p.2.1]), (30, own p.2.1 69 2 stateE p.2.2)]) (fun p => (p.1 ≤ s.states.length) ∧ (p.2.2 = s.states.take p.1)) (fun p => s.states.length - p.1) ⟨0, (.slice none 0 0), ([] : List SState)⟩ ⟨hI0_0, hI0_1⟩ ⟨id, id, id, id, id, trivial⟩ ⟨⟨rfl, id⟩, ⟨rfl, id⟩, ⟨rfl, id⟩, ⟨rfl, id⟩, trivial⟩ ?_
  intro ⟨k, v, acc⟩ hG0
  obtain ⟨hk0, hI0⟩ : (k ≤ s.states.length) ∧ (acc = s.states.take k) := hG0
  show Ct _ _ _ _ [(2, ptr 2 b2 0), (3, ptr 3 b3 0), (11, sl 2 stateE s.states), (12, int (s.states.length : Int)), (13, int (k : Int))] [(1, cell b1 [sl 1 strE s.actions, sl 2 stateE s.states]), (2, cell b2 [eqv (.slice none 0 0), eqv (.slice none 0 0)]), (3, cell b3 [sl 1 strE s.actions, osl 30 v]), (30, own v 69 2 stateE acc)] _
  have hlen : acc.length ≤ k := by rw [hI0]; simp; omega
  refine sq (rg (bi rfl rfl b_lss (nl (th (sq ?_)))))
  refine cd rfl (fun hc0 => ?_) (fun hc0 => ?_)
  · try simp at hc0
    have hb2 := hb1 k (by omega)
    refine sk (th (sq (bk (sq (rg (iF rfl rfl T.sl23 (by omega) (by first | exact gN (by omega) | exact gI (by omega) (by omega)) (lFA rfl T.agg69 (Nat.le_of_ble_eq_true rfl) (al (key := 5) T.z69 (ex_cons (ex_cons (ex_nil))) fun b5 => (sPA (cs' := [sl 1 intE ((ix s.states k).accept), sl 1 intE ((ix s.states k).next)]) rfl rfl rfl T.agg69 rfl rfl (nl (th (dr (nh := 10) [0, 1, 0, 4, 12, 0, 32, 124, 252, 508, 1023, 2047, 4095] T.mixed (by kernel_rfl) ?_))))))))))))
    refine st_ rfl (fun _ _ _ gq kq => fP (gq.1.trans rfl) T.fld25_1 kq) ?_
    refine st_ rfl (fun _ _ _ gq kq => lP (gq.1.trans rfl) rfl rfl T.one23 kq) ?_
    refine st_ rfl (fun _ _ _ gq kq => fP (gq.1.trans rfl) T.fld69_0 kq) ?_
    refine st_ rfl (fun _ _ _ gq kq => lP (gq.1.trans rfl) rfl rfl T.one28 kq) ?_
    refine st_ rfl (fun _ _ _ gq kq => appendF (enc := intE) (ys := (ix s.states k).accept) rfl (gq.1.trans rfl) T.mk28 (by unfold maxL; omega) kq) ?_
    refine st_ rfl (fun _ _ _ gq kq => fP (gq.1.trans rfl) T.fld69_1 kq) ?_
    refine st_ rfl (fun _ _ _ gq kq => lP (gq.1.trans rfl) rfl rfl T.one28 kq) ?_
    refine st_ rfl (fun _ _ _ gq kq => appendF (enc := intE) (ys := (ix s.states k).next) rfl (gq.1.trans rfl) T.mk28 (by unfold maxL; omega) kq) ?_
    refine st_ rfl (fun _ _ _ gq kq => bd (css := [(0, _), (1, _)]) T.st69 (ex_cons (ex_cons (ex_nil))) ⟨rfl, rfl, p1 (φ := sl 1 intE ((ix s.states k).accept)) (by exact (gq.1.trans rfl)), ⟨rfl, rfl, p1 (φ := sl 1 intE ((ix s.states k).next)) (by exact (gq.2.1.trans rfl)), trivial⟩⟩ kq) ?_
    refine st_ rfl (fun _ _ _ gq kq => bsE (enc := stateE) (xs := [(ix s.states k)]) (css := [[sl 1 intE ((ix s.states k).accept), sl 1 intE ((ix s.states k).next)]]) T.mk23 ⟨rfl, rfl, pA (cs := [sl 1 intE ((ix s.states k).accept), sl 1 intE ((ix s.states k).next)]) (by exact (gq.1.trans rfl)), trivial⟩ rfl rfl rfl rfl kq) ?_
    refine pn (ap (key := 30) (zs := [(ix s.states k)]) osl_eq rfl rfl rfl T.mk23 (by unfold maxL at *; simp; omega) (by unfold maxL at *; simp; omega) fun v27 => (fP rfl T.fld25_1 (storePO rfl rfl rfl rfl T.one23 rfl (nl (eb (th (rg (bi rfl rfl (b_add (by unfold I64; omega)) (mv (nl ?_))))))))))
    have hN0 : (k + 1) ≤ s.states.length := by
      first | omega | simp_all
    have hN1 : (acc ++ [(ix s.states k)]) = s.states.take (k + 1) := by
      rw [hI0, take_s (by omega)]
    exact ln (⟨k + 1, v27, acc ++ [(ix s.states k)]⟩ : Nat × Value × (List SState)) ⟨hN0, hN1⟩ (by first | omega | (dsimp only; omega)) ⟨id, id, id, id, id, trivial⟩ ⟨⟨rfl, id⟩, ⟨rfl, id⟩, ⟨rfl, id⟩, ⟨rfl, id⟩, trivial⟩
  · try simp at hc0
    refine ex (xt_ (xt_ (xb (th (sq (rg (fzc 3 30 1 rfl rfl rfl rfl (lPA rfl rfl T.agg25 rfl (sPA (cs' := [sl 1 strE s.actions, sl 2 stateE acc]) rfl rfl rfl T.agg25 rfl rfl (nl (th (rt ?_))))))))))))
    have hr0 : acc = s.states := by
      rw [hI0, show k = s.states.length by omega, List.take_length]
    have hall : ∀ x0, acc = x0 → resAV [agg [sl 1 strE s.actions, sl 2 stateE acc]] = resAV [agg [sl 1 strE s.actions, sl 2 stateE x0]] := by rintro _ rfl; rfl
    exact rE () [.cell 2 25] rfl [agg [sl 1 strE s.actions, sl 2 stateE acc]] ⟨.agg rfl rfl T.agg25 rfl rfl, trivial⟩ (hall _ hr0) trivial (by first | exact .inr rfl | exact .inl rfl)
end ref03
end Go.Proofs.YtolpjmllmlahfaaDoor
