/- Walks of the functions of this claim, printed by a program of its own out of annotations. -/
import Derived.Test.YtolpjmllmlahfaaDoorprog3
namespace Go.Proofs.YtolpjmllmlahfaaDoor
open AL Go
set_option maxRecDepth 100000
set_option linter.all false

open ref01 ref03 ref04 ref06 prog prog2 prog3 Part
attribute [local semireducible] andp any in
theorem andp_any {q : Prop} (hq : q) {w : World} {F : Fz} {v : Value} : (andp q any).p w F v := ⟨hq, trivial⟩
theorem subH1 {x : HA} {H : Hp} : SubH [(0, x)] ((0, x) :: H) := ⟨by rw [lkH_same]; exact ⟨rfl, id⟩, trivial⟩
theorem shr_pos {t a : Nat} (ht : t < 2 ^ 63) (h : 0 < t >>> a) : a ≤ 62 := by
  rw [Nat.shiftRight_eq_div_pow] at h
  rcases Nat.lt_or_ge 62 a with h1 | h1
  · have h2 : 2 ^ 63 ≤ 2 ^ a := Nat.pow_le_pow_right (by omega) (by omega)
    rw [Nat.div_eq_of_lt (by omega)] at h
    omega
  · exact h1
theorem listOf_stop {t : Int} {a : Nat} (h : t.toNat >>> a = 0) : ∀ j, listOf (a + j) t = listOf a t
  | 0 => rfl
  | j + 1 => by
    rw [show a + (j + 1) = a + j + 1 by omega, listOf_succ, listOf_stop h j]
    have : has t ((a + j : Nat) : Int) = false := by
      unfold has
      rw [Int.toNat_natCast, Nat.testBit_eq_decide_div_mod_eq]
      rw [Nat.shiftRight_eq_div_pow] at h
      have h2 : t.toNat / 2 ^ (a + j) = 0 := by
        rw [Nat.pow_add, ← Nat.div_div_eq_div_mul, h, Nat.zero_div]
      rw [h2]; rfl
    rw [this]; simp
theorem listOf_pre (t : Int) (a : Nat) : ∀ j, ∃ q, listOf (a + j) t = listOf a t ++ q
  | 0 => ⟨[], by simp⟩
  | j + 1 => by
    obtain ⟨q, hq⟩ := listOf_pre t a j
    rw [show a + (j + 1) = a + j + 1 by omega, listOf_succ, hq, List.append_assoc]
    exact ⟨_, rfl⟩
theorem listOf_at {t : Int} {a : Nat} (h : has t (a : Int) = true) (ha : a ≤ 62) : (listOf 63 t)[(listOf a t).length]? = some (a : Int) := by
  obtain ⟨q, hq⟩ := listOf_pre t (a + 1) (62 - a)
  rw [show a + 1 + (62 - a) = 63 by omega] at hq
  rw [hq, listOf_succ, if_pos h]
  simp

namespace prog4
namespace T
theorem one3 : IsOne Tryd.prog 3 := isOne_of (by kernel_rfl)
end T

theorem InIt (t : Int) (h0 : 0 ≤ t) (h1 : t < 2 ^ 63) :
    It Tryd.prog 115 [fp [int t]] intE (listOf 63 t) := by
  intro y Y Z hlaw hz hY0
  refine fnI Tryd.func115 rfl rfl (fun w0 F0 => ?_)
  refine sq (rg (ag (nl (th (bk ?_)))))
  have hI0_0 : Y (listOf 0 t).length hz ∧ 0 ≤ 63 := by
    exact ⟨hY0, by omega⟩
  refine lp (κ := Nat × HA) (fun p => [(0, eqv y), (1, fp [int t]), (3, int (p.1 : Int))]) (fun p => [(0, p.2)]) (fun p => Y (listOf p.1 t).length p.2 ∧ p.1 ≤ 63) (fun p => 64 - p.1) ⟨0, hz⟩ hI0_0 ⟨id, id, id, trivial⟩ subH1 ?_
  intro ⟨a, hh⟩ hG0
  have hI0 : Y (listOf a t).length hh ∧ a ≤ 63 := hG0
  show Ct _ _ _ _ [(0, eqv y), (1, fp [int t]), (3, int (a : Int))] [(0, hh)] _
  refine sq (sq (rg (lF rfl rfl T.one3 (mv (bi rfl rfl (b_shrI (by omega) (by omega) (by omega)) (bi rfl rfl b_gtr (nl (th ?_))))))))
  refine cd rfl (fun hc0 => ?_) (fun hc0 => ?_)
  · skip
    have hc0 : 0 < t.toNat >>> a := by have h5 := of_decide_eq_true hc0; rw [Int.toNat_natCast] at h5; omega
    have ha62 := shr_pos (t := t.toNat) (by omega) hc0
    refine sk (th (sq (bk (sq (rg (lF rfl rfl T.one3 (mv (bi rfl rfl (b_shrI (by omega) (by omega) (by omega)) (bi rfl rfl (b_and1 (m := (t.toNat >>> a)) (Nat.lt_of_le_of_lt (Nat.shiftRight_le _ _) (by omega))) (bi rfl rfl b_eql (mv ?_)))))))))))
    rcases Bool.eq_false_or_eq_true (decide ((((t.toNat >>> a) &&& 1 : Nat) : Int) = 1)) with hg0 | hg0
    · have hg0' := hg0
      try simp at hg0'
      have hha : has t (a : Int) = true := by unfold has; rw [Int.toNat_natCast, has_eq]; exact hg0
      have hxa := listOf_at hha ha62
      refine gy rfl rfl rfl hg0 (mv (gy rfl rfl rfl hg0 (mv (gy rfl rfl rfl hg0 (callV (Hi := [(0, hh)]) rfl (hlaw _ hh (a : Int) hI0.1 hxa) subH1 fun N bh => oan 18 rfl fun hres => (gy rfl rfl rfl hg0 (no rfl (pkT rfl hg0 rfl (nl (th ?_))))))))))
      refine cd rfl (fun hc1 => ?_) (fun hc1 => ?_)
      · try simp at hc1
        refine rt (rb (rt_ (rt_ (rb ?_))))
        exact r0 bh.2 rfl (fun _ => andp_any (.inr (hres.2 hc1))) subH1 (.inr rfl)
      · try simp at hc1
        refine sk (eb (th (rg (mv (bi rfl rfl (b_add (by unfold I64; omega)) (ag (nl ?_)))))))
        have hN0 : Y (listOf (a + 1) t).length bh.2 ∧ (a + 1) ≤ 63 := by
          refine ⟨?_, by omega⟩
          rw [listOf_succ, hha]; simpa using hres.1 hc1
        exact ln (⟨a + 1, bh.2⟩ : Nat × HA) hN0 (by first | omega | (dsimp only; omega)) ⟨id, id, id, trivial⟩ subH1
    · have hg0' := hg0
      try simp at hg0'
      have hha : has t (a : Int) = false := by unfold has; rw [Int.toNat_natCast, has_eq]; exact hg0
      refine gn rfl rfl rfl hg0 rfl rfl (gn rfl rfl rfl hg0 rfl rfl (gn rfl rfl rfl hg0 rfl rfl (gn rfl rfl rfl hg0 rfl rfl (pkF rfl hg0 rfl (nl (th ?_))))))
      refine cd rfl (fun hc1 => ?_) (fun hc1 => ?_)
      · try simp at hc1
        skip
      · try simp at hc1
        refine sk (eb (th (rg (mv (bi rfl rfl (b_add (by unfold I64; omega)) (ag (nl ?_)))))))
        have hN0 : Y (listOf (a + 1) t).length hh ∧ (a + 1) ≤ 63 := by
          refine ⟨?_, by omega⟩
          rw [listOf_succ, hha]; simpa using hI0.1
        exact ln (⟨a + 1, hh⟩ : Nat × HA) hN0 (by first | omega | (dsimp only; omega)) ⟨id, id, id, trivial⟩ subH1
  · skip
    have hc0 : t.toNat >>> a = 0 := by have h5 := of_decide_eq_false hc0; rw [Int.toNat_natCast] at h5; exact Nat.eq_zero_of_not_pos (fun h => h5 (Int.natCast_pos.2 h))
    refine ex (xt_ (xt_ (xb ?_)))
    exact r0 hh rfl (fun _ => andp_any (.inl (by have e := listOf_stop hc0 (63 - a); rw [show a + (63 - a) = 63 by omega] at e; rw [e]; exact hI0.1))) subH1 (.inl rfl)
end prog4
end Go.Proofs.YtolpjmllmlahfaaDoor
