/- Walks of the functions of this claim, printed by a program of its own out of annotations. -/
import Derived.Test.YtolpjmllmlahfaaDoorprog3
namespace Go.Proofs.YtolpjmllmlahfaaDoor
open AL Go
set_option maxRecDepth 100000
set_option linter.all false

open ref01 ref03 ref04 ref06 prog prog2 prog3 Part
attribute [local semireducible] eqv in
theorem eqv_rfl {x : Value} {w : World} {F : Fz} : (eqv x).p w F x := rfl
abbrev smE : ByteArray → Value := fun s => Value.string s
abbrev smD : ByteArray → Prop := fun s => s.size ≤ maxL
abbrev smV : Int → AV := fun n => int n
def keyP (n : Nat) (l : List SState) (kf : Nat → ByteArray) : AV := pf Tryd.prog (fun i : Nat => i < n) (fun i => [int (i : Int), state (ix l i)]) (fun i => str (kf i))
def kRel (kf : Nat → ByteArray) : Nat → Nat → Bool := fun x y => decide (kf x = kf y)
def mapIs (kf : Nat → ByteArray) (mm : List (ByteArray × Int)) (fl : List Int) : Prop := mm.length = fl.length ∧ ∀ q, mget mm q = (fl.findIdx? (fun y => decide (q = kf y.toNat))).map (fun j => (j : Int))
theorem mapIs_snoc {kf : Nat → ByteArray} {mm : List (ByteArray × Int)} {fl : List Int} {k : Nat} (h : mapIs kf mm fl) (hn : mget mm (kf k) = none) : mapIs kf (mset mm (kf k) (mm.length : Int)) (fl ++ [(k : Int)]) := by
  refine ⟨by rw [mset_len, hn]; simp [h.1], fun q => ?_⟩
  rw [mget_mset, h.2 q, List.findIdx?_append]
  by_cases e : kf k = q
  · subst e
    have h2 := h.2 (kf k)
    rw [hn] at h2
    cases hf : fl.findIdx? (fun y => decide (kf k = kf y.toNat)) with
    | some j => rw [hf] at h2; simp at h2
    | none => simp [h.1]
  · rw [if_neg e]
    have e' : ¬ q = kf k := fun h => e h.symm
    cases hf : fl.findIdx? (fun y => decide (q = kf y.toNat)) <;> simp [e']

namespace prog5
namespace T
theorem map164 : MapT Tryd.prog 164 9 3 smE smD := mapT_str (by kernel_rfl) (by kernel_rfl)
theorem zv3 : ∀ w F, ∃ u, (zeroValue 3).run Tryd.prog w = .ok u w ∧ (int 0).p w F u := zeroV_of (v := .int .i64 0) (by kernel_rfl) _ (fun _ _ => eqv_rfl)
theorem sl23 : IsSlice Tryd.prog 23 69 2 := isSlice_of (by kernel_rfl)
theorem agg69 : IsAgg Tryd.prog 69 2 := isAgg_of (by kernel_rfl)
theorem z69 : ZeroIs Tryd.prog 69 [.slice none 0 0, .slice none 0 0] := zeroIs_of (by kernel_rfl)
theorem mk28 : MakeT Tryd.prog 28 3 1 8 [.int .i64 0] := makeT_of (by kernel_rfl) (by kernel_rfl)
end T

theorem numbered_ok (l : List SState) (kf : Nat → ByteArray) (hk : ∀ i, (kf i).size ≤ maxL) (hl : l.length ≤ 500) :
    Fn0 Tryd.prog 91 [sl 2 stateE l, keyP l.length l kf] (tup [ints (numBy (fun x y => decide (kf x = kf y)) l.length).1, int ((numBy (fun x y => decide (kf x = kf y)) l.length).2.length : Int)]) := by
  refine fnI Tryd.func91 rfl rfl (fun w0 F0 => ?_)
  refine fcC (slenI 0 rfl) (fun hm0 => ?_)
  refine sq (rg (ag (kn 4 (sl 1 intE []) rfl slnil (ag (nl (th (sq (rg (mkm (key := 13) (kE := smE) (dom := smD) (vE := smV) fun b13 => (ag (nl (th (sq (rg (nw 7 3 1 intE (ag (rtg (key := 7) 7 rfl (nl (th (sq (sq (rg (mv (lnF rfl T.sl23 (mv (nl (th (bk ?_))))))))))))))))))))))))))))
  have hI0_0 : 0 ≤ l.length := by
    first | omega | simp
  have hI0_1 : ([] : List Int) = (numBy (fun x y => decide (kf x = kf y)) 0).1 ∧ mapIs kf ([] : List (ByteArray × Int)) (numBy (fun x y => decide (kf x = kf y)) 0).2 := by
    exact ⟨rfl, rfl, fun q => rfl⟩
  refine lp (κ := Nat × Value × (List Int) × (List (ByteArray × Int))) (fun p => [(1, keyP l.length l kf), (4, sl 1 intE []), (5, int 0), (6, mpv 13 b13), (7, osl 7 p.2.1), (14, sl 2 stateE l), (15, int (l.length : Int)), (16, int (p.1 : Int))]) (fun p => [(7, own p.2.1 3 1 intE p.2.2.1), (13, mp b13 smE smD smV p.2.2.2)]) (fun p => (p.1 ≤ l.length) ∧ (p.2.2.1 = (numBy (fun x y => decide (kf x = kf y)) p.1).1 ∧ mapIs kf p.2.2.2 (numBy (fun x y => decide (kf x = kf y)) p.1).2)) (fun p => l.length - p.1) ⟨0, (.slice none 0 0), ([] : List Int), ([] : List (ByteArray × Int))⟩ ⟨hI0_0, hI0_1⟩ ⟨id, id, id, id, id, id, id, id, trivial⟩ ⟨⟨rfl, id⟩, ⟨rfl, id⟩, trivial⟩ ?_
  intro ⟨k, v, acc, mm⟩ hG0
  obtain ⟨hk0, hI0⟩ : (k ≤ l.length) ∧ (acc = (numBy (fun x y => decide (kf x = kf y)) k).1 ∧ mapIs kf mm (numBy (fun x y => decide (kf x = kf y)) k).2) := hG0
  show Ct _ _ _ _ [(1, keyP l.length l kf), (4, sl 1 intE []), (5, int 0), (6, mpv 13 b13), (7, osl 7 v), (14, sl 2 stateE l), (15, int (l.length : Int)), (16, int (k : Int))] [(7, own v 3 1 intE acc), (13, mp b13 smE smD smV mm)] _
  have hal : acc.length = k := by rw [hI0.1]; exact num_len _
  refine sq (rg (bi rfl rfl b_lss (nl (th (sq ?_)))))
  refine cd rfl (fun hc0 => ?_) (fun hc0 => ?_)
  · try simp at hc0
    refine sk (th (sq (bk (sq (rg (mv (iF rfl rfl T.sl23 (by omega) (by first | exact gN (by omega) | exact gI (by omega) (by omega)) (lFA rfl T.agg69 (Nat.le_of_ble_eq_true rfl) (al (key := 9) T.z69 (ex_cons (ex_cons (ex_nil))) fun b9 => (ag (sPA (cs' := [sl 1 intE ((ix l k).accept), sl 1 intE ((ix l k).next)]) rfl rfl rfl T.agg69 rfl rfl (nl (th (sq (rg (mv (mv (lPA rfl rfl T.agg69 rfl (callP rfl k (by omega) rfl (ag (nl (th (sq (rg (mv (mv (lookup2 (z := 0) (q := kf k) rfl rfl eqv_eq T.map164 (hk k) T.zv3 (mv (xt rfl rfl (xt rfl rfl (ag (ag (nl (th (sq (sq (rg (mv (no rfl (nl (th ?_)))))))))))))))))))))))))))))))))))))))))
    refine cd rfl (fun hc1 => ?_) (fun hc1 => ?_)
    · try simp at hc1
      refine sq (rg (mv (lenM rfl rfl T.map164 (ag (nl (th (rg (mv (mv (mv (mapUpdate (q := kf k) (u := (mm.length : Int)) rfl rfl eqv_eq rfl T.map164 (hk k) (nl (th (rg (mv (mv (bsE (enc := intE) (xs := [(mm.length : Int)]) (css := [[int (mm.length : Int)]]) T.mk28 ⟨rfl, rfl, p1 (φ := int (mm.length : Int)) rfl, trivial⟩ rfl rfl rfl rfl (ap (key := 7) (zs := [(mm.length : Int)]) osl_eq rfl rfl rfl T.mk28 (by unfold maxL at *; simp; omega) (by unfold maxL at *; simp; omega) fun v41 => (ag (nl (eb (th (rg (bi rfl rfl (b_add (by unfold I64; omega)) (mv (nl ?_))))))))))))))))))))))))))
      have hN0 : (k + 1) ≤ l.length := by
        first | omega | simp_all
      have hN1 : (acc ++ [(mm.length : Int)]) = (numBy (fun x y => decide (kf x = kf y)) (k + 1)).1 ∧ mapIs kf (mset mm (kf k) (mm.length : Int)) (numBy (fun x y => decide (kf x = kf y)) (k + 1)).2 := by
        have hn : mget mm (kf k) = none := by simpa using hc1
        have hf := hI0.2.2 (kf k)
        rw [hn] at hf
        have hms := mapIs_snoc hI0.2 hn
        rw [numBy]
        cases hq : (numBy (fun x y => decide (kf x = kf y)) k).2.findIdx? (fun y => decide (kf k = kf y.toNat)) with
        | some j => rw [hq] at hf; simp at hf
        | none => exact ⟨by rw [hI0.1, hI0.2.1], hms⟩
      exact ln (⟨k + 1, v41, acc ++ [(mm.length : Int)], mset mm (kf k) (mm.length : Int)⟩ : Nat × Value × (List Int) × (List (ByteArray × Int))) ⟨hN0, hN1⟩ (by first | omega | (dsimp only; omega)) ⟨id, id, id, id, id, id, id, id, trivial⟩ ⟨⟨rfl, id⟩, ⟨rfl, id⟩, trivial⟩
    · try simp at hc1
      refine sk (th (rg (mv (mv (bsE (enc := intE) (xs := [((mget mm (kf k)).getD 0)]) (css := [[int ((mget mm (kf k)).getD 0)]]) T.mk28 ⟨rfl, rfl, p1 (φ := int ((mget mm (kf k)).getD 0)) rfl, trivial⟩ rfl rfl rfl rfl (ap (key := 7) (zs := [((mget mm (kf k)).getD 0)]) osl_eq rfl rfl rfl T.mk28 (by unfold maxL at *; simp; omega) (by unfold maxL at *; simp; omega) fun v41 => (ag (nl (eb (th (rg (bi rfl rfl (b_add (by unfold I64; omega)) (mv (nl ?_))))))))))))))
      have hN0 : (k + 1) ≤ l.length := by
        first | omega | simp_all
      have hN1 : (acc ++ [((mget mm (kf k)).getD 0)]) = (numBy (fun x y => decide (kf x = kf y)) (k + 1)).1 ∧ mapIs kf mm (numBy (fun x y => decide (kf x = kf y)) (k + 1)).2 := by
        have hf := hI0.2.2 (kf k)
        rw [numBy]
        cases hq : (numBy (fun x y => decide (kf x = kf y)) k).2.findIdx? (fun y => decide (kf k = kf y.toNat)) with
        | none => rw [hq] at hf; simp at hf; simp [hf] at hc1
        | some j => rw [hq] at hf; simp at hf; exact ⟨by rw [hI0.1, hf]; rfl, hI0.2⟩
      exact ln (⟨k + 1, v41, acc ++ [((mget mm (kf k)).getD 0)], mm⟩ : Nat × Value × (List Int) × (List (ByteArray × Int))) ⟨hN0, hN1⟩ (by first | omega | (dsimp only; omega)) ⟨id, id, id, id, id, id, id, id, trivial⟩ ⟨⟨rfl, id⟩, ⟨rfl, id⟩, trivial⟩
  · try simp at hc0
    refine ex (xt_ (xt_ (xb (th (sq (rg (mv (mv (lenM rfl rfl T.map164 (ag (ag (nl (th (rt ?_))))))))))))))
    refine fzA 7 4 rfl rfl ?_
    have hr0 : acc = ((numBy (fun x y => decide (kf x = kf y)) l.length).1) := by
      rw [hI0.1, show k = l.length by omega]
    have hr1 : ((mm.length : Int) : Int) = ((numBy (fun x y => decide (kf x = kf y)) l.length).2.length : Int) := by
      rw [hI0.2.1, show k = l.length by omega]
    have hall : ∀ x0 x1, acc = x0 → (mm.length : Int) = x1 → resAV [sl 1 intE acc, int (mm.length : Int)] = resAV [sl 1 intE x0, int x1] := by rintro _ _ rfl rfl; rfl
    exact rE () [.tmp 4, .tmp 5] rfl [sl 1 intE acc, int (mm.length : Int)] ⟨.tmp rfl, .tmp rfl, trivial⟩ (hall _ _ hr0 hr1) trivial (by first | exact .inr rfl | exact .inl rfl)
end prog5
end Go.Proofs.YtolpjmllmlahfaaDoor
