/- Walks of the functions of this claim, printed by a program of its own out of annotations. -/
import Derived.Test.YtolpjmllmlahfaaDoorprog10
import Derived.Test.YtolpjmllmlahfaaDoorRoundM
namespace Go.Proofs.YtolpjmllmlahfaaDoor
open AL Go
set_option maxRecDepth 100000
set_option linter.all false

open ref01 ref03 ref04 ref06 prog prog2 prog3 prog4 prog5 prog6 prog7 prog8 prog9 prog10 Part Rungs LeftM TrimM Itoa Keys RoundM
def intT : Int → List AV := fun x => [tabbed (int x)]
instance (x : Int) : OneAll (intT x) := inferInstanceAs (OneAll [tabbed (int x)])
def clE : List Int → List AV := fun l => [ints l]
attribute [local semireducible] sl in
theorem ints_tab {xs : List Int} {w : World} {F : Fz} {v : Value} (h : (both (sl 1 intE xs) tab).p w F v) : (sl 1 intT xs).p w F v := by
  obtain ⟨⟨A, cap, hv, hc, hm, hA⟩, ht⟩ := h
  refine ⟨A, cap, hv, hc, hm, fun hne => ?_⟩
  obtain ⟨b, off, vs, h1, h2, h3, h4⟩ := hA hne
  refine ⟨b, off, vs, h1, h2, h3, ⟨h4.len, fun i x hi => ?_⟩⟩
  have h5 := h4.el i x hi
  match hw : (vs.drop (i * 1)).take 1, h5 with
  | [z], h5 => exact ⟨⟨h5.1, ht⟩, trivial⟩
theorem keeps_ix {s : SSpec} {i : Nat} (h : i < s.states.length) : ix (keeps s) i = keep s i := ix_map_range h
theorem keeps_len (s : SSpec) : (keeps s).length = s.states.length := by simp [keeps]
theorem chain {n : Nat} {kf : Nat → ByteArray} {a : List Int × Nat} (h : ((numBy (fun x y => decide (kf x = kf y)) n).1, (numBy (fun x y => decide (kf x = kf y)) n).2.length) = a) : (numBy (fun x y => decide (kf x = kf y)) n).1 = a.1 ∧ (((numBy (fun x y => decide (kf x = kf y)) n).2.length : Nat) : Int) = (a.2 : Int) := by
  rw [← h]; exact ⟨rfl, rfl⟩
theorem kf0_size {s : SSpec} (hs : okSpec s) (i : Nat) : (kf0 s i).size ≤ maxL := by
  obtain ⟨h1, h2⟩ := keep_bd hs i
  have := tailB_size (keep s i) (fun x hx => by have := h1 x hx; omega)
  unfold kf0 maxL; omega
theorem kf1_size {s : SSpec} (hs : okSpec s) (j i : Nat) : (kf1 s (itR s j).1 i).size ≤ maxL := by
  have h3 : (nbrs s (itR s j).1 i).length ≤ 63 := by unfold nbrs; rw [List.length_map]; exact listOf_len _ _
  have := keyB_size (ix (itR s j).1 i) (nbrs s (itR s j).1 i) (by have := cl_bd hs j i; omega) (fun y hy => by have := nbrs_bd hs j i y hy; omega)
  unfold kf1 maxL; omega

namespace prog11
namespace T
theorem map164 : MapT Tryd.prog 164 9 3 smE smD := mapT_str (by kernel_rfl) (by kernel_rfl)
theorem zv3 : ∀ w F, ∃ u, (zeroValue 3).run Tryd.prog w = .ok u w ∧ (int 0).p w F u := zeroV_of (v := .int .i64 0) (by kernel_rfl) _ (fun _ _ => eqv_rfl)
theorem ent119 : Ent Tryd.prog 119 := ent_of (by kernel_rfl)
theorem ent92 : Ent Tryd.prog 92 := ent_of (by kernel_rfl)
theorem ent94 : Ent Tryd.prog 94 := ent_of (by kernel_rfl)
theorem one134 : IsOne Tryd.prog 134 := isOne_of (by kernel_rfl)
theorem sl134 : IsSlice Tryd.prog 134 28 1 := isSlice_of (by kernel_rfl)
theorem one28 : IsOne Tryd.prog 28 := isOne_of (by kernel_rfl)
theorem sl28 : IsSlice Tryd.prog 28 3 1 := isSlice_of (by kernel_rfl)
theorem one3 : IsOne Tryd.prog 3 := isOne_of (by kernel_rfl)
theorem ent93 : Ent Tryd.prog 93 := ent_of (by kernel_rfl)
theorem z9 : ZeroIs Tryd.prog 9 [.string ⟨#[]⟩] := zeroIs_of (by kernel_rfl)
theorem one9 : IsOne Tryd.prog 9 := isOne_of (by kernel_rfl)
theorem ent95 : Ent Tryd.prog 95 := ent_of (by kernel_rfl)
theorem ent115 : Ent Tryd.prog 115 := ent_of (by kernel_rfl)
theorem mixed : Tryd.prog.follows .mixedOrders = true := by kernel_rfl
theorem fld69_1 : FieldAt Tryd.prog 69 1 1 := fieldAt_of (by kernel_rfl)
theorem agg25 : IsAgg Tryd.prog 25 2 := isAgg_of (by kernel_rfl)
theorem ent90 : Ent Tryd.prog 90 := ent_of (by kernel_rfl)
theorem ent89 : Ent Tryd.prog 89 := ent_of (by kernel_rfl)
theorem z134 : ZeroIs Tryd.prog 134 [.slice none 0 0] := zeroIs_of (by kernel_rfl)
theorem fld25_1 : FieldAt Tryd.prog 25 1 1 := fieldAt_of (by kernel_rfl)
theorem one23 : IsOne Tryd.prog 23 := isOne_of (by kernel_rfl)
theorem ent91 : Ent Tryd.prog 91 := ent_of (by kernel_rfl)
theorem z28 : ZeroIs Tryd.prog 28 [.slice none 0 0] := zeroIs_of (by kernel_rfl)
theorem ent62 : Ent Tryd.prog 62 := ent_of (by kernel_rfl)
theorem ent88 : Ent Tryd.prog 88 := ent_of (by kernel_rfl)
end T

theorem key0_ok (s : SSpec) (hs : okSpec s) (i : Nat) (hi : i < s.states.length) :
    Fn0 Tryd.prog 92 [int (i : Int), state (ix s.states i), tabbed (fp [sl 1 intsE (keeps s)])] (str (kf0 s i)) := by
  refine fnI Tryd.func92 rfl rfl (fun w0 F0 => ?_)
  have hkl := keeps_len s
  have hki := keeps_ix hi
  obtain ⟨hkb, hkn⟩ := keep_bd hs i
  rw [← hki] at hkb hkn
  refine fcC (inhS 1 rfl) (fun hS1 => ?_)
  obtain ⟨hxa1, hxn1⟩ := state_lens hS1
  refine tbI 2 9999 rfl ?_
  refine sq (rg (bx (key := 4) (cs := [sl 1 intE ((ix s.states i).accept), sl 1 intE ((ix s.states i).next)]) rfl fun b4 => (ag (nl (th (sq (rg (ag (nl (th (sq (sq (rg (lF rfl rfl T.one134 (mv (iF rfl rfl T.sl134 (by omega) (by first | exact gN (by omega) | exact gI (by omega) (by omega)) (lF rfl rfl T.one28 (fc (slenI 12 rfl) fun hm12 => (lnF rfl T.sl28 (mv (nl (th (bk ?_)))))))))))))))))))))))
  have hI0_0 : 0 ≤ (ix (keeps s) i).length := by
    first | omega | simp
  have hI0_1 : ({ data := #[] }) = tailB ((ix (keeps s) i).take 0) := by
    rfl
  refine lp (κ := Nat × ByteArray) (fun p => [(5, str ({ data := #[] })), (6, str p.2), (12, sl 1 intE (ix (keeps s) i)), (13, int ((ix (keeps s) i).length : Int)), (14, int (p.1 : Int)), (9999, tab)]) (fun p => [(4, cell b4 [sl 1 intE ((ix s.states i).accept), sl 1 intE ((ix s.states i).next)])]) (fun p => (p.1 ≤ (ix (keeps s) i).length) ∧ (p.2 = tailB ((ix (keeps s) i).take p.1))) (fun p => (ix (keeps s) i).length - p.1) ⟨0, { data := #[] }⟩ ⟨hI0_0, hI0_1⟩ ⟨id, id, id, id, id, id, trivial⟩ ⟨⟨rfl, id⟩, trivial⟩ ?_
  intro ⟨k, acc⟩ hG0
  obtain ⟨hk0, hI0⟩ : (k ≤ (ix (keeps s) i).length) ∧ (acc = tailB ((ix (keeps s) i).take k)) := hG0
  show Ct _ _ _ _ [(5, str ({ data := #[] })), (6, str acc), (12, sl 1 intE (ix (keeps s) i)), (13, int ((ix (keeps s) i).length : Int)), (14, int (k : Int)), (9999, tab)] [(4, cell b4 [sl 1 intE ((ix s.states i).accept), sl 1 intE ((ix s.states i).next)])] _
  refine sq (rg (bi rfl rfl b_lss (nl (th (sq ?_)))))
  refine cd rfl (fun hc0 => ?_) (fun hc0 => ?_)
  · try simp at hc0
    have hkx := hkb (ix (ix (keeps s) i) k) (ix_mem hc0)
    refine sk (th (sq (bk (sq (rg (iF rfl rfl T.sl28 (by omega) (by first | exact gN (by omega) | exact gI (by omega) (by omega)) (lF rfl rfl T.one3 (ag (nl (th (rg (mv (mv (tbU (ψ := tab) 19 9999 rfl rfl (cal0 (φs := [both (int (ix (ix (keeps s) i) k)) tab]) (φ := str (itoaB (ix (ix (keeps s) i) k))) ⟨rfl, trivial⟩ (Itoa.Itoa_ok (ix (ix (keeps s) i) k) (by omega) (by omega)) T.ent93 (bi rfl rfl (b_addS (by have h9 := itoa_size (n := ix (ix (keeps s) i) k) (by omega) (by omega); show 1 + (itoaB (ix (ix (keeps s) i) k)).size ≤ maxL; unfold maxL; omega)) (bi rfl rfl (b_addS (by have h9 := itoa_size (n := ix (ix (keeps s) i) k) (by omega) (by omega); have h10 := tailB_size ((ix (keeps s) i).take k) (fun x hx => by have := hkb x (List.mem_of_mem_take hx); omega); rw [List.length_take] at h10; rw [ByteArray.size_append, hI0]; show _ + (1 + _) ≤ maxL; unfold maxL; omega)) (ag (nl (eb (th (rg (bi rfl rfl (b_add (by unfold I64; omega)) (mv (nl ?_)))))))))))))))))))))))))
    have hN0 : (k + 1) ≤ (ix (keeps s) i).length := by
      first | omega | simp_all
    have hN1 : (acc ++ (({ data := #[32] }) ++ (itoaB (ix (ix (keeps s) i) k)))) = tailB ((ix (keeps s) i).take (k + 1)) := by
      rw [hI0, tailB_snoc, take_s hc0]
    exact ln (⟨k + 1, acc ++ (({ data := #[32] }) ++ (itoaB (ix (ix (keeps s) i) k)))⟩ : Nat × ByteArray) ⟨hN0, hN1⟩ (by first | omega | (dsimp only; omega)) ⟨id, id, id, id, id, id, trivial⟩ ⟨⟨rfl, id⟩, trivial⟩
  · try simp at hc0
    refine ex (xt_ (xt_ (xb (th (sq (rg (mv (ag (nl (th (rt ?_)))))))))))
    have hr0 : acc = (kf0 s i) := by
      rw [hI0, show k = (ix (keeps s) i).length by omega, List.take_length, hki]; rfl
    have hall : ∀ x0, acc = x0 → resAV [str acc] = resAV [str x0] := by rintro _ rfl; rfl
    exact rE () [.tmp 5] rfl [str acc] ⟨.tmp rfl, trivial⟩ (hall _ hr0) trivial (by first | exact .inr rfl | exact .inl rfl)

theorem key1_ok (s : SSpec) (hs : okSpec s) (j i : Nat) (hi : i < s.states.length) :
    Fn0 Tryd.prog 94 [int (i : Int), state (ix s.states i), fp [sl 1 intT (itR s j).1], tabbed (fp [sl 1 intsE (keeps s)])] (str (kf1 s (itR s j).1 i)) := by
  refine fnI Tryd.func94 rfl rfl (fun w0 F0 => ?_)
  have hkl := keeps_len s
  have hki := keeps_ix hi
  obtain ⟨hkb, hkn⟩ := keep_bd hs i
  rw [← hki] at hkb hkn
  have hcl := itR_len s j
  have hcb := cl_bd hs j
  have hci := hcb i
  refine fcC (inhS 1 rfl) (fun hS1 => ?_)
  obtain ⟨hxa1, hxn1⟩ := state_lens hS1
  refine tbI 3 9999 rfl ?_
  refine sq (rg (bx (key := 5) (cs := [sl 1 intE ((ix s.states i).accept), sl 1 intE ((ix s.states i).next)]) rfl fun b5 => (ag (nl (th (sq (rg (lF rfl rfl T.one28 (mv (iF rfl rfl T.sl28 (by omega) (by first | exact gN (by omega) | exact gI (by omega) (by omega)) (lF rfl rfl T.one3 (cal0 (φs := [both (int (ix ((itR s j).1) i)) tab]) (φ := str (itoaB (ix ((itR s j).1) i))) ⟨rfl, trivial⟩ (Itoa.Itoa_ok (ix ((itR s j).1) i) (by omega) (by omega)) T.ent93 (al (key := 7) T.z9 (ex_cons (ex_nil)) fun b7 => (sP (φ := str (itoaB (ix ((itR s j).1) i))) rfl rfl rfl T.one9 rfl (nl (th (sq (rg (ag (nl (th (sq (sq (rg (lF rfl rfl T.one134 (mv (iF rfl rfl T.sl134 (by omega) (by first | exact gN (by omega) | exact gI (by omega) (by omega)) (lF rfl rfl T.one28 (fc (slenI 20 rfl) fun hm20 => (lnF rfl T.sl28 (mv (nl (th (bk ?_))))))))))))))))))))))))))))))))))
  have hI0_0 : 0 ≤ (ix (keeps s) i).length := by
    first | omega | simp
  have hI0_1 : (0 : Int) = orAll ((ix (keeps s) i).take 0) ∧ 0 ≤ (0 : Int) ∧ (0 : Int) < 256 := by
    exact ⟨rfl, by omega, by omega⟩
  refine lp (κ := Nat × Int) (fun p => [(2, fp [sl 1 intT ((itR s j).1)]), (5, ptr 5 b5 0), (6, str ({ data := #[] })), (7, ptr 7 b7 0), (8, int p.2), (20, sl 1 intE (ix (keeps s) i)), (21, int ((ix (keeps s) i).length : Int)), (22, int (p.1 : Int)), (9999, tab)]) (fun p => [(5, cell b5 [sl 1 intE ((ix s.states i).accept), sl 1 intE ((ix s.states i).next)]), (7, cell b7 [str (itoaB (ix ((itR s j).1) i))])]) (fun p => (p.1 ≤ (ix (keeps s) i).length) ∧ (p.2 = orAll ((ix (keeps s) i).take p.1) ∧ 0 ≤ p.2 ∧ p.2 < 256)) (fun p => (ix (keeps s) i).length - p.1) ⟨0, (0 : Int)⟩ ⟨hI0_0, hI0_1⟩ ⟨id, id, id, id, id, id, id, id, id, trivial⟩ ⟨⟨rfl, id⟩, ⟨rfl, id⟩, trivial⟩ ?_
  intro ⟨k, cn⟩ hG0
  obtain ⟨hk0, hI0⟩ : (k ≤ (ix (keeps s) i).length) ∧ (cn = orAll ((ix (keeps s) i).take k) ∧ 0 ≤ cn ∧ cn < 256) := hG0
  show Ct _ _ _ _ [(2, fp [sl 1 intT ((itR s j).1)]), (5, ptr 5 b5 0), (6, str ({ data := #[] })), (7, ptr 7 b7 0), (8, int cn), (20, sl 1 intE (ix (keeps s) i)), (21, int ((ix (keeps s) i).length : Int)), (22, int (k : Int)), (9999, tab)] [(5, cell b5 [sl 1 intE ((ix s.states i).accept), sl 1 intE ((ix s.states i).next)]), (7, cell b7 [str (itoaB (ix ((itR s j).1) i))])] _
  refine sq (rg (bi rfl rfl b_lss (nl (th (sq ?_)))))
  refine cd rfl (fun hc0 => ?_) (fun hc0 => ?_)
  · try simp at hc0
    have hkx := hkb (ix (ix (keeps s) i) k) (ix_mem hc0)
    refine sk (th (sq (bk (sq (rg (iF rfl rfl T.sl28 (by omega) (by first | exact gN (by omega) | exact gI (by omega) (by omega)) (lF rfl rfl T.one3 (ag (nl (th (rg (mv (mv (bi rfl rfl (b_orI (by omega) (by omega) (by omega) (by omega)) (ag (nl (eb (th (rg (bi rfl rfl (b_add (by unfold I64; omega)) (mv (nl ?_))))))))))))))))))))))
    have hN0 : (k + 1) ≤ (ix (keeps s) i).length := by
      first | omega | simp_all
    have hN1 : ((cn.toNat ||| ((ix (ix (keeps s) i) k).toNat) : Nat) : Int) = orAll ((ix (keeps s) i).take (k + 1)) ∧ 0 ≤ ((cn.toNat ||| ((ix (ix (keeps s) i) k).toNat) : Nat) : Int) ∧ ((cn.toNat ||| ((ix (ix (keeps s) i) k).toNat) : Nat) : Int) < 256 := by
      refine ⟨?_, by omega, or_lt256 hI0.2.2 hkx.2⟩
      rw [take_s hc0, orAll_snoc, ← hI0.1]
    exact ln (⟨k + 1, ((cn.toNat ||| ((ix (ix (keeps s) i) k).toNat) : Nat) : Int)⟩ : Nat × Int) ⟨hN0, hN1⟩ (by first | omega | (dsimp only; omega)) ⟨id, id, id, id, id, id, id, id, id, trivial⟩ ⟨⟨rfl, id⟩, ⟨rfl, id⟩, trivial⟩
  · try simp at hc0
    have hcn : cn = orAll (keep s i) := by rw [hI0.1, show k = (ix (keeps s) i).length by omega, List.take_length, hki]
    refine ex (xt_ (xt_ (xb (th (sq (sq (rg (mv (cal0 (φs := [int cn]) (φ := clo 115 [fp [int cn]]) ⟨rfl, trivial⟩ (prog3.In_ok cn) T.ent95 (nl (th (bk ?_))))))))))))
    have hR0 : (itoaB (ix ((itR s j).1) i)) = keyB (ix (itR s j).1 i) (((listOf 63 cn).take 0).map fun a => ix (itR s j).1 (ix (ix s.states i).next a.toNat).toNat) := by
      exact keyB_nil _
    refine rf (κ := ByteArray) 900 (fun p => [(5, cell b5 [sl 1 intE ((ix s.states i).accept), sl 1 intE ((ix s.states i).next)]), (7, cell b7 [str p])]) (fun iR p => p = keyB (ix (itR s j).1 i) (((listOf 63 cn).take iR).map fun a => ix (itR s j).1 (ix (ix s.states i).next a.toNat).toNat)) (fun c p => False) rfl (InIt cn (by omega) (by omega)) T.ent115 rfl (fun _ => rfl) (fun _ => rfl) (itoaB (ix ((itR s j).1) i)) hR0 ⟨⟨rfl, id⟩, ⟨rfl, id⟩, trivial⟩ ?_ ?_ (fun k h => h.elim) (fun id k h => h.elim) (fun c k h => h.elim)
    · intro m0 acc x0 hG0 hx0 l R w1 M1 F1 hRd
      have hR0 : acc = keyB (ix (itR s j).1 i) (((listOf 63 cn).take m0).map fun a => ix (itR s j).1 (ix (ix s.states i).next a.toNat).toNat) := hG0
      obtain ⟨a, rfl, ha63, hha⟩ := listOf_get hx0
      rw [hcn] at hha
      have hgo := can_go hs hi hha
      have hcx := hcb (ix (ix s.states i).next a).toNat
      have hkz := keyB_size (ix (itR s j).1 i) (((listOf 63 cn).take m0).map fun a => ix (itR s j).1 (ix (ix s.states i).next a.toNat).toNat) (by omega) (fun y hy => by
        obtain ⟨z, _, rfl⟩ := List.mem_map.1 hy
        have := hcb (ix (ix s.states i).next z.toNat).toNat
        omega)
      rw [List.length_map, List.length_take] at hkz
      have hlo := listOf_len 63 cn
      refine rg (ag (nl (aq hRd rfl (bk (dr (nh := 12) [0, 0, 0, 4, 0, 28, 60, 126, 254, 510, 1022, 2047, 4095] T.mixed (by kernel_rfl) ?_)))))
      refine st_ rfl (fun _ _ _ gq kq => lP (gq.1.trans rfl) rfl rfl T.one9 kq) ?_
      refine st_ rfl (fun _ _ _ gq kq => lF (gq.1.trans rfl) rfl T.one28 kq) ?_
      refine st_ rfl (fun _ _ _ gq kq => fP (gq.1.trans rfl) T.fld69_1 kq) ?_
      refine st_ rfl (fun _ _ _ gq kq => lP (gq.1.trans rfl) rfl rfl T.one28 kq) ?_
      refine st_ rfl (fun _ _ _ gq kq => mv' (gq.1.trans rfl) kq) ?_
      refine st_ rfl (fun _ _ _ gq kq => iF (gq.1.trans rfl) (gq.2.1.trans rfl) T.sl28 (by omega) (by first | exact gN (by omega) | exact gI (by omega) (by omega)) kq) ?_
      refine st_ rfl (fun _ _ _ gq kq => lF (gq.1.trans rfl) rfl T.one3 kq) ?_
      refine st_ rfl (fun _ _ _ gq kq => iF (gq.1.trans rfl) (gq.2.1.trans rfl) T.sl28 (by omega) (by first | exact gN (by omega) | exact gI (by omega) (by omega)) kq) ?_
      refine st_ rfl (fun _ _ _ gq kq => lF (gq.1.trans rfl) rfl T.one3 kq) ?_
      refine st_ rfl (fun _ _ _ gq kq => cal0 (φs := [both (int (ix ((itR s j).1) ((ix ((ix s.states i).next) a).toNat))) tab]) (φ := str (itoaB (ix ((itR s j).1) ((ix ((ix s.states i).next) a).toNat)))) ⟨(gq.1.trans rfl), trivial⟩ (Itoa.Itoa_ok (ix ((itR s j).1) ((ix ((ix s.states i).next) a).toNat)) (by omega) (by omega)) T.ent93 kq) ?_
      refine st_ rfl (fun _ _ _ gq kq => bi rfl (gq.1.trans rfl) (b_addS (by have h9 := itoa_size (n := ix (itR s j).1 (ix (ix s.states i).next a).toNat) (by omega) (by omega); show 1 + (itoaB _).size ≤ maxL; unfold maxL; omega)) kq) ?_
      refine st_ rfl (fun _ _ _ gq kq => bi (gq.1.trans rfl) (gq.2.1.trans rfl) (b_addS (by have h9 := itoa_size (n := ix (itR s j).1 (ix (ix s.states i).next a).toNat) (by omega) (by omega); have h10 := hkz; rw [ByteArray.size_append, hR0]; show _ + (1 + _) ≤ maxL; unfold maxL; omega)) kq) ?_
      refine pn (sP (φ := str (acc ++ (({ data := #[32] }) ++ (itoaB (ix ((itR s j).1) ((ix ((ix s.states i).next) a).toNat)))))) rfl rfl rfl T.one9 rfl (nl (eb ?_)))
      have hN0 : (acc ++ (({ data := #[32] }) ++ (itoaB (ix ((itR s j).1) ((ix ((ix s.states i).next) a).toNat))))) = keyB (ix (itR s j).1 i) (((listOf 63 cn).take (m0 + 1)).map fun a => ix (itR s j).1 (ix (ix s.states i).next a.toNat).toNat) := by
        rw [hR0, keyB_snoc, take_at hx0, List.map_append]; rfl
      exact rqN (acc ++ (({ data := #[32] }) ++ (itoaB (ix ((itR s j).1) ((ix ((ix s.states i).next) a).toNat))))) hN0 ⟨⟨rfl, id⟩, ⟨rfl, id⟩, ⟨rfl, id⟩, trivial⟩
    · intro acc hG0
      have hR0 : acc = keyB (ix (itR s j).1 i) (((listOf 63 cn).take ((listOf 63 cn).length)).map fun a => ix (itR s j).1 (ix (ix s.states i).next a.toNat).toNat) := hG0
      refine eb (th (sq (rg (lP rfl rfl rfl T.one9 (ag (nl (th (rt ?_))))))))
      have hr0 : acc = (kf1 s (itR s j).1 i) := by
        rw [hR0, List.take_length, hcn]; rfl
      have hall : ∀ x0, acc = x0 → resAV [str acc] = resAV [str x0] := by rintro _ rfl; rfl
      exact rE () [.tmp 6] rfl [str acc] ⟨.tmp rfl, trivial⟩ (hall _ hr0) trivial (by first | exact .inr rfl | exact .inl rfl)

theorem rounds_ok (s : SSpec) :
    Fn0 Tryd.prog 62 [tabbed (spec s)] (clo 88 [tabbed (fp [strs s.actions, sl 2 stateE s.states])]) := by
  refine fnI Tryd.func62 rfl rfl (fun w0 F0 => ?_)
  refine tbI 0 9999 rfl ?_
  refine fcC (inhS 0 rfl) (fun hS0 => ?_)
  obtain ⟨hsa0, hss0, hse0⟩ := spec_lens hS0
  refine sq (rg (bx (key := 1) (cs := [sl 1 strE s.actions, sl 2 stateE s.states]) rfl fun b1 => (ag (nl (th (sq (rg (fzv 1 1 rfl rfl (tbU (ψ := tab) 1 9999 rfl rfl (mkf (ag (nl (th (rt ?_))))))))))))))
  exact rE () [.tmp 2] rfl [clo 88 [both (fp [sl 1 strE s.actions, sl 2 stateE s.states]) tab]] ⟨.tmp rfl, trivial⟩ (rfl) trivial (by first | exact .inr rfl | exact .inl rfl)

theorem RoundsIt (s : SSpec) (hs : okSpec s) :
    It Tryd.prog 88 [tabbed (fp [strs s.actions, sl 2 stateE s.states])] clE (roundsL s) := by
  intro y Y Z hlaw hz hY0
  refine fnI Tryd.func88 rfl rfl (fun w0 F0 => ?_)
  have hf1 := hs.few1; obtain ⟨hn1, hn2⟩ := chain (num0 hs)
  refine tbI 1 9999 rfl ?_
  refine sq ?_
  refine drH (nh := 6) [0, 0, 2, 7, 0, 31] [(none, []), (none, []), (none, []), (none, []), (some 3, []), (some 3, [3])] T.mixed (by kernel_rfl) (by kernel_rfl) ?_
  refine stv (d := 9) (fun β0 => agg [sl 1 strE s.actions, sl 2 stateE s.states]) [] rfl (fun β β' hb => rfl) (fun β0 _ _ _ _ gq gh kq => lFA (gq.1.trans rfl) T.agg25 (Nat.le_of_ble_eq_true rfl) kq) ?_
  refine stv (d := 10) (fun β0 => agg [sl 1 strE s.actions, sl 2 stateE s.states]) [] rfl (fun β β' hb => rfl) (fun β0 _ _ _ _ gq gh kq => lFA (gq.1.trans rfl) T.agg25 (Nat.le_of_ble_eq_true rfl) kq) ?_
  refine stv (d := 11) (fun β0 => sl 1 blE (hollow s)) [] rfl (fun β β' hb => rfl) (fun β0 _ _ _ _ gq gh kq => cal0 (φs := [agg [sl 1 strE s.actions, sl 2 stateE s.states]]) (φ := sl 1 blE (hollow s)) ⟨(gq.1.trans rfl), trivial⟩ (prog7.Hollows_ok s (by assumption)) T.ent90 kq) ?_
  refine stv (d := 12) (fun β0 => sl 1 intsE (keeps s)) [] rfl (fun β β' hb => rfl) (fun β0 _ _ _ _ gq gh kq => cal0 (φs := [agg [sl 1 strE s.actions, sl 2 stateE s.states], sl 1 blE (hollow s)]) (φ := sl 1 intsE (keeps s)) ⟨(gq.1.trans rfl), (gq.2.1.trans rfl), trivial⟩ (prog10.left_ok s (by assumption)) T.ent89 kq) ?_
  refine sta 3 T.z134 (ex_cons (ex_nil)) ?_
  refine stw 3 (fun β0 => cell (gbk (β0 4)) [sl 1 intsE (keeps s)]) [3] rfl (fun β β' hb => by first | rw [hb 4 rfl] | (dsimp only; rw [hb 4 rfl])) (fun β0 _ _ _ _ gq gh kq => sP (φ := sl 1 intsE (keeps s)) (gq.1.trans rfl) (gh.1.trans rfl) (gq.2.1.trans rfl) T.one134 rfl kq) ?_
  refine pnH fun β0 => (nl (th (sq (rg (fF rfl T.fld25_1 (lF rfl rfl T.one23 (fzv 3 3 rfl rfl (tbU (ψ := tab) 3 9999 rfl rfl (mkf (kn 16 (keyP s.states.length s.states (kf0 s)) rfl (fun h => clo_pf T.ent92 (fun i hi => key0_ok s hs i hi) h) (cal0 (φs := [sl 2 stateE s.states, keyP s.states.length s.states (kf0 s)]) (φ := tup [sl 1 intE ((numBy (fun x y => decide (kf0 s x = kf0 s y)) s.states.length).1), int ((numBy (fun x y => decide (kf0 s x = kf0 s y)) s.states.length).2.length : Int)]) ⟨rfl, rfl, trivial⟩ (prog5.numbered_ok s.states (kf0 s) (kf0_size hs) (by omega)) T.ent91 (mv (xt rfl rfl (xt rfl rfl (ag (ag (nl (th (bk ?_)))))))))))))))))))
  have hI0_0 : ((numBy (fun x y => decide (kf0 s x = kf0 s y)) s.states.length).1) = (itR s (0 + 1)).1 ∧ ((numBy (fun x y => decide (kf0 s x = kf0 s y)) s.states.length).2.length : Int) = ((itR s (0 + 1)).2 : Int) ∧ Y 0 hz ∧ ∀ r, r < 0 → ¬ stopP s r := by
    exact ⟨hn1, hn2, hY0, fun r hr => absurd hr (Nat.not_lt_zero r)⟩
  refine lp (κ := Nat × (List Int) × Int × HA) (fun p => [(0, eqv y), (1, fp [sl 1 strE s.actions, sl 2 stateE s.states]), (3, both (fp [sl 1 intsE (keeps s)]) tab), (4, sl 1 intE p.2.1), (5, int p.2.2.1), (9999, tab)]) (fun p => [(0, p.2.2.2)]) (fun p => p.2.1 = (itR s (p.1 + 1)).1 ∧ p.2.2.1 = ((itR s (p.1 + 1)).2 : Int) ∧ Y p.1 p.2.2.2 ∧ ∀ r, r < p.1 → ¬ stopP s r) (fun p => s.states.length - p.1) ⟨0, (numBy (fun x y => decide (kf0 s x = kf0 s y)) s.states.length).1, ((numBy (fun x y => decide (kf0 s x = kf0 s y)) s.states.length).2.length : Int), hz⟩ hI0_0 ⟨id, id, id, id, id, id, trivial⟩ ⟨⟨rfl, id⟩, trivial⟩ ?_
  intro ⟨j, cl, mn, hh⟩ hG0
  have hI0 : cl = (itR s (j + 1)).1 ∧ mn = ((itR s (j + 1)).2 : Int) ∧ Y j hh ∧ ∀ r, r < j → ¬ stopP s r := hG0
  show Ct _ _ _ _ [(0, eqv y), (1, fp [sl 1 strE s.actions, sl 2 stateE s.states]), (3, both (fp [sl 1 intsE (keeps s)]) tab), (4, sl 1 intE cl), (5, int mn), (9999, tab)] [(0, hh)] _
  obtain ⟨hm1, hm2⟩ := chain (num1 hs j)
  refine sq (sq (rg (mv (mv (callV (Hi := [(0, hh)]) rfl (by show FnV _ _ [ints cl] _ _ _; rw [hI0.1]; exact hlaw j hh (itR s (j + 1)).1 hI0.2.2.1 (rounds_at hs hI0.2.2.2)) ⟨⟨rfl, id⟩, trivial⟩ fun N bh => oan 22 rfl fun hres => (nl (th ?_)))))))
  refine cd rfl (fun hc0 => ?_) (fun hc0 => ?_)
  · try simp at hc0
    refine sk (th (bk (sq (rg (mv (tbU (ψ := tab) 23 9999 rfl rfl (kn 23 (sl 1 intT cl) rfl (ints_tab) (al (key := 6) T.z28 (ex_cons (ex_nil)) fun b6 => (sP (φ := sl 1 intT cl) rfl rfl rfl T.one28 rfl (nl (th (sq (rg (fF rfl T.fld25_1 (lF rfl rfl T.one23 (fzv 6 6 rfl rfl (mkf (kn 27 (keyP s.states.length s.states (kf1 s (itR s (j + 1)).1)) rfl (fun h => clo_pf T.ent94 (fun i hi => by rw [hI0.1]; exact key1_ok s hs (j + 1) i hi) h) (cal0 (φs := [sl 2 stateE s.states, keyP s.states.length s.states (kf1 s (itR s (j + 1)).1)]) (φ := tup [sl 1 intE ((numBy (fun x y => decide (kf1 s (itR s (j + 1)).1 x = kf1 s (itR s (j + 1)).1 y)) s.states.length).1), int ((numBy (fun x y => decide (kf1 s (itR s (j + 1)).1 x = kf1 s (itR s (j + 1)).1 y)) s.states.length).2.length : Int)]) ⟨rfl, rfl, trivial⟩ (prog5.numbered_ok s.states (kf1 s (itR s (j + 1)).1) (kf1_size hs (j + 1)) (by omega)) T.ent91 (mv (xt rfl rfl (xt rfl rfl (ag (ag (nl (th (sq (sq (rg (mv (mv (bi rfl rfl b_eql (nl (th ?_))))))))))))))))))))))))))))))))))
    refine cd rfl (fun hc1 => ?_) (fun hc1 => ?_)
    · try simp at hc1
      have hP : stopP s j := by
        have h2 := hI0.2.1
        rw [hm2, h2] at hc1
        exact Int.ofNat.inj hc1
      refine rt (rt_ (rb (rt_ (rb ?_))))
      exact r0 bh.2 rfl (fun _ => andp_any7 (.inl (by rw [rounds_len hs hI0.2.2.2 hP]; exact hres.1 hc0))) ⟨⟨rfl, id⟩, trivial⟩ (.inr rfl)
    · try simp at hc1
      have hno2 : ∀ r, r < j + 1 → ¬ stopP s r := fun r hr => by
        by_cases e : r = j
        · subst e
          intro hP
          refine hc1 ?_
          rw [hm2, hI0.2.1]
          exact congrArg Int.ofNat hP
        · exact hI0.2.2.2 r (by omega)
      refine sk (th (rg (mv (mv (ag (ag (nl (eb ?_))))))))
      have hN0 : ((numBy (fun x y => decide (kf1 s (itR s (j + 1)).1 x = kf1 s (itR s (j + 1)).1 y)) s.states.length).1) = (itR s ((j + 1) + 1)).1 ∧ ((numBy (fun x y => decide (kf1 s (itR s (j + 1)).1 x = kf1 s (itR s (j + 1)).1 y)) s.states.length).2.length : Int) = ((itR s ((j + 1) + 1)).2 : Int) ∧ Y (j + 1) bh.2 ∧ ∀ r, r < (j + 1) → ¬ stopP s r := by
        refine ⟨hm1, hm2, hres.1 hc0, hno2⟩
      exact ln (⟨j + 1, (numBy (fun x y => decide (kf1 s (itR s (j + 1)).1 x = kf1 s (itR s (j + 1)).1 y)) s.states.length).1, ((numBy (fun x y => decide (kf1 s (itR s (j + 1)).1 x = kf1 s (itR s (j + 1)).1 y)) s.states.length).2.length : Int), bh.2⟩ : Nat × (List Int) × Int × HA) hN0 (by have := stop_lt hs hI0.2.2.2; (try dsimp only); omega) ⟨id, id, id, id, id, id, trivial⟩ ⟨⟨rfl, id⟩, trivial⟩
  · try simp at hc0
    refine ex (xt_ (xt_ (xb ?_)))
    exact r0 bh.2 rfl (fun _ => andp_any7 (.inr (hres.2 hc0))) ⟨⟨rfl, id⟩, trivial⟩ (.inl rfl)

theorem Of_ok (s : SSpec) (hs : okSpec s) :
    Fn0 Tryd.prog 40 [tabbed (spec s)] (ints (classesR s)) := by
  refine fnI Tryd.func40 rfl rfl (fun w0 F0 => ?_)
  refine tbI 0 9999 rfl ?_
  refine fcC (inhS 0 rfl) (fun hS0 => ?_)
  obtain ⟨hsa0, hss0, hse0⟩ := spec_lens hS0
  refine sq (rg (bx (key := 1) (cs := [sl 1 strE s.actions, sl 2 stateE s.states]) rfl fun b1 => (ag (nl (th (sq (rg (al (key := 3) T.z28 (ex_cons (ex_nil)) fun b3 => (nl (th (sq (sq (rg (lPA rfl rfl T.agg25 rfl (tbU (ψ := tab) 5 9999 rfl rfl (cal0 (φs := [both (agg [sl 1 strE s.actions, sl 2 stateE s.states]) tab]) (φ := clo 88 [both (fp [sl 1 strE s.actions, sl 2 stateE s.states]) tab]) ⟨rfl, trivial⟩ (prog11.rounds_ok s) T.ent62 (nl (th (bk (kncC 3 0 (sl 1 intE []) rfl rfl slnil ?_))))))))))))))))))))
  have hR0 : ([] : List Int) = if 0 = 0 then [] else (itR s 0).1 := by
    rfl
  refine rf (κ := (List Int)) 900 (fun p => [(1, cell b1 [sl 1 strE s.actions, sl 2 stateE s.states]), (3, cell b3 [sl 1 intE p])]) (fun iR p => p = if iR = 0 then [] else (itR s iR).1) (fun c p => False) rfl (RoundsIt s hs) T.ent88 rfl (fun _ => rfl) (fun _ => rfl) ([] : List Int) hR0 ⟨⟨rfl, id⟩, ⟨rfl, id⟩, trivial⟩ ?_ ?_ (fun k h => h.elim) (fun id k h => h.elim) (fun c k h => h.elim)
  · intro m0 last x0 hG0 hx0 l R w1 M1 F1 hRd
    have hR0 : last = if m0 = 0 then [] else (itR s m0).1 := hG0
    refine rg (ag (nl (aq hRd rfl (bk (rg (mv (sP (φ := sl 1 intE x0) rfl rfl rfl T.one28 rfl (nl (eb ?_)))))))))
    have hN0 : x0 = if (m0 + 1) = 0 then [] else (itR s (m0 + 1)).1 := by
      rw [if_neg (by omega)]; exact rounds_get hx0
    exact rqN x0 hN0 ⟨⟨rfl, id⟩, ⟨rfl, id⟩, ⟨rfl, id⟩, trivial⟩
  · intro last hG0
    have hR0 : last = if ((roundsL s).length) = 0 then [] else (itR s ((roundsL s).length)).1 := hG0
    refine eb (th (sq (rg (lP rfl rfl rfl T.one28 (ag (nl (th (rt ?_))))))))
    have hr0 : last = (classesR s) := by
      rw [hR0, (rounds_last hs).1, if_neg (by omega)]; exact (rounds_last hs).2
    have hall : ∀ x0, last = x0 → resAV [sl 1 intE last] = resAV [sl 1 intE x0] := by rintro _ rfl; rfl
    exact rE () [.tmp 2] rfl [sl 1 intE last] ⟨.tmp rfl, trivial⟩ (hall _ hr0) trivial (by first | exact .inr rfl | exact .inl rfl)
end prog11
end Go.Proofs.YtolpjmllmlahfaaDoor
