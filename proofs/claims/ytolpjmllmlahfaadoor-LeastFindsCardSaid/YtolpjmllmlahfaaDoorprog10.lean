/- Walks of the functions of this claim, printed by a program of its own out of annotations. -/
import Derived.Test.YtolpjmllmlahfaaDoorprog5
import Derived.Test.YtolpjmllmlahfaaDoorprog9
import Derived.Test.YtolpjmllmlahfaaDoorKeys
namespace Go.Proofs.YtolpjmllmlahfaaDoor
open AL Go
set_option maxRecDepth 100000
set_option linter.all false

open ref01 ref03 ref04 ref06 prog prog2 prog3 prog4 prog5 prog6 prog7 prog8 prog9 Part Rungs LeftM TrimM Itoa Keys
def intsE : List Int → List AV := fun xs => [ints xs]
noncomputable def keepL (s : SSpec) (k : Nat) (z : Nat → List Int) : List (List Int) := (List.range s.states.length).map fun x => if x < k then keep s x else z x
theorem keepL_put {s : SSpec} {k : Nat} (hk : k < s.states.length) {l l' : List Int} : (keepL s k (fun x => if x = k then l else [])).set k l' = keepL s k (fun x => if x = k then l' else []) :=
  map_upd hk (by simp) (fun y _ hne => by by_cases h : y < k <;> simp [h, hne])
theorem keepL_zero (s : SSpec) : List.replicate s.states.length [] = keepL s 0 (fun _ => []) := by
  unfold keepL; simp [List.map_const']
theorem keepL_in (s : SSpec) (k : Nat) : keepL s k (fun _ => []) = keepL s k (fun x => if x = k then [] else []) := by
  unfold keepL; simp
theorem keepL_out (s : SSpec) (k : Nat) : keepL s k (fun x => if x = k then keep s k else []) = keepL s (k + 1) (fun _ => []) := by
  unfold keepL
  refine List.map_congr_left (fun x _ => ?_)
  by_cases h : x < k
  · simp [h, show x < k + 1 by omega]
  · by_cases e : x = k
    · subst e; simp
    · simp [h, e, show ¬ x < k + 1 by omega]
theorem keepL_at {s : SSpec} {k : Nat} (hk : k < s.states.length) (l : List Int) : ix (keepL s k (fun x => if x = k then l else [])) k = l := by
  unfold keepL; rw [ix_map_range hk]; simp
theorem keepL_len (s : SSpec) (k : Nat) (z : Nat → List Int) : (keepL s k z).length = s.states.length := by simp [keepL]
noncomputable def keeps (s : SSpec) : List (List Int) := (List.range s.states.length).map (keep s)
theorem keepL_end (s : SSpec) : keepL s s.states.length (fun _ => []) = keeps s := by
  unfold keepL keeps
  exact List.map_congr_left (fun x hx => by rw [if_pos (List.mem_range.1 hx)])

namespace prog10
namespace T
theorem map164 : MapT Tryd.prog 164 9 3 smE smD := mapT_str (by kernel_rfl) (by kernel_rfl)
theorem zv3 : ∀ w F, ∃ u, (zeroValue 3).run Tryd.prog w = .ok u w ∧ (int 0).p w F u := zeroV_of (v := .int .i64 0) (by kernel_rfl) _ (fun _ _ => eqv_rfl)
theorem ent119 : Ent Tryd.prog 119 := ent_of (by kernel_rfl)
theorem fld25_1 : FieldAt Tryd.prog 25 1 1 := fieldAt_of (by kernel_rfl)
theorem one23 : IsOne Tryd.prog 23 := isOne_of (by kernel_rfl)
theorem sl23 : IsSlice Tryd.prog 23 69 2 := isSlice_of (by kernel_rfl)
theorem mk134 : MakeT Tryd.prog 134 28 1 24 [.slice none 0 0] := makeT_of (by kernel_rfl) (by kernel_rfl)
theorem agg69 : IsAgg Tryd.prog 69 2 := isAgg_of (by kernel_rfl)
theorem z69 : ZeroIs Tryd.prog 69 [.slice none 0 0, .slice none 0 0] := zeroIs_of (by kernel_rfl)
theorem fld69_0 : FieldAt Tryd.prog 69 0 0 := fieldAt_of (by kernel_rfl)
theorem one28 : IsOne Tryd.prog 28 := isOne_of (by kernel_rfl)
theorem sl28 : IsSlice Tryd.prog 28 3 1 := isSlice_of (by kernel_rfl)
theorem one3 : IsOne Tryd.prog 3 := isOne_of (by kernel_rfl)
theorem one72 : IsOne Tryd.prog 72 := isOne_of (by kernel_rfl)
theorem sl72 : IsSlice Tryd.prog 72 4 1 := isSlice_of (by kernel_rfl)
theorem one4 : IsOne Tryd.prog 4 := isOne_of (by kernel_rfl)
theorem z4 : ZeroIs Tryd.prog 4 [.bool false] := zeroIs_of (by kernel_rfl)
theorem ent95 : Ent Tryd.prog 95 := ent_of (by kernel_rfl)
theorem ent115 : Ent Tryd.prog 115 := ent_of (by kernel_rfl)
theorem mixed : Tryd.prog.follows .mixedOrders = true := by kernel_rfl
theorem fld69_1 : FieldAt Tryd.prog 69 1 1 := fieldAt_of (by kernel_rfl)
theorem sl134 : IsSlice Tryd.prog 134 28 1 := isSlice_of (by kernel_rfl)
theorem mk28 : MakeT Tryd.prog 28 3 1 8 [.int .i64 0] := makeT_of (by kernel_rfl) (by kernel_rfl)
end T

theorem left_ok (s : SSpec) (hs : okSpec s) :
    Fn0 Tryd.prog 89 [spec s, bls (hollow s)] (sl 1 intsE (keeps s)) := by
  refine fnI Tryd.func89 rfl rfl (fun w0 F0 => ?_)
  have hf1 := hs.few1; have hn8 := hs.n8; have hhl := hollow_len s
  refine fcC (inhS 0 rfl) (fun hS0 => ?_)
  obtain ⟨hsa0, hss0, hse0⟩ := spec_lens hS0
  refine fcC (slenI 1 rfl) (fun hm1 => ?_)
  refine sq (rg (bx (key := 2) (cs := [sl 1 strE s.actions, sl 2 stateE s.states]) rfl fun b2 => (bx1 (key := 3) (φ := sl 1 blE (hollow s)) rfl fun b3 => (ag (nl (th (sq (rg (fP rfl T.fld25_1 (lP rfl rfl rfl T.one23 (fc (slenI 13 rfl) fun hm13 => (lnF rfl T.sl23 (mk (key := 15) (m := s.states.length) (enc := eqvE) (y := (.slice none 0 0 : Value)) rfl rfl T.mk134 (ex_cons ex_nil) (by unfold maxL; omega) (by unfold maxL; omega) fun v15 => (ag (nl (th (sq (sq (rg (nbB 151 s.states.length 3 1 intE (fP rfl T.fld25_1 (lP rfl rfl rfl T.one23 (lnF rfl T.sl23 (mv (nl (th (bk ?_)))))))))))))))))))))))))))
  have hI0_0 : 0 ≤ s.states.length := by
    first | omega | simp
  have hI0_1 : (List.replicate s.states.length (.slice none 0 0 : Value)).length = s.states.length ∧ (List.replicate s.states.length []) = keepL s 0 (fun _ => []) := by
    exact ⟨by simp, keepL_zero s⟩
  refine lp (κ := Nat × (List Value) × (List (List Int))) (fun p => [(3, ptr 3 b3 0), (4, eqv (.slice none 0 0)), (5, osl 15 v15), (17, sl 2 stateE s.states), (18, int (s.states.length : Int)), (19, int (p.1 : Int))]) (fun p => [(2, cell b2 [sl 1 strE s.actions, sl 2 stateE s.states]), (3, cell b3 [sl 1 blE (hollow s)]), (15, own v15 28 1 eqvE p.2.1), (151, bigown p.2.1 3 1 intE p.2.2 none)]) (fun p => (p.1 ≤ s.states.length) ∧ (p.2.1.length = s.states.length ∧ p.2.2 = keepL s p.1 (fun _ => []))) (fun p => s.states.length - p.1) ⟨0, List.replicate s.states.length (.slice none 0 0 : Value), List.replicate s.states.length []⟩ ⟨hI0_0, hI0_1⟩ ⟨id, id, id, id, id, id, trivial⟩ ⟨⟨rfl, id⟩, ⟨rfl, id⟩, ⟨rfl, id⟩, ⟨rfl, id⟩, trivial⟩ ?_
  intro ⟨k, us, xss⟩ hG0
  obtain ⟨hk0, hI0⟩ : (k ≤ s.states.length) ∧ (us.length = s.states.length ∧ xss = keepL s k (fun _ => [])) := hG0
  show Ct _ _ _ _ [(3, ptr 3 b3 0), (4, eqv (.slice none 0 0)), (5, osl 15 v15), (17, sl 2 stateE s.states), (18, int (s.states.length : Int)), (19, int (k : Int))] [(2, cell b2 [sl 1 strE s.actions, sl 2 stateE s.states]), (3, cell b3 [sl 1 blE (hollow s)]), (15, own v15 28 1 eqvE us), (151, bigown us 3 1 intE xss none)] _
  have hul := hI0.1
  have hxl0 : xss.length = s.states.length := by rw [hI0.2]; exact keepL_len _ _ _
  refine sq (rg (bi rfl rfl b_lss (nl (th (sq ?_)))))
  refine cd rfl (fun hc0 => ?_) (fun hc0 => ?_)
  · try simp at hc0
    have hox := hs.st k hc0
    have hacl := hox.acl
    have hxl := hox.len
    refine sk (th (sq (bk (sq (rg (mv (iF rfl rfl T.sl23 (by omega) (by first | exact gN (by omega) | exact gI (by omega) (by omega)) (lFA rfl T.agg69 (Nat.le_of_ble_eq_true rfl) (al (key := 7) T.z69 (ex_cons (ex_cons (ex_nil))) fun b7 => (ag (sPA (cs' := [sl 1 intE ((ix s.states k).accept), sl 1 intE ((ix s.states k).next)]) rfl rfl rfl T.agg69 rfl rfl (nl (th (sq (rg (fP rfl T.fld69_0 (lP rfl rfl rfl T.one28 (fc (slenI 25 rfl) fun hm25 => (lnF rfl T.sl28 (mv (nl (th (bk ?_)))))))))))))))))))))))
    have hI1_0 : 0 ≤ ((ix s.states k).accept).length := by
      first | omega | simp
    have hI1_1 : us.length = s.states.length ∧ xss = keepL s k (fun x => if x = k then ((ix s.states k).accept.take 0).filter (fun t => !ix (hollow s) k && !falls (ix s.states k) t (hollow s)) else []) := by
      exact ⟨hul, by rw [hI0.2, keepL_in]; rfl⟩
    refine lp (κ := Nat × (List Value) × (List (List Int))) (fun p => [(3, ptr 3 b3 0), (4, eqv (.slice none 0 0)), (5, osl 15 v15), (6, int (k : Int)), (7, ptr 7 b7 0), (17, sl 2 stateE s.states), (18, int (s.states.length : Int)), (19, int (k : Int)), (25, sl 1 intE ((ix s.states k).accept)), (26, int (((ix s.states k).accept).length : Int)), (27, int (p.1 : Int))]) (fun p => [(2, cell b2 [sl 1 strE s.actions, sl 2 stateE s.states]), (3, cell b3 [sl 1 blE (hollow s)]), (7, cell b7 [sl 1 intE ((ix s.states k).accept), sl 1 intE ((ix s.states k).next)]), (15, own v15 28 1 eqvE p.2.1), (151, bigown p.2.1 3 1 intE p.2.2 none)]) (fun p => (p.1 ≤ ((ix s.states k).accept).length) ∧ (p.2.1.length = s.states.length ∧ p.2.2 = keepL s k (fun x => if x = k then ((ix s.states k).accept.take p.1).filter (fun t => !ix (hollow s) k && !falls (ix s.states k) t (hollow s)) else []))) (fun p => ((ix s.states k).accept).length - p.1) ⟨0, us, xss⟩ ⟨hI1_0, hI1_1⟩ ⟨id, id, id, id, id, id, id, id, id, id, id, trivial⟩ ⟨⟨rfl, id⟩, ⟨rfl, id⟩, ⟨rfl, id⟩, ⟨rfl, id⟩, ⟨rfl, id⟩, trivial⟩ ?_
    intro ⟨k1, us3, xss3⟩ hG1
    obtain ⟨hk1, hI1⟩ : (k1 ≤ ((ix s.states k).accept).length) ∧ (us3.length = s.states.length ∧ xss3 = keepL s k (fun x => if x = k then ((ix s.states k).accept.take k1).filter (fun t => !ix (hollow s) k && !falls (ix s.states k) t (hollow s)) else [])) := hG1
    show Ct _ _ _ _ [(3, ptr 3 b3 0), (4, eqv (.slice none 0 0)), (5, osl 15 v15), (6, int (k : Int)), (7, ptr 7 b7 0), (17, sl 2 stateE s.states), (18, int (s.states.length : Int)), (19, int (k : Int)), (25, sl 1 intE ((ix s.states k).accept)), (26, int (((ix s.states k).accept).length : Int)), (27, int (k1 : Int))] [(2, cell b2 [sl 1 strE s.actions, sl 2 stateE s.states]), (3, cell b3 [sl 1 blE (hollow s)]), (7, cell b7 [sl 1 intE ((ix s.states k).accept), sl 1 intE ((ix s.states k).next)]), (15, own v15 28 1 eqvE us3), (151, bigown us3 3 1 intE xss3 none)] _
    have hul3 := hI1.1
    have hxl3 : xss3.length = s.states.length := by rw [hI1.2]; exact keepL_len _ _ _
    refine sq (rg (bi rfl rfl b_lss (nl (th (sq ?_)))))
    refine cd rfl (fun hc1 => ?_) (fun hc1 => ?_)
    · try simp at hc1
      have hac := hox.ac k1 hc1
      refine sk (th (sq (bk (sq (rg (iF rfl rfl T.sl28 (by omega) (by first | exact gN (by omega) | exact gI (by omega) (by omega)) (lF rfl rfl T.one3 (ag (nl (th (sq (rg (lP rfl rfl rfl T.one72 (mv (iF rfl rfl T.sl72 (by omega) (gN (by omega)) (lF rfl rfl T.one4 (no rfl (al (key := 10) T.z4 (ex_cons (ex_nil)) fun b10 => (sP (φ := bl (!(ix (hollow s) k))) rfl rfl rfl T.one4 rfl (nl (th (sq (sq (rg (mv (cal0 (φs := [int (ix ((ix s.states k).accept) k1)]) (φ := clo 115 [fp [int (ix ((ix s.states k).accept) k1)]]) ⟨rfl, trivial⟩ (prog3.In_ok (ix ((ix s.states k).accept) k1)) T.ent95 (nl (th (bk ?_)))))))))))))))))))))))))))))
      have hR0 : (!(ix (hollow s) k)) = (!ix (hollow s) k && ((listOf 63 (ix (ix s.states k).accept k1)).take 0).all (fun a => !ix (hollow s) (ix (ix s.states k).next a.toNat).toNat)) := by
        simp
      refine rf (κ := Bool) 900 (fun p => [(2, cell b2 [sl 1 strE s.actions, sl 2 stateE s.states]), (3, cell b3 [sl 1 blE (hollow s)]), (7, cell b7 [sl 1 intE ((ix s.states k).accept), sl 1 intE ((ix s.states k).next)]), (10, cell b10 [bl p]), (15, own v15 28 1 eqvE us3), (151, bigown us3 3 1 intE xss3 none)]) (fun iR p => p = (!ix (hollow s) k && ((listOf 63 (ix (ix s.states k).accept k1)).take iR).all (fun a => !ix (hollow s) (ix (ix s.states k).next a.toNat).toNat))) (fun c p => False) rfl (InIt (ix (ix s.states k).accept k1) (by omega) (by omega)) T.ent115 rfl (fun _ => rfl) (fun _ => rfl) (!(ix (hollow s) k)) hR0 ⟨⟨rfl, id⟩, ⟨rfl, id⟩, ⟨rfl, id⟩, ⟨rfl, id⟩, ⟨rfl, id⟩, ⟨rfl, id⟩, trivial⟩ ?_ ?_ (fun k h => h.elim) (fun id k h => h.elim) (fun c k h => h.elim)
      · intro m0 fi x0 hG0 hx0 l R w1 M1 F1 hRd
        have hR0 : fi = (!ix (hollow s) k && ((listOf 63 (ix (ix s.states k).accept k1)).take m0).all (fun a => !ix (hollow s) (ix (ix s.states k).next a.toNat).toNat)) := hG0
        obtain ⟨a, rfl, ha63, hha⟩ := listOf_get hx0
        have hgo := hox.go k1 hc1 a hha
        have hnx := hox.nx a hgo.1
        refine rg (ag (nl (aq hRd rfl (bk (dr (nh := 12) [0, 1, 3, 3, 11, 3, 59, 123, 255, 511, 1023, 2047, 4095] T.mixed (by kernel_rfl) ?_)))))
        refine st_ rfl (fun _ _ _ gq kq => lP (gq.1.trans rfl) rfl rfl T.one4 kq) ?_
        refine st_ rfl (fun _ _ _ gq kq => mv' (gq.1.trans rfl) kq) ?_
        refine sg_ (φ := sl 1 blE (hollow s)) rfl rfl rfl rfl (List.mem_of_elem_eq_true rfl) (fun hgd => ?_) ?_
        · have hgd' := hgd
          try simp at hgd'
          exact fun _ _ _ gq kq => lP (gq.1.trans rfl) rfl rfl T.one72 kq
        refine sg_ (φ := ptr 7 b7 1) rfl rfl rfl rfl (List.mem_of_elem_eq_true rfl) (fun hgd => ?_) ?_
        · have hgd' := hgd
          try simp at hgd'
          exact fun _ _ _ gq kq => fP (gq.1.trans rfl) T.fld69_1 kq
        refine sg_ (φ := sl 1 intE ((ix s.states k).next)) rfl rfl rfl rfl (List.mem_of_elem_eq_true rfl) (fun hgd => ?_) ?_
        · have hgd' := hgd
          try simp at hgd'
          exact fun _ _ _ gq kq => lP (gq.1.trans (gif_t hgd)) rfl rfl T.one28 kq
        refine sg_ (φ := int (a : Int)) rfl rfl rfl rfl (List.mem_of_elem_eq_true rfl) (fun hgd => ?_) ?_
        · have hgd' := hgd
          try simp at hgd'
          exact fun _ _ _ gq kq => mv' (gq.1.trans rfl) kq
        refine sg_ (φ := fp [int (ix ((ix s.states k).next) a)]) rfl rfl rfl rfl (List.mem_of_elem_eq_true rfl) (fun hgd => ?_) ?_
        · have hgd' := hgd
          try simp at hgd'
          exact fun _ _ _ gq kq => iF (gq.1.trans (gif_t hgd)) (gq.2.1.trans (gif_t hgd)) T.sl28 (by omega) (by first | exact gN (by omega) | exact gI (by omega) (by omega)) kq
        refine sg_ (φ := int (ix ((ix s.states k).next) a)) rfl rfl rfl rfl (List.mem_of_elem_eq_true rfl) (fun hgd => ?_) ?_
        · have hgd' := hgd
          try simp at hgd'
          exact fun _ _ _ gq kq => lF (gq.1.trans (gif_t hgd)) rfl T.one3 kq
        refine sg_ (φ := fp [bl (ix (hollow s) ((ix ((ix s.states k).next) a).toNat))]) rfl rfl rfl rfl (List.mem_of_elem_eq_true rfl) (fun hgd => ?_) ?_
        · have hgd' := hgd
          try simp at hgd'
          exact fun _ _ _ gq kq => iF (gq.1.trans (gif_t hgd)) (gq.2.1.trans (gif_t hgd)) T.sl72 (by omega) (by first | exact gN (by omega) | exact gI (by omega) (by omega)) kq
        refine sg_ (φ := bl (ix (hollow s) ((ix ((ix s.states k).next) a).toNat))) rfl rfl rfl rfl (List.mem_of_elem_eq_true rfl) (fun hgd => ?_) ?_
        · have hgd' := hgd
          try simp at hgd'
          exact fun _ _ _ gq kq => lF (gq.1.trans (gif_t hgd)) rfl T.one4 kq
        refine sg_ (φ := bl (!(ix (hollow s) ((ix ((ix s.states k).next) a).toNat)))) rfl rfl rfl rfl (List.mem_of_elem_eq_true rfl) (fun hgd => ?_) ?_
        · have hgd' := hgd
          try simp at hgd'
          exact fun _ _ _ gq kq => no (gq.1.trans (gif_t hgd)) kq
        refine st_ rfl (fun _ _ _ gq kq => pk (gq.1.trans rfl) (pk_and (x := .tmp 40) (gq.1.trans rfl) (gq.2.1.trans rfl) rfl) kq) ?_
        refine pn (sP (φ := bl (fi && (!(ix (hollow s) ((ix ((ix s.states k).next) a).toNat))))) rfl rfl rfl T.one4 rfl (nl (eb ?_)))
        have hN0 : (fi && (!(ix (hollow s) ((ix ((ix s.states k).next) a).toNat)))) = (!ix (hollow s) k && ((listOf 63 (ix (ix s.states k).accept k1)).take (m0 + 1)).all (fun a => !ix (hollow s) (ix (ix s.states k).next a.toNat).toNat)) := by
          rw [fine_snoc hx0, hR0]; simp [Bool.and_assoc]
        exact rqN (fi && (!(ix (hollow s) ((ix ((ix s.states k).next) a).toNat)))) hN0 ⟨⟨rfl, id⟩, ⟨rfl, id⟩, ⟨rfl, id⟩, ⟨rfl, id⟩, ⟨rfl, id⟩, ⟨rfl, id⟩, ⟨rfl, id⟩, trivial⟩
      · intro fi hG0
        have hR0 : fi = (!ix (hollow s) k && ((listOf 63 (ix (ix s.states k).accept k1)).take ((listOf 63 (ix (ix s.states k).accept k1)).length)).all (fun a => !ix (hollow s) (ix (ix s.states k).next a.toNat).toNat)) := hG0
        refine eb (th (sq (rg (lP rfl rfl rfl T.one4 (nl (th ?_))))))
        refine cd rfl (fun hc2 => ?_) (fun hc2 => ?_)
        · try simp at hc2
          have hxk : ix xss3 k = ((ix s.states k).accept.take k1).filter (fun t => !ix (hollow s) k && !falls (ix s.states k) t (hollow s)) := by rw [hI1.2]; exact keepL_at hc0 _
          have hxkl : (ix xss3 k).length ≤ 256 := by
            rw [hxk]
            have h1 := List.length_filter_le (fun t => !ix (hollow s) k && !falls (ix s.states k) t (hollow s)) ((ix s.states k).accept.take k1)
            have h2 := List.length_take_le k1 (ix s.states k).accept
            omega
          refine rg (mv (mv (mv (mv (iO rfl rfl rfl T.sl134 (by omega) (by omega) (lO rfl rfl (by first | exact gN (by omega) | exact gI (by omega) (by omega)) rfl T.one28 (tkB 151 57 k rfl rfl (by decide) (gK (by omega)) (gK (by omega)) (kn 57 (osl 57 (ix us3 k)) rfl eq_osl (mv (bsE (enc := intE) (xs := [(ix ((ix s.states k).accept) k1)]) (css := [[int (ix ((ix s.states k).accept) k1)]]) T.mk28 ⟨rfl, rfl, p1 (φ := int (ix ((ix s.states k).accept) k1)) rfl, trivial⟩ rfl rfl rfl rfl (ap (key := 57) (zs := [(ix ((ix s.states k).accept) k1)]) osl_eq rfl rfl rfl T.mk28 (by unfold maxL at *; simp; omega) (by unfold maxL at *; simp; omega) fun v60 => (iO rfl rfl rfl T.sl134 (by omega) (by omega) (sOO (k2 := 57) rfl rfl osl_is rfl T.one28 (by first | exact gN (by omega) | exact gI (by omega) (by omega)) rfl (y' := v60) rfl (gvB 151 57 k rfl rfl (by decide) (by omega) (nl (eb (th (rg (bi rfl rfl (b_add (by unfold I64; omega)) (mv (nl ?_)))))))))))))))))))))
          have hN0 : (k1 + 1) ≤ ((ix s.states k).accept).length := by
            first | omega | simp_all
          have hN1 : (us3.set k v60).length = s.states.length ∧ (xss3.set k ((ix xss3 k) ++ [(ix ((ix s.states k).accept) k1)])) = keepL s k (fun x => if x = k then ((ix s.states k).accept.take (k1 + 1)).filter (fun t => !ix (hollow s) k && !falls (ix s.states k) t (hollow s)) else []) := by
            have hfi : (!ix (hollow s) k && !falls (ix s.states k) (ix (ix s.states k).accept k1) (hollow s)) = true := by
              have h1 : fi = (!ix (hollow s) k && fine (ix s.states k) (ix (ix s.states k).accept k1) (hollow s)) := by rw [hR0, List.take_length]; rfl
              rw [fine_eq hox hn8 (ix_mem hc1)] at h1
              rw [← h1]; exact hc2
            refine ⟨by simpa using hI1.1, ?_⟩
            rw [hxk, hI1.2, keepL_put hc0, filter_take_succ hc1, hfi]; rfl
          exact ln (⟨k1 + 1, us3.set k v60, xss3.set k ((ix xss3 k) ++ [(ix ((ix s.states k).accept) k1)])⟩ : Nat × (List Value) × (List (List Int))) ⟨hN0, hN1⟩ (by first | omega | (dsimp only; omega)) ⟨id, id, id, id, id, id, id, id, id, id, id, trivial⟩ ⟨⟨rfl, id⟩, ⟨rfl, id⟩, ⟨rfl, id⟩, ⟨rfl, id⟩, ⟨rfl, id⟩, trivial⟩
        · try simp at hc2
          refine sk (eb (th (rg (bi rfl rfl (b_add (by unfold I64; omega)) (mv (nl ?_))))))
          have hN0 : (k1 + 1) ≤ ((ix s.states k).accept).length := by
            first | omega | simp_all
          have hN1 : us3.length = s.states.length ∧ xss3 = keepL s k (fun x => if x = k then ((ix s.states k).accept.take (k1 + 1)).filter (fun t => !ix (hollow s) k && !falls (ix s.states k) t (hollow s)) else []) := by
            have hfi : (!ix (hollow s) k && !falls (ix s.states k) (ix (ix s.states k).accept k1) (hollow s)) = false := by
              have h1 : fi = (!ix (hollow s) k && fine (ix s.states k) (ix (ix s.states k).accept k1) (hollow s)) := by rw [hR0, List.take_length]; rfl
              rw [fine_eq hox hn8 (ix_mem hc1)] at h1
              rw [← h1]; exact hc2
            refine ⟨hI1.1, ?_⟩
            rw [hI1.2, filter_take_succ hc1, hfi]; simp
          exact ln (⟨k1 + 1, us3, xss3⟩ : Nat × (List Value) × (List (List Int))) ⟨hN0, hN1⟩ (by first | omega | (dsimp only; omega)) ⟨id, id, id, id, id, id, id, id, id, id, id, trivial⟩ ⟨⟨rfl, id⟩, ⟨rfl, id⟩, ⟨rfl, id⟩, ⟨rfl, id⟩, ⟨rfl, id⟩, trivial⟩
    · try simp at hc1
      refine ex (xt_ (xt_ (xb (eb (th (rg (bi rfl rfl (b_add (by unfold I64; omega)) (mv (nl ?_)))))))))
      have hN0 : (k + 1) ≤ s.states.length := by
        first | omega | simp_all
      have hN1 : us3.length = s.states.length ∧ xss3 = keepL s (k + 1) (fun _ => []) := by
        refine ⟨hI1.1, ?_⟩
        rw [hI1.2, show k1 = (ix s.states k).accept.length by omega, List.take_length]
        exact keepL_out s k
      exact ln (⟨k + 1, us3, xss3⟩ : Nat × (List Value) × (List (List Int))) ⟨hN0, hN1⟩ (by first | omega | (dsimp only; omega)) ⟨id, id, id, id, id, id, trivial⟩ ⟨⟨rfl, id⟩, ⟨rfl, id⟩, ⟨rfl, id⟩, ⟨rfl, id⟩, trivial⟩
  · try simp at hc0
    refine ex (xt_ (xt_ (xb (th (sq (rg (mv (ag (nl (th (rt ?_)))))))))))
    refine fzBA 151 15 rfl rfl (by decide) ?_
    refine fzA 15 4 rfl rfl ?_
    have hr0 : xss = (keeps s) := by
      rw [hI0.2, show k = s.states.length by omega]; exact keepL_end s
    have hall : ∀ x0, xss = x0 → resAV [sl 1 (fun xs => [sl 1 intE xs]) xss] = resAV [sl 1 (fun xs => [sl 1 intE xs]) x0] := by rintro _ rfl; rfl
    exact rE () [.tmp 4] rfl [sl 1 (fun xs => [sl 1 intE xs]) xss] ⟨.tmp rfl, trivial⟩ (hall _ hr0) trivial (by first | exact .inr rfl | exact .inl rfl)
end prog10
end Go.Proofs.YtolpjmllmlahfaaDoor
