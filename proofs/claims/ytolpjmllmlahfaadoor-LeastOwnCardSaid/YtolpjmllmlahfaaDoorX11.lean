/- The walks of the functions and the plain laws. Own texts of this claim, packed: spoil, OwnM, prog17. -/
import Derived.Test.YtolpjmllmlahfaaDoorX03
import Derived.Test.YtolpjmllmlahfaaDoorX10
import Derived.Test.YtolpjmllmlahfaaDoorX06
import Derived.Test.YtolpjmllmlahfaaDoorX09
import Derived.Test.YtolpjmllmlahfaaDoorX07
set_option linter.all false


namespace Go.Proofs.YtolpjmllmlahfaaDoor
open AL Go
set_option maxRecDepth 100000
set_option linter.all false

open ref01 ref03
instance : Kinds intE 1 (fun _ => Sh.i) := kinds1 (fun _ => ⟨_, _, rfl⟩)
instance : Kinds strE 1 (fun _ => Sh.s) := kinds1 (fun _ => ⟨_, rfl⟩)
theorem sl_is {α : Type} {n : Nat} {enc : α → List AV} {xs : List α} {w : World} {F : Fz} {v : Value} (h : (sl n enc xs).p w F v) : ∃ A m c, v = .slice A m c := by
  have h2 := sl_sv h
  rw [← h2]; cases v <;> exact ⟨_, _, _, rfl⟩
theorem state_sl (y : SState) {w : World} {F : Fz} {us : List Value} (h : All2 w F (stateE y) us) (j : Nat) (u : Value) (hj : us[j]? = some u) : ∃ A m c, u = .slice A m c := by
  match us, h with
  | [a, b], ⟨h0, h1, _⟩ =>
    match j with
    | 0 => simp at hj; subst hj; exact sl_is h0
    | 1 => simp at hj; subst hj; exact sl_is h1
    | j + 2 => simp at hj

namespace spoil
namespace T
theorem fld25_0 : FieldAt Tryd.prog 25 0 0 := fieldAt_of (by kernel_rfl)
theorem one22 : IsOne Tryd.prog 22 := isOne_of (by kernel_rfl)
theorem sl22 : IsSlice Tryd.prog 22 9 1 := isSlice_of (by kernel_rfl)
theorem one9 : IsOne Tryd.prog 9 := isOne_of (by kernel_rfl)
theorem fld25_1 : FieldAt Tryd.prog 25 1 1 := fieldAt_of (by kernel_rfl)
theorem one23 : IsOne Tryd.prog 23 := isOne_of (by kernel_rfl)
theorem sl23 : IsSlice Tryd.prog 23 69 2 := isSlice_of (by kernel_rfl)
theorem fld69_0 : FieldAt Tryd.prog 69 0 0 := fieldAt_of (by kernel_rfl)
theorem one28 : IsOne Tryd.prog 28 := isOne_of (by kernel_rfl)
theorem sl28 : IsSlice Tryd.prog 28 3 1 := isSlice_of (by kernel_rfl)
theorem one3 : IsOne Tryd.prog 3 := isOne_of (by kernel_rfl)
theorem fld69_1 : FieldAt Tryd.prog 69 1 1 := fieldAt_of (by kernel_rfl)
theorem st69 : StructT Tryd.prog 69 [(0, 1), (1, 1)] [.slice none 0 0, .slice none 0 0] := structT_of (by kernel_rfl) (by kernel_rfl)
theorem agg69 : IsAgg Tryd.prog 69 2 := isAgg_of (by kernel_rfl)
end T

theorem Spoil_ok (al : List ByteArray) (sts : List SState) (W : World) (D : Fz) (vA vS : Value) (hA : (strs al).p W D (sv vA)) (hS : (sl 2 stateE sts).p W D (sv vS)) :
    AL.Fn Tryd.prog 25 [agg [eqv (sv vA), eqv (sv vS)]] [(100, rgz D W (firstZ (sv vS) 2 0))] (ι := Unit) (fun _ _ => tup []) (fun _ => [(100, rgz D W (firstZ (sv vS) 2 sts.length))]) := by
  refine fnI Tryd.func25 rfl rfl (fun w0 F0 => ?_)
  have hal : al.length ≤ 140737488355328 := sl_len hA
  have hsl : sts.length ≤ 140737488355328 := sl_len hS
  refine sq (rg (bx (key := 1) (cs := [eqv (sv vA), eqv (sv vS)]) rfl fun b1 => (nl (th (sq (sq (rg (fP rfl T.fld25_0 (lP rfl rfl rfl T.one22 (kn 7 (wv W D (sl 1 strE al)) rfl (eq_wv hA) (lenW (e := 9) rfl T.sl22 (mv (nl (th (bk ?_)))))))))))))))
  have hI0_0 : 0 ≤ al.length := by
    first | omega | simp
  refine lp (κ := Nat) (fun p => [(1, ptr 1 b1 0), (8, int (al.length : Int)), (9, int (p : Int))]) (fun p => [(1, cell b1 [eqv (sv vA), eqv (sv vS)]), (100, rgz D W (firstZ (sv vS) 2 0))]) (fun p => p ≤ al.length) (fun p => al.length - p) 0 hI0_0 ⟨id, id, id, trivial⟩ ⟨⟨rfl, id⟩, ⟨rfl, id⟩, trivial⟩ ?_
  intro k hG0
  have hk0 : k ≤ al.length := hG0
  refine sq (rg (bi rfl rfl b_lss (nl (th (sq ?_)))))
  refine cd rfl (fun hc0 => ?_) (fun hc0 => ?_)
  · try simp at hc0
    refine sk (th (sq (bk (sq (rg (mv (ag (nl (th (rg (fP rfl T.fld25_0 (lP rfl rfl rfl T.one22 (mv (kn 13 (wv W D (sl 1 strE al)) rfl (eq_wv hA) (idxW (fun _ => Sh.s) rfl rfl T.sl22 (by omega) (by omega) (stT (key := 100) (φ := str ({ data := #[115, 112, 111, 105, 108, 116] })) rfl rfl rfl T.one9 rfl (nl (eb (th (rg (bi rfl rfl (b_add (by unfold I64; omega)) (mv (nl ?_)))))))))))))))))))))))
    have hN0 : (k + 1) ≤ al.length := by
      first | omega | simp_all
    exact ln (k + 1) hN0 (by first | omega | (dsimp only; omega)) ⟨id, id, id, trivial⟩ ⟨⟨rfl, id⟩, ⟨rfl, id⟩, trivial⟩
  · try simp at hc0
    refine ex (xt_ (xt_ (xb (th (sq (rg (fP rfl T.fld25_1 (lP rfl rfl rfl T.one23 (kn 18 (wv W D (sl 2 stateE sts)) rfl (eq_wv hS) (lenW (e := 69) rfl T.sl23 (mv (nl (th (bk ?_))))))))))))))
    have hI1_0 : 0 ≤ sts.length := by
      first | omega | simp
    refine lp (κ := Nat) (fun p => [(1, ptr 1 b1 0), (19, int (sts.length : Int)), (20, int (p : Int))]) (fun p => [(1, cell b1 [eqv (sv vA), eqv (sv vS)]), (100, rgz D W (firstZ (sv vS) 2 p))]) (fun p => p ≤ sts.length) (fun p => sts.length - p) 0 hI1_0 ⟨id, id, id, trivial⟩ ⟨⟨rfl, id⟩, ⟨rfl, id⟩, trivial⟩ ?_
    intro k1 hG1
    have hk1 : k1 ≤ sts.length := hG1
    refine sq (rg (bi rfl rfl b_lss (nl (th (sq ?_)))))
    refine cd rfl (fun hc1 => ?_) (fun hc1 => ?_)
    · try simp at hc1
      refine sk (th (sq (bk (sq (rg (mv (ag (nl (th (sq (sq (rg (fP rfl T.fld25_1 (lP rfl rfl rfl T.one23 (mv (idxX (xs := sts) rfl hS rfl T.sl23 (by omega) (by omega) (fldX rfl T.fld69_0 (ldX (key := 100) (i := k1) (xs := sts) rfl rfl hS (gK (by omega)) rfl (by omega) T.one28 ?_))))))))))))))))))
      refine fc (wvI 28 rfl) (fun hl28 => ?_)
      have hl28b : (ix sts k1).accept.length ≤ 140737488355328 := hl28
      refine lenW (e := 3) rfl T.sl28 (mv (nl (th (bk ?_))))
      have hI2_0 : 0 ≤ ((ix sts k1).accept).length := by
        first | omega | simp
      refine lp (κ := Nat) (fun p => [(1, ptr 1 b1 0), (3, int (k1 : Int)), (19, int (sts.length : Int)), (20, int (k1 : Int)), (29, int (((ix sts k1).accept).length : Int)), (30, int (p : Int))]) (fun p => [(1, cell b1 [eqv (sv vA), eqv (sv vS)]), (100, rgz D W (firstZ (sv vS) 2 k1))]) (fun p => p ≤ ((ix sts k1).accept).length) (fun p => ((ix sts k1).accept).length - p) 0 hI2_0 ⟨id, id, id, id, id, id, trivial⟩ ⟨⟨rfl, id⟩, ⟨rfl, id⟩, trivial⟩ ?_
      intro k2 hG2
      have hk2 : k2 ≤ ((ix sts k1).accept).length := hG2
      refine sq (rg (bi rfl rfl b_lss (nl (th (sq ?_)))))
      refine cd rfl (fun hc2 => ?_) (fun hc2 => ?_)
      · try simp at hc2
        refine sk (th (sq (bk (sq (rg (mv (ag (nl (th (rg (fP rfl T.fld25_1 (lP rfl rfl rfl T.one23 (mv (idxX (xs := sts) rfl hS rfl T.sl23 (by omega) (by omega) (fldX rfl T.fld69_0 (ldX (key := 100) (i := k1) (xs := sts) rfl rfl hS (gK (by omega)) rfl (by omega) T.one28 (mv (idxW (fun _ => Sh.i) rfl rfl T.sl28 (by omega) (by omega) (stT (key := 100) (φ := int (-7)) rfl rfl rfl T.one3 rfl (nl (eb (th (rg (bi rfl rfl (b_add (by unfold I64; omega)) (mv (nl ?_))))))))))))))))))))))))))
        have hN0 : (k2 + 1) ≤ ((ix sts k1).accept).length := by
          first | omega | simp_all
        exact ln (k2 + 1) hN0 (by first | omega | (dsimp only; omega)) ⟨id, id, id, id, id, id, trivial⟩ ⟨⟨rfl, id⟩, ⟨rfl, id⟩, trivial⟩
      · try simp at hc2
        refine ex (xt_ (xt_ (xb (th (sq (sq (rg (fP rfl T.fld25_1 (lP rfl rfl rfl T.one23 (mv (idxX (xs := sts) rfl hS rfl T.sl23 (by omega) (by omega) (fldX rfl T.fld69_1 (ldX (key := 100) (i := k1) (xs := sts) rfl rfl hS (gK (by omega)) rfl (by omega) T.one28 ?_)))))))))))))
        refine fc (wvI 47 rfl) (fun hl47 => ?_)
        have hl47b : (ix sts k1).next.length ≤ 140737488355328 := hl47
        refine lenW (e := 3) rfl T.sl28 (mv (nl (th (bk ?_))))
        have hI3_0 : 0 ≤ ((ix sts k1).next).length := by
          first | omega | simp
        refine lp (κ := Nat) (fun p => [(1, ptr 1 b1 0), (3, int (k1 : Int)), (19, int (sts.length : Int)), (20, int (k1 : Int)), (48, int (((ix sts k1).next).length : Int)), (49, int (p : Int))]) (fun p => [(1, cell b1 [eqv (sv vA), eqv (sv vS)]), (100, rgz D W (firstZ (sv vS) 2 k1))]) (fun p => p ≤ ((ix sts k1).next).length) (fun p => ((ix sts k1).next).length - p) 0 hI3_0 ⟨id, id, id, id, id, id, trivial⟩ ⟨⟨rfl, id⟩, ⟨rfl, id⟩, trivial⟩ ?_
        intro k3 hG3
        have hk3 : k3 ≤ ((ix sts k1).next).length := hG3
        refine sq (rg (bi rfl rfl b_lss (nl (th (sq ?_)))))
        refine cd rfl (fun hc3 => ?_) (fun hc3 => ?_)
        · try simp at hc3
          refine sk (th (sq (bk (sq (rg (mv (ag (nl (th (rg (fP rfl T.fld25_1 (lP rfl rfl rfl T.one23 (mv (idxX (xs := sts) rfl hS rfl T.sl23 (by omega) (by omega) (fldX rfl T.fld69_1 (ldX (key := 100) (i := k1) (xs := sts) rfl rfl hS (gK (by omega)) rfl (by omega) T.one28 (mv (idxW (fun _ => Sh.i) rfl rfl T.sl28 (by omega) (by omega) (stT (key := 100) (φ := int (-7)) rfl rfl rfl T.one3 rfl (nl (eb (th (rg (bi rfl rfl (b_add (by unfold I64; omega)) (mv (nl ?_))))))))))))))))))))))))))
          have hN0 : (k3 + 1) ≤ ((ix sts k1).next).length := by
            first | omega | simp_all
          exact ln (k3 + 1) hN0 (by first | omega | (dsimp only; omega)) ⟨id, id, id, id, id, id, trivial⟩ ⟨⟨rfl, id⟩, ⟨rfl, id⟩, trivial⟩
        · try simp at hc3
          refine ex (xt_ (xt_ (xb (th (rg (fP rfl T.fld25_1 (lP rfl rfl rfl T.one23 (mv (bd (css := []) T.st69 (ex_cons (ex_cons (ex_nil))) trivial (idxX (xs := sts) rfl hS rfl T.sl23 (by omega) (by omega) (stZ (key := 100) (i := k1) (xs := sts) rfl rfl hS (by omega) state_sl T.agg69 rfl (nl (eb (th (rg (bi rfl rfl (b_add (by unfold I64; omega)) (mv (nl ?_))))))))))))))))))
          have hN0 : (k1 + 1) ≤ sts.length := by
            first | omega | simp_all
          exact ln (k1 + 1) hN0 (by first | omega | (dsimp only; omega)) ⟨id, id, id, trivial⟩ ⟨⟨rfl, id⟩, ⟨rfl, id⟩, trivial⟩
    · try simp at hc1
      refine ex (xt_ (xt_ (xb ?_)))
      obtain rfl : k1 = sts.length := by omega
      exact rE () [] rfl [] trivial (rfl) ⟨⟨rfl, id⟩, trivial⟩ (by first | exact .inr rfl | exact .inl rfl)
end spoil
end Go.Proofs.YtolpjmllmlahfaaDoor

/- How large what least hands over may be. -/


namespace Go.Proofs.YtolpjmllmlahfaaDoor
open AL Go ref01 ref03 ref04 ref06 MergeM Rungs TrimM LeftM TurnM
set_option linter.all false
namespace OwnM
theorem size_le {t : SSpec} {M : Nat} (h : ∀ x ∈ t.states, x.accept.length + x.next.length ≤ M) : size t ≤ t.actions.length + t.states.length + t.states.length * M := by
  have key : ∀ k, k ≤ t.states.length → part t k ≤ t.actions.length + t.states.length + k * M := by
    intro k
    induction k with
    | zero => intro _; unfold part; simp
    | succ k ih =>
      intro hk
      rw [part_succ (by omega), Nat.succ_mul]
      have := ih (by omega)
      have := h (ix t.states k) (ix_memS (by omega))
      omega
  exact key _ (Nat.le_refl _)
theorem ok_acc {s : SSpec} (hs : okSpec s) {x : SState} (hx : x ∈ s.states) : x.accept.length + x.next.length ≤ 264 := by
  obtain ⟨k, hk, rfl⟩ := List.getElem_of_mem hx
  rw [← ix_get hk]
  have h := hs.st k hk
  have := h.acl
  have := h.len
  have := hs.n8
  omega
theorem mout_mem {cl : List Int} {ts : List SState} : ∀ {k : Nat} {x : SState}, k ≤ ts.length → x ∈ mout cl ts k → ∃ y ∈ ts, x = mst cl y
  | 0, x, _, h => by cases h
  | k + 1, x, hk, h => by
    unfold mout at h
    split at h
    · rcases List.mem_append.1 h with h | h
      · exact mout_mem (by omega) h
      · exact ⟨ix ts k, ix_memS (by omega), by simpa using h⟩
    · exact mout_mem (by omega) h
theorem least_size {s : SSpec} (hs : okSpec s) : size (leastR s).1 ≤ 1000000 ∧ (leastR s).2.length ≤ 500 := by
  have hn8 := hs.n8
  have hf1 := hs.few1
  rw [← merged_eq hs]
  cases h0 : ix (hollow s) 0 with
  | true =>
    rw [merged_hol h0]
    refine ⟨?_, by simpa using hf1⟩
    have h := size_le (t := nothing s.actions) (M := 8) (fun x hx => by
      unfold nothing at hx
      simp at hx
      subst hx
      simpa using hn8)
    unfold nothing at h ⊢
    simp at h ⊢
    omega
  | false =>
    rw [merged_not h0]
    have hol := ord_le hs
    have hto := tS_ok hs
    have hl := tS_len s
    have hm := mout_len (classesR (tS s)) (tS s).states (ordS s).length
    refine ⟨?_, by rw [mat_len]; exact hf1⟩
    have h := size_le (t := ⟨s.actions, mout (classesR (tS s)) (tS s).states (ordS s).length⟩) (M := 264) (fun x hx => by
      obtain ⟨y, hy, rfl⟩ := mout_mem (by omega) hx
      have := ok_acc hto hy
      unfold mst
      simpa using this)
    have h2 : (mout (classesR (tS s)) (tS s).states (ordS s).length).length * 264 ≤ 500 * 264 := Nat.mul_le_mul_right _ (by omega)
    exact Nat.le_trans h (by
      show s.actions.length + (mout (classesR (tS s)) (tS s).states (ordS s).length).length + (mout (classesR (tS s)) (tS s).states (ordS s).length).length * 264 ≤ 1000000
      omega)
end OwnM
end Go.Proofs.YtolpjmllmlahfaaDoor





namespace Go.Proofs.YtolpjmllmlahfaaDoor
open AL Go
set_option maxRecDepth 100000
set_option linter.all false

open ref01 ref03 ref04 ref06 prog prog2 prog3 prog10 prog11 prog12 prog13 prog14 prog15 starts spoil Part TurnM Itoa OwnM
theorem lst_size (s : SSpec) : size (lstOf s).1 ≤ 1000000 ∧ (lstOf s).2.length ≤ 500 := by
  unfold lstOf
  split
  · next h => exact least_size (okSpec_of h)
  · exact ⟨by simp [size, part], by simp⟩
theorem cls_size (s : SSpec) : (clsOf s).length ≤ 500 := by
  unfold clsOf
  split
  · next h => rw [classes_len]; exact (okSpec_of h).few1
  · simp
theorem from_size (s : SSpec) (x : Int) : size (fromS s x) ≤ 1000000 := by
  unfold fromS
  split
  · next h => exact (least_size (turnedS_ok (okSpec_of h.1) h.2.1 h.2.2)).1
  · simp [size, part]
theorem res_size (s : SSpec) (l : List Int) : size (resS s l) ≤ 1000000 := by
  unfold resS
  split
  · next h =>
    have hs := okSpec_of h.1
    have hg := go_bd hs (fun _ => word_ix h.2.1) l.length (Nat.le_refl _)
    rw [List.take_length] at hg
    exact (least_size (turnedS_ok hs h.2.2 hg.2)).1
  · simp [size, part]

namespace prog17
namespace T
theorem map164 : MapT Tryd.prog 164 9 3 smE smD := mapT_str (by kernel_rfl) (by kernel_rfl)
theorem zv3 : ∀ w F, ∃ u, (zeroValue 3).run Tryd.prog w = .ok u w ∧ (int 0).p w F u := zeroV_of (v := .int .i64 0) (by kernel_rfl) _ (fun _ _ => eqv_rfl)
theorem ent119 : Ent Tryd.prog 119 := ent_of (by kernel_rfl)
theorem ent92 : Ent Tryd.prog 92 := ent_of (by kernel_rfl)
theorem ent94 : Ent Tryd.prog 94 := ent_of (by kernel_rfl)
theorem agg25 : IsAgg Tryd.prog 25 2 := isAgg_of (by kernel_rfl)
theorem ent8 : Ent Tryd.prog 8 := ent_of (by kernel_rfl)
theorem sl28 : IsSlice Tryd.prog 28 3 1 := isSlice_of (by kernel_rfl)
theorem ent9 : Ent Tryd.prog 9 := ent_of (by kernel_rfl)
theorem ent14 : Ent Tryd.prog 14 := ent_of (by kernel_rfl)
theorem mk28 : MakeT Tryd.prog 28 3 1 8 [.int .i64 0] := makeT_of (by kernel_rfl) (by kernel_rfl)
theorem z25 : ZeroIs Tryd.prog 25 [.slice none 0 0, .slice none 0 0] := zeroIs_of (by kernel_rfl)
theorem z50 : ZeroIs Tryd.prog 50 [.slice none 0 0, .slice none 0 0, .slice none 0 0, .slice none 0 0, .slice none 0 0, .slice none 0 0] := zeroIs_of (by kernel_rfl)
theorem ent15 : Ent Tryd.prog 15 := ent_of (by kernel_rfl)
theorem ent13 : Ent Tryd.prog 13 := ent_of (by kernel_rfl)
theorem ent23 : Ent Tryd.prog 23 := ent_of (by kernel_rfl)
theorem ent24 : Ent Tryd.prog 24 := ent_of (by kernel_rfl)
theorem ent16 : Ent Tryd.prog 16 := ent_of (by kernel_rfl)
theorem st50 : StructT Tryd.prog 50 [(0, 2), (2, 2), (4, 2)] [.slice none 0 0, .slice none 0 0, .slice none 0 0, .slice none 0 0, .slice none 0 0, .slice none 0 0] := arrT_of (by kernel_rfl) (by kernel_rfl)
theorem agg50 : IsAgg Tryd.prog 50 6 := isAgg_of (by kernel_rfl)
theorem mixed : Tryd.prog.follows .mixedOrders = true := by kernel_rfl
theorem arr50 : Tryd.prog.underlying 50 = some (.array 3 25) := by kernel_rfl
theorem ent19 : Ent Tryd.prog 19 := ent_of (by kernel_rfl)
theorem ent18 : Ent Tryd.prog 18 := ent_of (by kernel_rfl)
theorem one3 : IsOne Tryd.prog 3 := isOne_of (by kernel_rfl)
theorem ent25 : Ent Tryd.prog 25 := ent_of (by kernel_rfl)
end T

theorem LeastOwn_ok (s : SSpec) (hsm : smallSpec s) (x : Int) (l : List Int) :
    Fn0 Tryd.prog 5 [tabbed (spec s), int x, ints l] (bl true) := by
  refine fnI Tryd.func5 rfl rfl (fun w0 F0 => ?_)
  obtain ⟨hz0, hz00⟩ := lst_size s
  have hz1 := from_size s x
  have hz2 := res_size s l
  have hz3 := cls_size s
  refine tbI 0 9999 rfl ?_
  refine fcC (inhS 0 rfl) (fun hS0 => ?_)
  obtain ⟨hsa0, hss0, hse0⟩ := spec_lens hS0
  refine fcC (slenI 2 rfl) (fun hm2 => ?_)
  refine sq (rg (bx (key := 3) (cs := [sl 1 strE s.actions, sl 2 stateE s.states]) rfl fun b3 => (ag (nl (th (sq (sq (rg (lPA rfl rfl T.agg25 rfl (cal0 (φs := [agg [sl 1 strE s.actions, sl 2 stateE s.states]]) (φ := bl (lightS s)) ⟨rfl, trivial⟩ (prog14.light_ok s) T.ent8 (no rfl (mv ?_))))))))))))
  apply gOr (t := 29) (pd := 33) rfl
  rotate_left
  · intro hg0 fin
    have hg0' := hg0
    try simp at hg0'
    exact gy rfl rfl rfl hg0 (mv (gy rfl rfl rfl hg0 (lnF rfl T.sl28 (gy rfl rfl rfl hg0 (bi rfl rfl b_gtr (pkF rfl hg0 rfl (drp (X := [(32, _), (31, _), (30, _)]) ⟨rfl, rfl, rfl, trivial⟩ (fin))))))))
  · intro hg0 fin
    exact gn rfl rfl rfl hg0 rfl rfl (gn rfl rfl rfl hg0 rfl rfl (gn rfl rfl rfl hg0 rfl rfl (pkT rfl hg0 rfl (drp (X := [(32, _), (31, _), (30, _)]) ⟨rfl, rfl, rfl, trivial⟩ (fin)))))
  refine nl (th ?_)
  refine cd rfl (fun hc0 => ?_) (fun hc0 => ?_)
  · try simp at hc0
    refine sq (rg (calT (ψ := tab) (φs := []) (φ := bl true) trivial (prog14.awake_ok) T.ent9 9999 rfl rfl (ag (nl (th (rt (rt_ ?_)))))))
    exact rE () [.tmp 6] rfl [bl true] ⟨.tmp rfl, trivial⟩ (rfl) trivial (by first | exact .inr rfl | exact .inl rfl)
  · try simp at hc0
    have hsz := light_size hc0.1
    refine sk (th (sq (rg (lPA rfl rfl T.agg25 rfl (calW (φs := [agg [sl 1 strE s.actions, sl 2 stateE s.states]]) (φ := agg [sl 1 strE s.actions, sl 2 stateE s.states]) ⟨rfl, trivial⟩ (ref03.Copy_ok s (by omega)) T.ent14 (fun N hN => fun h => agg_le (cs := [fre N (sl 1 strE s.actions), fre N (sl 2 stateE s.states)]) (ds := [sl 1 strE s.actions, sl 2 stateE s.states]) ⟨fun h => nw_le h, fun h => nw_le h, trivial⟩ h) (mv (appendF (enc := intE) (ys := l) rfl rfl T.mk28 (by unfold maxL; omega) (al (key := 7) T.z25 (ex_cons (ex_cons (ex_nil))) fun b7 => (sPA (cs' := [sl 1 strE s.actions, sl 2 stateE s.states]) rfl rfl rfl T.agg25 rfl rfl (ag (nl (th (sq (rg (al (key := 9) T.z50 (ex_cons (ex_cons (ex_cons (ex_cons (ex_cons (ex_cons (ex_nil))))))) fun b9 => (nl (th (sq (rg (ag (kn 10 (sl 1 intE []) rfl slnil (nl (th (sq (sq (rg (mv (nl (th (bk ?_))))))))))))))))))))))))))))))
    refine kncC 9 0 (sl 1 strE []) rfl rfl slnil (kncC 9 1 (sl 2 stateE []) rfl rfl slnil (kncC 9 2 (sl 1 strE []) rfl rfl slnil (kncC 9 3 (sl 2 stateE []) rfl rfl slnil (kncC 9 4 (sl 1 strE []) rfl rfl slnil (kncC 9 5 (sl 2 stateE []) rfl rfl slnil ?_)))))
    have hI0_0 : 0 ≤ 2 := by
      first | omega | simp
    have hI0_1 : 0 = 0 ∨ ((⟨([] : List ByteArray), ([] : List SState)⟩ : SSpec) = (lstOf s).1 ∧ (⟨([] : List ByteArray), ([] : List SState)⟩ : SSpec) = fromS s x ∧ (⟨([] : List ByteArray), ([] : List SState)⟩ : SSpec) = resS s l ∧ ([] : List Int) = (lstOf s).2 ++ clsOf s) := by
      exact .inl rfl
    refine lp (κ := Nat × (List ByteArray) × (List SState) × (List ByteArray) × (List SState) × (List ByteArray) × (List SState) × (List Int)) (fun p => [(1, int x), (2, sl 1 intE l), (3, ptr 3 b3 0), (7, ptr 7 b7 0), (8, sl 1 intE l), (9, ptr 9 b9 0), (10, sl 1 intE p.2.2.2.2.2.2.2), (39, int (p.1 : Int)), (9999, tab)]) (fun p => [(3, cell b3 [sl 1 strE s.actions, sl 2 stateE s.states]), (7, cell b7 [sl 1 strE s.actions, sl 2 stateE s.states]), (9, cell b9 [sl 1 strE p.2.1, sl 2 stateE p.2.2.1, sl 1 strE p.2.2.2.1, sl 2 stateE p.2.2.2.2.1, sl 1 strE p.2.2.2.2.2.1, sl 2 stateE p.2.2.2.2.2.2.1])]) (fun p => (p.1 ≤ 2) ∧ (p.1 = 0 ∨ ((⟨p.2.1, p.2.2.1⟩ : SSpec) = (lstOf s).1 ∧ (⟨p.2.2.2.1, p.2.2.2.2.1⟩ : SSpec) = fromS s x ∧ (⟨p.2.2.2.2.2.1, p.2.2.2.2.2.2.1⟩ : SSpec) = resS s l ∧ p.2.2.2.2.2.2.2 = (lstOf s).2 ++ clsOf s))) (fun p => 2 - p.1) ⟨0, ([] : List ByteArray), ([] : List SState), ([] : List ByteArray), ([] : List SState), ([] : List ByteArray), ([] : List SState), ([] : List Int)⟩ ⟨hI0_0, hI0_1⟩ ⟨id, id, id, id, id, id, id, id, id, trivial⟩ ⟨⟨rfl, id⟩, ⟨rfl, id⟩, ⟨rfl, id⟩, trivial⟩ ?_
    intro ⟨k, a0, s0, a1, s1, a2, s2, nums⟩ hG0
    obtain ⟨hk0, hI0⟩ : (k ≤ 2) ∧ (k = 0 ∨ ((⟨a0, s0⟩ : SSpec) = (lstOf s).1 ∧ (⟨a1, s1⟩ : SSpec) = fromS s x ∧ (⟨a2, s2⟩ : SSpec) = resS s l ∧ nums = (lstOf s).2 ++ clsOf s)) := hG0
    show Ct _ _ _ _ [(1, int x), (2, sl 1 intE l), (3, ptr 3 b3 0), (7, ptr 7 b7 0), (8, sl 1 intE l), (9, ptr 9 b9 0), (10, sl 1 intE nums), (39, int (k : Int)), (9999, tab)] [(3, cell b3 [sl 1 strE s.actions, sl 2 stateE s.states]), (7, cell b7 [sl 1 strE s.actions, sl 2 stateE s.states]), (9, cell b9 [sl 1 strE a0, sl 2 stateE s0, sl 1 strE a1, sl 2 stateE s1, sl 1 strE a2, sl 2 stateE s2])] _
    refine sq (rg (bi rfl rfl b_lss (nl (th (sq ?_)))))
    refine cd rfl (fun hc1 => ?_) (fun hc1 => ?_)
    · try simp at hc1
      refine sk (th (sq (bk (sq (rg (mv (ag (nl (th (sq (rg (lPA rfl rfl T.agg25 rfl (tbU (ψ := tab) 43 9999 rfl rfl (calR (φs := [both (agg [sl 1 strE s.actions, sl 2 stateE s.states]) tab]) 440 (fun vs => tup [agg [eqv (sv (ix vs 0)), eqv (sv (ix vs 1))], eqv (sv (ix vs 2)), int (errOf s)]) [strs ((lstOf s).1).actions, sl 2 stateE ((lstOf s).1).states, ints (lstOf s).2] ⟨rfl, trivial⟩ (prog13.Least_ok s hsm) T.ent15 rfl (fun N _ _ _ h => res21x h) fun D44 vs44 => (mv (xt rfl rfl (xt rfl rfl (xt rfl rfl (al (key := 12) T.z25 (ex_cons (ex_cons (ex_nil))) fun b12 => (sPA (cs' := [eqv (sv (ix vs44 0)), eqv (sv (ix vs44 1))]) rfl rfl rfl T.agg25 rfl rfl (ag (ag (nl (th (sq (rg (lPA rfl rfl T.agg25 rfl (tbU (ψ := tab) 49 9999 rfl rfl (calR (φs := [both (agg [sl 1 strE s.actions, sl 2 stateE s.states]) tab]) 500 (fun vs => tup [eqv (sv (ix vs 0)), int (errOf s)]) [ints (clsOf s)] ⟨rfl, trivial⟩ (prog13.Classes_ok s hsm) T.ent13 rfl (fun N _ _ _ h => res1x h) fun D50 vs50 => (mv (xt rfl rfl (xt rfl rfl (ag (ag (nl (th (sq (rg (lPA rfl rfl T.agg25 rfl (mv (tbU (ψ := tab) 54 9999 rfl rfl (calR (φs := [both (agg [sl 1 strE s.actions, sl 2 stateE s.states]) tab, int x]) 560 (fun vs => tup [agg [eqv (sv (ix vs 0)), eqv (sv (ix vs 1))], int (fromE s x)]) [strs (fromS s x).actions, sl 2 stateE (fromS s x).states] ⟨rfl, rfl, trivial⟩ (prog15.From_ok s hsm x) T.ent23 rfl (fun N _ _ _ h => res2x h) fun D56 vs56 => (mv (xt rfl rfl (xt rfl rfl (al (key := 17) T.z25 (ex_cons (ex_cons (ex_nil))) fun b17 => (sPA (cs' := [eqv (sv (ix vs56 0)), eqv (sv (ix vs56 1))]) rfl rfl rfl T.agg25 rfl rfl (ag (nl (th (sq (rg (lPA rfl rfl T.agg25 rfl (mv (tbU (ψ := tab) 60 9999 rfl rfl (calR (φs := [both (agg [sl 1 strE s.actions, sl 2 stateE s.states]) tab, sl 1 intE l]) 620 (fun vs => tup [agg [eqv (sv (ix vs 0)), eqv (sv (ix vs 1))], bl (resB s l), int (resE s l)]) [strs (resS s l).actions, sl 2 stateE (resS s l).states] ⟨rfl, rfl, trivial⟩ (prog15.Residual_ok s hsm l) T.ent24 rfl (fun N _ _ _ h => res2xx h) fun D62 vs62 => (mv (xt rfl rfl (xt rfl rfl (xt rfl rfl (al (key := 19) T.z25 (ex_cons (ex_cons (ex_nil))) fun b19 => (sPA (cs' := [eqv (sv (ix vs62 0)), eqv (sv (ix vs62 1))]) rfl rfl rfl T.agg25 rfl rfl (ag (ag (nl (th (sq (rg (lPA rfl rfl T.agg25 rfl (tbU (ψ := tab) 66 9999 rfl rfl (cal0 (φs := [both (agg [sl 1 strE s.actions, sl 2 stateE s.states]) tab]) (φ := tup [bl (isOf s), int (errOf s)]) ⟨rfl, trivial⟩ (prog13.Is_ok s (by assumption)) T.ent16 (nl (th (sq ?_))))))))))))))))))))))))))))))))))))))))))))))))))))))))))))))))))))))))))
      refine drH (nh := 9) [0, 1, 0, 7, 0, 31, 63, 0, 255] [(none, [12]), (none, [440]), (none, [17]), (none, [560]), (none, [19]), (none, [620]), (none, []), (some 22, []), (some 22, [22])] T.mixed (by kernel_rfl) (by kernel_rfl) ?_
      refine stv (d := 68) (fun β0 => agg [eqv (sv (ix vs44 0)), eqv (sv (ix vs44 1))]) [12] rfl (fun β β' hb => rfl) (fun β0 _ _ _ _ gq gh kq => lPA (gq.1.trans rfl) (gh.1.trans rfl) T.agg25 rfl kq) ?_
      refine stv (d := 69) (fun β0 => agg [sl 1 strE (((lstOf s).1).actions), sl 2 stateE (((lstOf s).1).states)]) [440] rfl (fun β β' hb => rfl) (fun β0 _ _ _ _ gq gh kq => calF (φs := [spec ((lstOf s).1)]) (φ := spec ((lstOf s).1)) ⟨lreg2 (x := .tmp 68) (vs := vs44) (i := 0) (j := 1) 440 (gq.1.trans rfl) (gh.1.trans rfl) rfl rfl, trivial⟩ (ref03.Copy_ok ((lstOf s).1) hz0) T.ent14 (fun N _ _ _ h => agg_fre h) kq) ?_
      refine stv (d := 70) (fun β0 => agg [eqv (sv (ix vs56 0)), eqv (sv (ix vs56 1))]) [17] rfl (fun β β' hb => rfl) (fun β0 _ _ _ _ gq gh kq => lPA (gq.1.trans rfl) (gh.1.trans rfl) T.agg25 rfl kq) ?_
      refine stv (d := 71) (fun β0 => agg [sl 1 strE ((fromS s x).actions), sl 2 stateE ((fromS s x).states)]) [560] rfl (fun β β' hb => rfl) (fun β0 _ _ _ _ gq gh kq => calF (φs := [spec (fromS s x)]) (φ := spec (fromS s x)) ⟨lreg2 (x := .tmp 70) (vs := vs56) (i := 0) (j := 1) 560 (gq.1.trans rfl) (gh.1.trans rfl) rfl rfl, trivial⟩ (ref03.Copy_ok (fromS s x) hz1) T.ent14 (fun N _ _ _ h => agg_fre h) kq) ?_
      refine stv (d := 72) (fun β0 => agg [eqv (sv (ix vs62 0)), eqv (sv (ix vs62 1))]) [19] rfl (fun β β' hb => rfl) (fun β0 _ _ _ _ gq gh kq => lPA (gq.1.trans rfl) (gh.1.trans rfl) T.agg25 rfl kq) ?_
      refine stv (d := 73) (fun β0 => agg [sl 1 strE ((resS s l).actions), sl 2 stateE ((resS s l).states)]) [620] rfl (fun β β' hb => rfl) (fun β0 _ _ _ _ gq gh kq => calF (φs := [spec (resS s l)]) (φ := spec (resS s l)) ⟨lreg2 (x := .tmp 72) (vs := vs62) (i := 0) (j := 1) 620 (gq.1.trans rfl) (gh.1.trans rfl) rfl rfl, trivial⟩ (ref03.Copy_ok (resS s l) hz2) T.ent14 (fun N _ _ _ h => agg_fre h) kq) ?_
      refine stv (d := 74) (fun β0 => agg [sl 1 strE (((lstOf s).1).actions), sl 2 stateE (((lstOf s).1).states), sl 1 strE ((fromS s x).actions), sl 2 stateE ((fromS s x).states), sl 1 strE ((resS s l).actions), sl 2 stateE ((resS s l).states)]) [] rfl (fun β β' hb => rfl) (fun β0 _ _ _ _ gq gh kq => bd (css := [(0, _), (2, _), (4, _)]) T.st50 (ex_cons (ex_cons (ex_cons (ex_cons (ex_cons (ex_cons (ex_nil))))))) ⟨rfl, rfl, pA (cs := [sl 1 strE (((lstOf s).1).actions), sl 2 stateE (((lstOf s).1).states)]) (by exact (gq.1.trans rfl)), ⟨rfl, rfl, pA (cs := [sl 1 strE ((fromS s x).actions), sl 2 stateE ((fromS s x).states)]) (by exact (gq.2.1.trans rfl)), ⟨rfl, rfl, pA (cs := [sl 1 strE ((resS s l).actions), sl 2 stateE ((resS s l).states)]) (by exact (gq.2.2.1.trans rfl)), trivial⟩⟩⟩ kq) ?_
      refine sta 22 T.z50 (ex_cons (ex_cons (ex_cons (ex_cons (ex_cons (ex_cons (ex_nil))))))) ?_
      refine stw 22 (fun β0 => cell (gbk (β0 7)) [sl 1 strE (((lstOf s).1).actions), sl 2 stateE (((lstOf s).1).states), sl 1 strE ((fromS s x).actions), sl 2 stateE ((fromS s x).states), sl 1 strE ((resS s l).actions), sl 2 stateE ((resS s l).states)]) [22] rfl (fun β β' hb => by first | rw [hb 7 rfl] | (dsimp only; rw [hb 7 rfl])) (fun β0 _ _ _ _ gq gh kq => sPA (cs' := [sl 1 strE (((lstOf s).1).actions), sl 2 stateE (((lstOf s).1).states), sl 1 strE ((fromS s x).actions), sl 2 stateE ((fromS s x).states), sl 1 strE ((resS s l).actions), sl 2 stateE ((resS s l).states)]) (gq.1.trans rfl) (gh.1.trans rfl) (gq.2.1.trans rfl) T.agg50 rfl rfl kq) ?_
      refine pnH fun β0 => (nl (th (sq (rg (mv (nw 76 3 1 intE (apR (key := 76) (ys := (lstOf s).2) eqv_eq rfl (lreg (i := 2) 440 rfl rfl rfl) T.mk28 (by unfold maxL at *; simp; omega) (by unfold maxL at *; simp; omega) fun v76 => (mv (apR (key := 76) (ys := clsOf s) osl_eq rfl (lreg (i := 0) 500 rfl rfl rfl) T.mk28 (by unfold maxL at *; simp; omega) (by unfold maxL at *; simp; omega) fun v78 => (ag (nl (th (sq (sq (rg (mv (bi rfl rfl b_gtr (mv ?_))))))))))))))))))
      apply gAnd (t := 81) (pd := 110) rfl
      rotate_left
      · intro hg1 fin
        have hg1' := hg1
        try simp at hg1'
        refine gy rfl rfl rfl hg1 (iPAn rfl rfl T.arr50 T.agg25 rfl (gy rfl rfl rfl hg1 (lPA rfl rfl T.agg25 rfl (gy rfl rfl rfl hg1 (iPAn rfl rfl T.arr50 T.agg25 rfl (gy rfl rfl rfl hg1 (lPA rfl rfl T.agg25 rfl (gy rfl rfl rfl hg1 (cal0 (φs := [agg [sl 1 strE (((lstOf s).1).actions), sl 2 stateE (((lstOf s).1).states)], agg [sl 1 strE a0, sl 2 stateE s0]]) (φ := bl (decide ((lstOf s).1 = ⟨a0, s0⟩))) ⟨rfl, rfl, trivial⟩ (ref03.Same_ok ((lstOf s).1) ⟨a0, s0⟩) T.ent19 (gy rfl rfl rfl hg1 (no rfl (gy rfl rfl rfl hg1 (mv ?_)))))))))))))
        apply gOr (t := 88) (pd := 95) rfl
        rotate_left
        · intro hg2 fin
          have hg2' := hg2
          try simp at hg2'
          exact gy rfl rfl rfl hg2 (iPAn rfl rfl T.arr50 T.agg25 rfl (gy rfl rfl rfl hg2 (lPA rfl rfl T.agg25 rfl (gy rfl rfl rfl hg2 (iPAn rfl rfl T.arr50 T.agg25 rfl (gy rfl rfl rfl hg2 (lPA rfl rfl T.agg25 rfl (gy rfl rfl rfl hg2 (cal0 (φs := [agg [sl 1 strE ((fromS s x).actions), sl 2 stateE ((fromS s x).states)], agg [sl 1 strE a1, sl 2 stateE s1]]) (φ := bl (decide (fromS s x = ⟨a1, s1⟩))) ⟨rfl, rfl, trivial⟩ (ref03.Same_ok (fromS s x) ⟨a1, s1⟩) T.ent19 (gy rfl rfl rfl hg2 (no rfl (gy rfl rfl rfl hg1 (pkF rfl hg2 rfl (drp (X := [(94, _), (93, _), (92, _), (91, _), (90, _), (89, _)]) ⟨rfl, rfl, rfl, rfl, rfl, rfl, trivial⟩ (fin)))))))))))))))
        · intro hg2 fin
          exact gn rfl rfl rfl hg2 rfl rfl (gn rfl rfl rfl hg2 rfl rfl (gn rfl rfl rfl hg2 rfl rfl (gn rfl rfl rfl hg2 rfl rfl (gn rfl rfl rfl hg2 rfl rfl (gn rfl rfl rfl hg2 rfl rfl (gy rfl rfl rfl hg1 (pkT rfl hg2 rfl (drp (X := [(94, _), (93, _), (92, _), (91, _), (90, _), (89, _)]) ⟨rfl, rfl, rfl, rfl, rfl, rfl, trivial⟩ (fin)))))))))
        refine gy rfl rfl rfl hg1 (mv ?_)
        apply gOr (t := 96) (pd := 103) rfl
        rotate_left
        · intro hg3 fin
          have hg3' := hg3
          try simp at hg3'
          exact gy rfl rfl rfl hg3 (iPAn rfl rfl T.arr50 T.agg25 rfl (gy rfl rfl rfl hg3 (lPA rfl rfl T.agg25 rfl (gy rfl rfl rfl hg3 (iPAn rfl rfl T.arr50 T.agg25 rfl (gy rfl rfl rfl hg3 (lPA rfl rfl T.agg25 rfl (gy rfl rfl rfl hg3 (cal0 (φs := [agg [sl 1 strE ((resS s l).actions), sl 2 stateE ((resS s l).states)], agg [sl 1 strE a2, sl 2 stateE s2]]) (φ := bl (decide (resS s l = ⟨a2, s2⟩))) ⟨rfl, rfl, trivial⟩ (ref03.Same_ok (resS s l) ⟨a2, s2⟩) T.ent19 (gy rfl rfl rfl hg3 (no rfl (gy rfl rfl rfl hg1 (pkF rfl hg3 rfl (drp (X := [(102, _), (101, _), (100, _), (99, _), (98, _), (97, _)]) ⟨rfl, rfl, rfl, rfl, rfl, rfl, trivial⟩ (fin)))))))))))))))
        · intro hg3 fin
          exact gn rfl rfl rfl hg3 rfl rfl (gn rfl rfl rfl hg3 rfl rfl (gn rfl rfl rfl hg3 rfl rfl (gn rfl rfl rfl hg3 rfl rfl (gn rfl rfl rfl hg3 rfl rfl (gn rfl rfl rfl hg3 rfl rfl (gy rfl rfl rfl hg1 (pkT rfl hg3 rfl (drp (X := [(102, _), (101, _), (100, _), (99, _), (98, _), (97, _)]) ⟨rfl, rfl, rfl, rfl, rfl, rfl, trivial⟩ (fin)))))))))
        refine gy rfl rfl rfl hg1 (mv ?_)
        apply gOr (t := 104) (pd := 109) rfl
        rotate_left
        · intro hg4 fin
          have hg4' := hg4
          try simp at hg4'
          exact gy rfl rfl rfl hg4 (mv (gy rfl rfl rfl hg4 (mv (gy rfl rfl rfl hg4 (calB (φs := [sl 1 intE (([] ++ ((lstOf s).2)) ++ (clsOf s)), sl 1 intE nums]) ⟨.own 76 rfl rfl, .here rfl, trivial⟩ (ref01.SameInts_ok _ _) T.ent18 (gy rfl rfl rfl hg4 (no rfl (gy rfl rfl rfl hg1 (pkF rfl hg4 rfl (drp (X := [(108, _), (107, _), (106, _), (105, _)]) ⟨rfl, rfl, rfl, rfl, trivial⟩ (fin)))))))))))
        · intro hg4 fin
          exact gn rfl rfl rfl hg4 rfl rfl (gn rfl rfl rfl hg4 rfl rfl (gn rfl rfl rfl hg4 rfl rfl (gn rfl rfl rfl hg4 rfl rfl (gy rfl rfl rfl hg1 (pkT rfl hg4 rfl (drp (X := [(108, _), (107, _), (106, _), (105, _)]) ⟨rfl, rfl, rfl, rfl, trivial⟩ (fin)))))))
        exact pkT rfl hg1 rfl (drp (X := [(109, _), (104, _), (103, _), (96, _), (95, _), (88, _), (87, _), (86, _), (85, _), (84, _), (83, _), (82, _)]) ⟨rfl, rfl, rfl, rfl, rfl, rfl, rfl, rfl, rfl, rfl, rfl, rfl, trivial⟩ (fin))
      · intro hg1 fin
        exact gn rfl rfl rfl hg1 rfl rfl (gn rfl rfl rfl hg1 rfl rfl (gn rfl rfl rfl hg1 rfl rfl (gn rfl rfl rfl hg1 rfl rfl (gn rfl rfl rfl hg1 rfl rfl (gn rfl rfl rfl hg1 rfl rfl (gn rfl rfl rfl hg1 rfl rfl (gu rfl rfl rfl rfl rfl (gu rfl rfl rfl rfl rfl (gu rfl rfl rfl rfl rfl (gu rfl rfl rfl rfl rfl (gu rfl rfl rfl rfl rfl (gu rfl rfl rfl rfl rfl (gn rfl rfl rfl hg1 rfl rfl (gn rfl rfl rfl hg1 rfl rfl (gu rfl rfl rfl rfl rfl (gu rfl rfl rfl rfl rfl (gu rfl rfl rfl rfl rfl (gu rfl rfl rfl rfl rfl (gu rfl rfl rfl rfl rfl (gu rfl rfl rfl rfl rfl (gn rfl rfl rfl hg1 rfl rfl (gn rfl rfl rfl hg1 rfl rfl (gu rfl rfl rfl rfl rfl (gu rfl rfl rfl rfl rfl (gu rfl rfl rfl rfl rfl (gu rfl rfl rfl rfl rfl (gn rfl rfl rfl hg1 rfl rfl (pkF rfl hg1 rfl (drp (X := [(109, _), (108, _), (107, _), (106, _), (105, _), (104, _), (103, _), (102, _), (101, _), (100, _), (99, _), (98, _), (97, _), (96, _), (95, _), (94, _), (93, _), (92, _), (91, _), (90, _), (89, _), (88, _), (87, _), (86, _), (85, _), (84, _), (83, _), (82, _)]) ⟨rfl, rfl, rfl, rfl, rfl, rfl, rfl, rfl, rfl, rfl, rfl, rfl, rfl, rfl, rfl, rfl, rfl, rfl, rfl, rfl, rfl, rfl, rfl, rfl, rfl, rfl, rfl, rfl, trivial⟩ (fin))))))))))))))))))))))))))))))
      refine nl (th ?_)
      refine cd rfl (fun hc2 => ?_) (fun hc2 => ?_)
      · skip
        exfalso
        rcases hI0 with h | ⟨e1, e2, e3, e4⟩
        · subst h; simp at hc2
        · rw [e1, e2, e3, e4] at hc2; simp at hc2
      · skip
        refine sk (th (sq (rg (lPA rfl rfl T.agg50 rfl (mv (sPA (cs' := [sl 1 strE (((lstOf s).1).actions), sl 2 stateE (((lstOf s).1).states), sl 1 strE ((fromS s x).actions), sl 2 stateE ((fromS s x).states), sl 1 strE ((resS s l).actions), sl 2 stateE ((resS s l).states)]) rfl rfl rfl T.agg50 rfl rfl (ag (nl (th (sq (sq (rg (fz 76 10 rfl rfl (rgT 440 rfl fun W44 hW44 => (kn 13 (wv W44 D44 (ints (lstOf s).2)) rfl (eq_wv (leaf_ix hW44 rfl)) (mv (lenW (e := 3) rfl T.sl28 (mv (nl (th (bk ?_)))))))))))))))))))))
        have hI1_0 : 0 ≤ ((lstOf s).2).length := by
          first | omega | simp
        refine lp (κ := Nat) (fun p => [(1, int x), (2, sl 1 intE l), (3, ptr 3 b3 0), (7, ptr 7 b7 0), (8, sl 1 intE l), (9, ptr 9 b9 0), (10, sl 1 intE (([] ++ ((lstOf s).2)) ++ (clsOf s))), (12, ptr 12 b12 0), (13, wv W44 D44 (sl 1 intE ((lstOf s).2))), (15, eqv (sv (ix vs50 0))), (17, ptr 17 b17 0), (19, ptr 19 b19 0), (39, int (k : Int)), (114, int (((lstOf s).2).length : Int)), (115, int (p : Int)), (9999, tab)]) (fun p => [(3, cell b3 [sl 1 strE s.actions, sl 2 stateE s.states]), (7, cell b7 [sl 1 strE s.actions, sl 2 stateE s.states]), (9, cell b9 [sl 1 strE (((lstOf s).1).actions), sl 2 stateE (((lstOf s).1).states), sl 1 strE ((fromS s x).actions), sl 2 stateE ((fromS s x).states), sl 1 strE ((resS s l).actions), sl 2 stateE ((resS s l).states)]), (12, cell b12 [eqv (sv (ix vs44 0)), eqv (sv (ix vs44 1))]), (17, cell b17 [eqv (sv (ix vs56 0)), eqv (sv (ix vs56 1))]), (19, cell b19 [eqv (sv (ix vs62 0)), eqv (sv (ix vs62 1))]), (22, cell (gbk (β0 7)) [sl 1 strE (((lstOf s).1).actions), sl 2 stateE (((lstOf s).1).states), sl 1 strE ((fromS s x).actions), sl 2 stateE ((fromS s x).states), sl 1 strE ((resS s l).actions), sl 2 stateE ((resS s l).states)]), (440, rgz D44 W44 noZ), (500, reg D50 [ints (clsOf s)] vs50), (560, reg D56 [strs (fromS s x).actions, sl 2 stateE (fromS s x).states] vs56), (620, reg D62 [strs (resS s l).actions, sl 2 stateE (resS s l).states] vs62)]) (fun p => p ≤ ((lstOf s).2).length) (fun p => ((lstOf s).2).length - p) 0 hI1_0 ⟨id, id, id, id, id, id, id, id, id, id, id, id, id, id, id, id, trivial⟩ ⟨⟨rfl, id⟩, ⟨rfl, id⟩, ⟨rfl, id⟩, ⟨rfl, id⟩, ⟨rfl, id⟩, ⟨rfl, id⟩, ⟨rfl, id⟩, ⟨rfl, id⟩, ⟨rfl, id⟩, ⟨rfl, id⟩, ⟨rfl, id⟩, trivial⟩ ?_
        intro k1 hG1
        have hk1 : k1 ≤ ((lstOf s).2).length := hG1
        refine sq (rg (bi rfl rfl b_lss (nl (th (sq ?_)))))
        refine cd rfl (fun hc3 => ?_) (fun hc3 => ?_)
        · try simp at hc3
          refine sk (th (sq (bk (sq (rg (mv (ag (nl (th (rg (mv (mv (idxW (fun _ => Sh.i) rfl rfl T.sl28 (by omega) (by omega) (stT (key := 440) (φ := int (-7)) rfl rfl rfl T.one3 rfl (nl (eb (th (rg (bi rfl rfl (b_add (by unfold I64; omega)) (mv (nl ?_)))))))))))))))))))))
          have hN0 : (k1 + 1) ≤ ((lstOf s).2).length := by
            first | omega | simp_all
          exact ln (k1 + 1) hN0 (by first | omega | (dsimp only; omega)) ⟨id, id, id, id, id, id, id, id, id, id, id, id, id, id, id, id, trivial⟩ ⟨⟨rfl, id⟩, ⟨rfl, id⟩, ⟨rfl, id⟩, ⟨rfl, id⟩, ⟨rfl, id⟩, ⟨rfl, id⟩, ⟨rfl, id⟩, ⟨rfl, id⟩, ⟨rfl, id⟩, ⟨rfl, id⟩, ⟨rfl, id⟩, trivial⟩
        · try simp at hc3
          refine ex (xt_ (xt_ (xb (th (sq (sq (rg (rgT 500 rfl fun W50 hW50 => (kn 15 (wv W50 D50 (ints (clsOf s))) rfl (eq_wv (leaf_ix hW50 rfl)) (mv (lenW (e := 3) rfl T.sl28 (mv (nl (th (bk ?_)))))))))))))))
          have hI2_0 : 0 ≤ (clsOf s).length := by
            first | omega | simp
          refine lp (κ := Nat) (fun p => [(1, int x), (2, sl 1 intE l), (3, ptr 3 b3 0), (7, ptr 7 b7 0), (8, sl 1 intE l), (9, ptr 9 b9 0), (10, sl 1 intE (([] ++ ((lstOf s).2)) ++ (clsOf s))), (12, ptr 12 b12 0), (15, wv W50 D50 (sl 1 intE (clsOf s))), (17, ptr 17 b17 0), (19, ptr 19 b19 0), (39, int (k : Int)), (123, int ((clsOf s).length : Int)), (124, int (p : Int)), (9999, tab)]) (fun p => [(3, cell b3 [sl 1 strE s.actions, sl 2 stateE s.states]), (7, cell b7 [sl 1 strE s.actions, sl 2 stateE s.states]), (9, cell b9 [sl 1 strE (((lstOf s).1).actions), sl 2 stateE (((lstOf s).1).states), sl 1 strE ((fromS s x).actions), sl 2 stateE ((fromS s x).states), sl 1 strE ((resS s l).actions), sl 2 stateE ((resS s l).states)]), (12, cell b12 [eqv (sv (ix vs44 0)), eqv (sv (ix vs44 1))]), (17, cell b17 [eqv (sv (ix vs56 0)), eqv (sv (ix vs56 1))]), (19, cell b19 [eqv (sv (ix vs62 0)), eqv (sv (ix vs62 1))]), (22, cell (gbk (β0 7)) [sl 1 strE (((lstOf s).1).actions), sl 2 stateE (((lstOf s).1).states), sl 1 strE ((fromS s x).actions), sl 2 stateE ((fromS s x).states), sl 1 strE ((resS s l).actions), sl 2 stateE ((resS s l).states)]), (440, rgz D44 W44 noZ), (500, rgz D50 W50 noZ), (560, reg D56 [strs (fromS s x).actions, sl 2 stateE (fromS s x).states] vs56), (620, reg D62 [strs (resS s l).actions, sl 2 stateE (resS s l).states] vs62)]) (fun p => p ≤ (clsOf s).length) (fun p => (clsOf s).length - p) 0 hI2_0 ⟨id, id, id, id, id, id, id, id, id, id, id, id, id, id, id, trivial⟩ ⟨⟨rfl, id⟩, ⟨rfl, id⟩, ⟨rfl, id⟩, ⟨rfl, id⟩, ⟨rfl, id⟩, ⟨rfl, id⟩, ⟨rfl, id⟩, ⟨rfl, id⟩, ⟨rfl, id⟩, ⟨rfl, id⟩, ⟨rfl, id⟩, trivial⟩ ?_
          intro k2 hG2
          have hk2 : k2 ≤ (clsOf s).length := hG2
          refine sq (rg (bi rfl rfl b_lss (nl (th (sq ?_)))))
          refine cd rfl (fun hc4 => ?_) (fun hc4 => ?_)
          · try simp at hc4
            refine sk (th (sq (bk (sq (rg (mv (ag (nl (th (rg (mv (mv (idxW (fun _ => Sh.i) rfl rfl T.sl28 (by omega) (by omega) (stT (key := 500) (φ := int (-7)) rfl rfl rfl T.one3 rfl (nl (eb (th (rg (bi rfl rfl (b_add (by unfold I64; omega)) (mv (nl ?_)))))))))))))))))))))
            have hN0 : (k2 + 1) ≤ (clsOf s).length := by
              first | omega | simp_all
            exact ln (k2 + 1) hN0 (by first | omega | (dsimp only; omega)) ⟨id, id, id, id, id, id, id, id, id, id, id, id, id, id, id, trivial⟩ ⟨⟨rfl, id⟩, ⟨rfl, id⟩, ⟨rfl, id⟩, ⟨rfl, id⟩, ⟨rfl, id⟩, ⟨rfl, id⟩, ⟨rfl, id⟩, ⟨rfl, id⟩, ⟨rfl, id⟩, ⟨rfl, id⟩, ⟨rfl, id⟩, trivial⟩
          · try simp at hc4
            refine ex (xt_ (xt_ (xb (th (sq (rg (lPA rfl rfl T.agg25 rfl (rgM (Z' := firstZ (sv (ix vs44 1)) 2 0) 440 rfl (fun _ _ h => h.elim) (cal (Hi := [(440, rgz D44 W44 (firstZ (sv (ix vs44 1)) 2 0))]) (φs := [agg [eqv (sv (ix vs44 0)), eqv (sv (ix vs44 1))]]) ⟨rfl, trivial⟩ (rekeyIO 100 440 (Spoil_ok ((lstOf s).1).actions ((lstOf s).1).states W44 D44 (ix vs44 0) (ix vs44 1) (leaf_ix hW44 rfl) (leaf_ix hW44 rfl))) T.ent25 ⟨⟨rfl, id⟩, trivial⟩ fun _ _ => (nl (th (sq (rg (lPA rfl rfl T.agg25 rfl (rgT 560 rfl fun W56 hW56 => (rgM (Z' := firstZ (sv (ix vs56 1)) 2 0) 560 rfl (fun _ _ h => h.elim) (cal (Hi := [(560, rgz D56 W56 (firstZ (sv (ix vs56 1)) 2 0))]) (φs := [agg [eqv (sv (ix vs56 0)), eqv (sv (ix vs56 1))]]) ⟨rfl, trivial⟩ (rekeyIO 100 560 (Spoil_ok (fromS s x).actions (fromS s x).states W56 D56 (ix vs56 0) (ix vs56 1) (leaf_ix hW56 rfl) (leaf_ix hW56 rfl))) T.ent25 ⟨⟨rfl, id⟩, trivial⟩ fun _ _ => (nl (th (sq (rg (lPA rfl rfl T.agg25 rfl (rgT 620 rfl fun W62 hW62 => (rgM (Z' := firstZ (sv (ix vs62 1)) 2 0) 620 rfl (fun _ _ h => h.elim) (cal (Hi := [(620, rgz D62 W62 (firstZ (sv (ix vs62 1)) 2 0))]) (φs := [agg [eqv (sv (ix vs62 0)), eqv (sv (ix vs62 1))]]) ⟨rfl, trivial⟩ (rekeyIO 100 620 (Spoil_ok (resS s l).actions (resS s l).states W62 D62 (ix vs62 0) (ix vs62 1) (leaf_ix hW62 rfl) (leaf_ix hW62 rfl))) T.ent25 ⟨⟨rfl, id⟩, trivial⟩ fun _ _ => (nl (th (sq (rg (lPA rfl rfl T.agg25 rfl (lPA rfl rfl T.agg25 rfl (cal0 (φs := [agg [sl 1 strE s.actions, sl 2 stateE s.states], agg [sl 1 strE s.actions, sl 2 stateE s.states]]) (φ := bl (decide (s = s))) ⟨rfl, rfl, trivial⟩ (ref03.Same_ok s s) T.ent19 (no rfl (mv ?_))))))))))))))))))))))))))))))))))
            apply gOr (t := 141) (pd := 146) rfl
            rotate_left
            · intro hg5 fin
              have hg5' := hg5
              try simp at hg5'
              exact gy rfl rfl rfl hg5 (mv (gy rfl rfl rfl hg5 (mv (gy rfl rfl rfl hg5 (cal0 (φs := [sl 1 intE l, sl 1 intE l]) (φ := bl (decide (l = l))) ⟨rfl, rfl, trivial⟩ (ref01.SameInts_ok _ _) T.ent18 (gy rfl rfl rfl hg5 (no rfl (pkF rfl hg5 rfl (drp (X := [(145, _), (144, _), (143, _), (142, _)]) ⟨rfl, rfl, rfl, rfl, trivial⟩ (fin))))))))))
            · intro hg5 fin
              exact gn rfl rfl rfl hg5 rfl rfl (gn rfl rfl rfl hg5 rfl rfl (gn rfl rfl rfl hg5 rfl rfl (gn rfl rfl rfl hg5 rfl rfl (pkT rfl hg5 rfl (drp (X := [(145, _), (144, _), (143, _), (142, _)]) ⟨rfl, rfl, rfl, rfl, trivial⟩ (fin))))))
            refine nl (th ?_)
            refine cd rfl (fun hc5 => ?_) (fun hc5 => ?_)
            · skip
              exact absurd hc5 (by simp)
            · skip
              refine sk (eb (th (rg (bi rfl rfl (b_add (by unfold I64; omega)) (mv (nl ?_))))))
              have hN0 : (k + 1) ≤ 2 := by
                first | omega | simp_all
              have hN1 : (k + 1) = 0 ∨ ((⟨(((lstOf s).1).actions), (((lstOf s).1).states)⟩ : SSpec) = (lstOf s).1 ∧ (⟨((fromS s x).actions), ((fromS s x).states)⟩ : SSpec) = fromS s x ∧ (⟨((resS s l).actions), ((resS s l).states)⟩ : SSpec) = resS s l ∧ (([] ++ ((lstOf s).2)) ++ (clsOf s)) = (lstOf s).2 ++ clsOf s) := by
                exact .inr ⟨rfl, rfl, rfl, rfl⟩
              exact ln (⟨k + 1, ((lstOf s).1).actions, ((lstOf s).1).states, (fromS s x).actions, (fromS s x).states, (resS s l).actions, (resS s l).states, ([] ++ ((lstOf s).2)) ++ (clsOf s)⟩ : Nat × (List ByteArray) × (List SState) × (List ByteArray) × (List SState) × (List ByteArray) × (List SState) × (List Int)) ⟨hN0, hN1⟩ (by first | omega | (dsimp only; omega)) ⟨id, id, id, id, id, id, id, id, id, trivial⟩ ⟨⟨rfl, id⟩, ⟨rfl, id⟩, ⟨rfl, id⟩, trivial⟩
    · try simp at hc1
      refine ex (xt_ (xt_ (xb (th (sq (rg (calT (ψ := tab) (φs := []) (φ := bl true) trivial (prog14.awake_ok) T.ent9 9999 rfl rfl (ag (nl (th (rt ?_)))))))))))
      exact rE () [.tmp 6] rfl [bl true] ⟨.tmp rfl, trivial⟩ (rfl) trivial (by first | exact .inr rfl | exact .inl rfl)
end prog17
end Go.Proofs.YtolpjmllmlahfaaDoor
