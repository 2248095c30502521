/- Walks of the functions of this claim, printed by a program of its own out of annotations. -/
import Derived.Test.YtolpjmllmlahfaaDoorprog2
namespace Go.Proofs.YtolpjmllmlahfaaDoor
open AL Go
set_option maxRecDepth 100000
set_option linter.all false

open ref01 ref03 ref04 ref06 prog prog2 Part
theorem fn_args {P : Program} {f : FuncId} {args args' : List AV} {Hi : Hp} {ι : Type} {res : Nat → ι → AV} {Ho : ι → Hp} (h : ∀ {w F vs}, All2 w F args' vs → All2 w F args vs) (hf : AL.Fn P f args Hi res Ho) : AL.Fn P f args' Hi res Ho := fun w F vs hv hb hH => hf w F vs (h hv) hb hH
def pairP (p : SState → SState → Bool) : AV := pf Tryd.prog (fun _ : SState × SState => True) (fun x => [state x.1, state x.2]) (fun x => bl (p x.1 x.2))
def eqFunc (p : SState → SState → Bool) (l m : List SState) : Bool := decide (l.length = m.length) && (List.range l.length).all fun i => p (ix l i) (ix m i)
theorem eqFunc_eq {l m : List SState} : eqFunc (fun x y => decide (x.accept = y.accept) && decide (x.next = y.next)) l m = decide (l = m) := by
  by_cases h : l = m
  · subst h
    simp [eqFunc]
  · rw [decide_eq_false h]
    unfold eqFunc
    by_cases hl : l.length = m.length
    · have : ¬ ∀ i, i < l.length → ix l i = ix m i := fun hh => h (by
        apply List.ext_getElem hl
        intro i h1 h2
        have := hh i h1
        rwa [ix_get h1, ix_get h2] at this)
      rw [decide_eq_true hl, Bool.true_and]
      cases hq : (List.range l.length).all fun i => decide ((ix l i).accept = (ix m i).accept) && decide ((ix l i).next = (ix m i).next)
      · rfl
      · refine absurd (fun i hi => ?_) this
        have := List.all_eq_true.1 hq i (List.mem_range.2 hi)
        simp at this
        exact SState.ext this.1 this.2
    · rw [decide_eq_false hl]; rfl

namespace prog3
namespace T
theorem ent68 : Ent Tryd.prog 68 := ent_of (by kernel_rfl)
theorem fld69_0 : FieldAt Tryd.prog 69 0 0 := fieldAt_of (by kernel_rfl)
theorem one28 : IsOne Tryd.prog 28 := isOne_of (by kernel_rfl)
theorem ent69 : Ent Tryd.prog 69 := ent_of (by kernel_rfl)
theorem fld69_1 : FieldAt Tryd.prog 69 1 1 := fieldAt_of (by kernel_rfl)
theorem sl23 : IsSlice Tryd.prog 23 69 2 := isSlice_of (by kernel_rfl)
theorem agg69 : IsAgg Tryd.prog 69 2 := isAgg_of (by kernel_rfl)
theorem z69 : ZeroIs Tryd.prog 69 [.slice none 0 0, .slice none 0 0] := zeroIs_of (by kernel_rfl)
theorem fld25_0 : FieldAt Tryd.prog 25 0 0 := fieldAt_of (by kernel_rfl)
theorem one22 : IsOne Tryd.prog 22 := isOne_of (by kernel_rfl)
theorem ent66 : Ent Tryd.prog 66 := ent_of (by kernel_rfl)
theorem fld25_1 : FieldAt Tryd.prog 25 1 1 := fieldAt_of (by kernel_rfl)
theorem one23 : IsOne Tryd.prog 23 := isOne_of (by kernel_rfl)
theorem ent67 : Ent Tryd.prog 67 := ent_of (by kernel_rfl)
end T

theorem Same1_ok (x y : SState) :
    Fn0 Tryd.prog 68 [state x, state y] (bl (decide (x.accept = y.accept) && decide (x.next = y.next))) := by
  refine fnI Tryd.func68 rfl rfl (fun w0 F0 => ?_)
  refine fcC (inhS 0 rfl) (fun hS0 => ?_)
  obtain ⟨hxa0, hxn0⟩ := state_lens hS0
  refine fcC (inhS 1 rfl) (fun hS1 => ?_)
  obtain ⟨hxa1, hxn1⟩ := state_lens hS1
  refine sq (rg (bx (key := 2) (cs := [sl 1 intE x.accept, sl 1 intE x.next]) rfl fun b2 => (bx (key := 3) (cs := [sl 1 intE y.accept, sl 1 intE y.next]) rfl fun b3 => (ag (nl (th (sq (rg (fP rfl T.fld69_0 (lP rfl rfl rfl T.one28 (fP rfl T.fld69_0 (lP rfl rfl rfl T.one28 (cal0 (φs := [sl 1 intE x.accept, sl 1 intE y.accept]) (φ := bl (decide (x.accept = y.accept))) ⟨rfl, rfl, trivial⟩ (prog.sEqualintE_ok _ _) T.ent69 (mv ?_))))))))))))))
  apply gAnd (t := 10) (pd := 16) rfl
  rotate_left
  · intro hg0 fin
    have hg0' := hg0
    try simp at hg0'
    exact gy rfl rfl rfl hg0 (fP rfl T.fld69_1 (gy rfl rfl rfl hg0 (lP rfl rfl rfl T.one28 (gy rfl rfl rfl hg0 (fP rfl T.fld69_1 (gy rfl rfl rfl hg0 (lP rfl rfl rfl T.one28 (gy rfl rfl rfl hg0 (cal0 (φs := [sl 1 intE x.next, sl 1 intE y.next]) (φ := bl (decide (x.next = y.next))) ⟨rfl, rfl, trivial⟩ (prog.sEqualintE_ok _ _) T.ent69 (pkT rfl hg0 rfl (drp (X := [(15, _), (14, _), (13, _), (12, _), (11, _)]) ⟨rfl, rfl, rfl, rfl, rfl, trivial⟩ (fin))))))))))))
  · intro hg0 fin
    exact gn rfl rfl rfl hg0 rfl rfl (gn rfl rfl rfl hg0 rfl rfl (gn rfl rfl rfl hg0 rfl rfl (gn rfl rfl rfl hg0 rfl rfl (gn rfl rfl rfl hg0 rfl rfl (pkF rfl hg0 rfl (drp (X := [(15, _), (14, _), (13, _), (12, _), (11, _)]) ⟨rfl, rfl, rfl, rfl, rfl, trivial⟩ (fin)))))))
  refine ag (nl (th (rt ?_)))
  have hr0 : ((decide (x.accept = y.accept)) && (decide (x.next = y.next))) = (decide (x.accept = y.accept) && decide (x.next = y.next)) := by
    first | rfl | simp_all | omega
  have hall : ∀ x0, ((decide (x.accept = y.accept)) && (decide (x.next = y.next))) = x0 → resAV [bl ((decide (x.accept = y.accept)) && (decide (x.next = y.next)))] = resAV [bl x0] := by rintro _ rfl; rfl
  exact rE () [.tmp 4] rfl [bl ((decide (x.accept = y.accept)) && (decide (x.next = y.next)))] ⟨.tmp rfl, trivial⟩ (hall _ hr0) trivial (by first | exact .inr rfl | exact .inl rfl)

theorem sEqualFunc_ok (l m : List SState) (pq : SState → SState → Bool) :
    Fn0 Tryd.prog 67 [sl 2 stateE l, sl 2 stateE m, pairP pq] (bl (eqFunc pq l m)) := by
  refine fnI Tryd.func67 rfl rfl (fun w0 F0 => ?_)
  refine fcC (slenI 0 rfl) (fun hm0 => ?_)
  refine fcC (slenI 1 rfl) (fun hm1 => ?_)
  refine sq (rg (ag (nl (th (sq (sq (rg (mv (lnF rfl T.sl23 (mv (lnF rfl T.sl23 (bi rfl rfl b_neq (nl (th ?_))))))))))))))
  refine cd rfl (fun hc0 => ?_) (fun hc0 => ?_)
  · try simp at hc0
    refine sq (rg (ag (nl (th (rt (rt_ ?_))))))
    have hr0 : false = (eqFunc pq l m) := by
      unfold eqFunc
      rw [decide_eq_false (by omega)]; rfl
    have hall : ∀ x0, false = x0 → resAV [bl false] = resAV [bl x0] := by rintro _ rfl; rfl
    exact rE () [.tmp 6] rfl [bl false] ⟨.tmp rfl, trivial⟩ (hall _ hr0) trivial (by first | exact .inr rfl | exact .inl rfl)
  · try simp at hc0
    refine sk (th (sq (sq (rg (mv (lnF rfl T.sl23 (mv (nl (th (bk ?_))))))))))
    have hI0_0 : 0 ≤ l.length := by
      first | omega | simp
    have hI0_1 : (List.range 0).all (fun i => pq (ix l i) (ix m i)) = true := by
      simp
    refine lp (κ := Nat) (fun p => [(1, sl 2 stateE m), (2, pairP pq), (15, sl 2 stateE l), (16, int (l.length : Int)), (17, int (p : Int))]) (fun p => []) (fun p => (p ≤ l.length) ∧ ((List.range p).all (fun i => pq (ix l i) (ix m i)) = true)) (fun p => l.length - p) 0 ⟨hI0_0, hI0_1⟩ ⟨id, id, id, id, id, trivial⟩ trivial ?_
    intro k hG0
    obtain ⟨hk0, hI0⟩ : (k ≤ l.length) ∧ ((List.range k).all (fun i => pq (ix l i) (ix m i)) = true) := hG0
    refine sq (rg (bi rfl rfl b_lss (nl (th (sq ?_)))))
    refine cd rfl (fun hc1 => ?_) (fun hc1 => ?_)
    · try simp at hc1
      refine sk (th (sq (bk (sq (rg (mv (iF rfl rfl T.sl23 (by omega) (by first | exact gN (by omega) | exact gI (by omega) (by omega)) (lFA rfl T.agg69 (Nat.le_of_ble_eq_true rfl) (al (key := 8) T.z69 (ex_cons (ex_cons (ex_nil))) fun b8 => (ag (sPA (cs' := [sl 1 intE ((ix l k).accept), sl 1 intE ((ix l k).next)]) rfl rfl rfl T.agg69 rfl rfl (nl (th (sq (rg (mv (mv (iF rfl rfl T.sl23 (by omega) (by first | exact gN (by omega) | exact gI (by omega) (by omega)) (lFA rfl T.agg69 (Nat.le_of_ble_eq_true rfl) (al (key := 9) T.z69 (ex_cons (ex_cons (ex_nil))) fun b9 => (sPA (cs' := [sl 1 intE ((ix m k).accept), sl 1 intE ((ix m k).next)]) rfl rfl rfl T.agg69 rfl rfl (nl (th (sq (rg (mv (lPA rfl rfl T.agg69 rfl (lPA rfl rfl T.agg69 rfl (callP rfl (ix l k, ix m k) trivial rfl (no rfl (nl (th ?_))))))))))))))))))))))))))))))))
      refine cd rfl (fun hc2 => ?_) (fun hc2 => ?_)
      · try simp at hc2
        refine sq (rg (ag (nl (th (rt (rb (rt_ (rt_ (rb (rt_ ?_))))))))))
        have hr0 : false = (eqFunc pq l m) := by
          unfold eqFunc
          rw [all_range_not (i := k) (by omega) (by simpa using hc2)]; simp
        have hall : ∀ x0, false = x0 → resAV [bl false] = resAV [bl x0] := by rintro _ rfl; rfl
        exact rE () [.tmp 6] rfl [bl false] ⟨.tmp rfl, trivial⟩ (hall _ hr0) trivial (by first | exact .inr rfl | exact .inl rfl)
      · try simp at hc2
        refine sk (eb (th (rg (bi rfl rfl (b_add (by unfold I64; omega)) (mv (nl ?_))))))
        have hN0 : (k + 1) ≤ l.length := by
          first | omega | simp_all
        have hN1 : (List.range (k + 1)).all (fun i => pq (ix l i) (ix m i)) = true := by
          rw [all_range_succ, hI0]; simpa using hc2
        exact ln (k + 1) ⟨hN0, hN1⟩ (by first | omega | (dsimp only; omega)) ⟨id, id, id, id, id, trivial⟩ trivial
    · try simp at hc1
      refine ex (xt_ (xt_ (xb (th (sq (rg (ag (nl (th (rt ?_))))))))))
      have hr0 : true = (eqFunc pq l m) := by
        unfold eqFunc
        rw [show l.length = k by omega, hI0, decide_eq_true (by omega)]; rfl
      have hall : ∀ x0, true = x0 → resAV [bl true] = resAV [bl x0] := by rintro _ rfl; rfl
      exact rE () [.tmp 6] rfl [bl true] ⟨.tmp rfl, trivial⟩ (hall _ hr0) trivial (by first | exact .inr rfl | exact .inl rfl)

theorem eqStates_ok (l m : List SState) : Fn0 Tryd.prog 67 [sl 2 stateE l, sl 2 stateE m, eqv (.func (.func 68) #[] #[])] (bl (decide (l = m))) := by
  rw [← eqFunc_eq]
  refine fn_args (fun {w F vs} h => ?_) (sEqualFunc_ok l m (fun x y => decide (x.accept = y.accept) && decide (x.next = y.next)))
  match vs, h with
  | [_, _, _], ⟨h1, h2, h3, _⟩ => exact ⟨h1, h2, func_pf T.ent68 (fun x _ => Same1_ok x.1 x.2) h3, trivial⟩

theorem Same_ok (s t : SSpec) :
    Fn0 Tryd.prog 42 [spec s, spec t] (bl (decide (s = t))) := by
  refine fnI Tryd.func42 rfl rfl (fun w0 F0 => ?_)
  refine fcC (inhS 0 rfl) (fun hS0 => ?_)
  obtain ⟨hsa0, hss0, hse0⟩ := spec_lens hS0
  refine fcC (inhS 1 rfl) (fun hS1 => ?_)
  obtain ⟨hsa1, hss1, hse1⟩ := spec_lens hS1
  refine sq (rg (bx (key := 2) (cs := [sl 1 strE s.actions, sl 2 stateE s.states]) rfl fun b2 => (bx (key := 3) (cs := [sl 1 strE t.actions, sl 2 stateE t.states]) rfl fun b3 => (ag (nl (th (sq (rg (fP rfl T.fld25_0 (lP rfl rfl rfl T.one22 (fP rfl T.fld25_0 (lP rfl rfl rfl T.one22 (cal0 (φs := [sl 1 strE s.actions, sl 1 strE t.actions]) (φ := bl (decide (s.actions = t.actions))) ⟨rfl, rfl, trivial⟩ (prog.sEqualstrE_ok _ _) T.ent66 (mv ?_))))))))))))))
  apply gAnd (t := 10) (pd := 16) rfl
  rotate_left
  · intro hg0 fin
    have hg0' := hg0
    try simp at hg0'
    exact gy rfl rfl rfl hg0 (fP rfl T.fld25_1 (gy rfl rfl rfl hg0 (lP rfl rfl rfl T.one23 (gy rfl rfl rfl hg0 (fP rfl T.fld25_1 (gy rfl rfl rfl hg0 (lP rfl rfl rfl T.one23 (gy rfl rfl rfl hg0 (cal0 (φs := [sl 2 stateE s.states, sl 2 stateE t.states, eqv (.func (.func 68) #[] #[])]) (φ := bl (decide (s.states = t.states))) ⟨rfl, rfl, rfl, trivial⟩ (eqStates_ok _ _) T.ent67 (pkT rfl hg0 rfl (drp (X := [(15, _), (14, _), (13, _), (12, _), (11, _)]) ⟨rfl, rfl, rfl, rfl, rfl, trivial⟩ (fin))))))))))))
  · intro hg0 fin
    exact gn rfl rfl rfl hg0 rfl rfl (gn rfl rfl rfl hg0 rfl rfl (gn rfl rfl rfl hg0 rfl rfl (gn rfl rfl rfl hg0 rfl rfl (gn rfl rfl rfl hg0 rfl rfl (pkF rfl hg0 rfl (drp (X := [(15, _), (14, _), (13, _), (12, _), (11, _)]) ⟨rfl, rfl, rfl, rfl, rfl, trivial⟩ (fin)))))))
  refine ag (nl (th (rt ?_)))
  have hr0 : ((decide (s.actions = t.actions)) && (decide (s.states = t.states))) = (decide (s = t)) := by
    by_cases h1 : s.actions = t.actions <;> by_cases h2 : s.states = t.states <;> simp [h1, h2, SSpec.ext_iff]
  have hall : ∀ x0, ((decide (s.actions = t.actions)) && (decide (s.states = t.states))) = x0 → resAV [bl ((decide (s.actions = t.actions)) && (decide (s.states = t.states)))] = resAV [bl x0] := by rintro _ rfl; rfl
  exact rE () [.tmp 4] rfl [bl ((decide (s.actions = t.actions)) && (decide (s.states = t.states)))] ⟨.tmp rfl, trivial⟩ (hall _ hr0) trivial (by first | exact .inr rfl | exact .inl rfl)

theorem In_ok (t : Int) :
    Fn0 Tryd.prog 95 [int t] (clo 115 [fp [int t]]) := by
  refine fnI Tryd.func95 rfl rfl (fun w0 F0 => ?_)
  refine sq (rg (bx1 (key := 1) (φ := int t) rfl fun b1 => (ag (nl (th (sq (rg (fzv 1 1 rfl rfl (mkf (ag (nl (th (rt ?_)))))))))))))
  exact rE () [.tmp 2] rfl [clo 115 [fp [int t]]] ⟨.tmp rfl, trivial⟩ (rfl) trivial (by first | exact .inr rfl | exact .inl rfl)
end prog3
end Go.Proofs.YtolpjmllmlahfaaDoor
