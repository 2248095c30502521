/- Walks of the functions of this claim, printed by a program of its own out of annotations. -/
import Derived.Test.YtolpjmllmlahfaaDoorPart
namespace Go.Proofs.YtolpjmllmlahfaaDoor
open AL Go
set_option maxRecDepth 100000
set_option linter.all false

open ref01 ref03 ref04 Part
def stepBad (class_ : List Int) (k j : Int) : Bool := (decide (k < 0) != decide (j < 0)) || (decide (0 ≤ k) && decide (ix class_ k.toNat ≠ ix class_ j.toNat))
def alikeNext (class_ : List Int) (a b : List Int) : Bool := (List.range a.length).all fun i => !stepBad class_ (ix a i) (ix b i)
def alike (s : SSpec) (class_ : List Int) (x y : Nat) : Bool := decide (ix class_ x = ix class_ y) && decide ((ix s.states x).accept = (ix s.states y).accept) && alikeNext class_ (ix s.states x).next (ix s.states y).next
theorem stepBad_iff {cl : List Int} {k j : Int} : stepBad cl k j = false ↔ (k < 0 ↔ j < 0) ∧ (0 ≤ k → ix cl k.toNat = ix cl j.toNat) := by
  unfold stepBad
  by_cases h1 : k < 0 <;> by_cases h2 : j < 0 <;> by_cases h3 : ix cl k.toNat = ix cl j.toNat <;> simp [h1, h2, h3] <;> omega
theorem alikeNext_iff {cl a b : List Int} : alikeNext cl a b = true ↔ ∀ i, i < a.length → ((ix a i < 0 ↔ ix b i < 0) ∧ (0 ≤ ix a i → ix cl (ix a i).toNat = ix cl (ix b i).toNat)) := by
  unfold alikeNext
  rw [List.all_eq_true]
  constructor
  · intro h i hi
    have := h i (List.mem_range.2 hi)
    exact stepBad_iff.1 (by simpa using this)
  · intro h i hi
    rw [stepBad_iff.2 (h i (List.mem_range.1 hi))]; rfl
theorem alike_iff {s : SSpec} {cl : List Int} {x y : Nat} : alike s cl x y = true ↔ ix cl x = ix cl y ∧ (ix s.states x).accept = (ix s.states y).accept ∧ alikeNext cl (ix s.states x).next (ix s.states y).next = true := by
  unfold alike; simp only [Bool.and_eq_true, decide_eq_true_eq, and_assoc]
theorem alike_eqOn {s : SSpec} {n m : Nat} (hl : ∀ x, x < n → (ix s.states x).next.length = m) (cl : List Int) : EqOn n (alike s cl) where
  refl := fun x hx => alike_iff.2 ⟨rfl, rfl, alikeNext_iff.2 (fun i hi => ⟨Iff.rfl, fun _ => rfl⟩)⟩
  symm := fun x y hx hy h => by
    obtain ⟨h1, h2, h3⟩ := alike_iff.1 h
    refine alike_iff.2 ⟨h1.symm, h2.symm, alikeNext_iff.2 (fun i hi => ?_)⟩
    obtain ⟨g1, g2⟩ := alikeNext_iff.1 h3 i (by rw [hl x hx]; rw [hl y hy] at hi; exact hi)
    exact ⟨g1.symm, fun h0 => (g2 (by omega)).symm⟩
  trans := fun x y z hx hy hz h h' => by
    obtain ⟨h1, h2, h3⟩ := alike_iff.1 h
    obtain ⟨k1, k2, k3⟩ := alike_iff.1 h'
    refine alike_iff.2 ⟨h1.trans k1, h2.trans k2, alikeNext_iff.2 (fun i hi => ?_)⟩
    obtain ⟨g1, g2⟩ := alikeNext_iff.1 h3 i hi
    obtain ⟨g3, g4⟩ := alikeNext_iff.1 k3 i (by rw [hl y hy]; rw [hl x hx] at hi; exact hi)
    exact ⟨g1.trans g3, fun h0 => (g2 h0).trans (g4 (by omega))⟩
theorem ix_map_range {α : Type} [Inhabited α] {f : Nat → α} {n x : Nat} (h : x < n) : ix ((List.range n).map f) x = f x := by
  rw [ix_get (by simpa using h)]; simp
theorem solid_at {s : SSpec} {x : Nat} (h : x < s.states.length) : ix (solid s).states x = solidState s x := ix_map_range h
theorem solid_len (s : SSpec) : (solid s).states.length = s.states.length := by simp [solid]
theorem cut_len (x : SState) (u : Int) : (cut x u).length = x.next.length := by simp [cut]
theorem cut_ix {x : SState} {u : Int} {a : Nat} (h : a < x.next.length) : ix (cut x u) a = if has u (a : Int) then ix x.next a else -1 := ix_map_range h
theorem solid_next {s : SSpec} (h : okSpec s) {x : Nat} (hx : x < s.states.length) : (ix (solid s).states x).next.length = s.actions.length := by
  rw [solid_at hx]
  show (cut _ _).length = _
  rw [cut_len]; exact (h.st x hx).len
theorem solid_bd {s : SSpec} (h : okSpec s) {x : Nat} (hx : x < s.states.length) {a : Nat} (ha : a < (ix (solid s).states x).next.length) : ix (ix (solid s).states x).next a < (s.states.length : Int) := by
  rw [solid_next h hx] at ha
  rw [solid_at hx]
  show ix (cut _ _) a < _
  rw [cut_ix (by rw [(h.st x hx).len]; exact ha)]
  split
  · exact ((h.st x hx).nx a ha).2
  · omega
/-- The rounds of the reference: classes, and how many. -/
noncomputable def itR (s : SSpec) : Nat → List Int × Nat
  | 0 => (List.replicate s.states.length 0, 0)
  | i + 1 => ((numBy (alike (solid s) (itR s i).1) s.states.length).1, (numBy (alike (solid s) (itR s i).1) s.states.length).2.length)
noncomputable def classesR (s : SSpec) : List Int := (itR s (s.states.length + 1)).1
theorem itR_eqOn {s : SSpec} (h : okSpec s) (i : Nat) : EqOn s.states.length (alike (solid s) (itR s i).1) := alike_eqOn (fun x hx => solid_next h hx) _
theorem itR_step {s : SSpec} (h : okSpec s) (i : Nat) : (itR s i).2 ≤ (itR s (i + 1)).2 ∧ ((itR s i).2 = (itR s (i + 1)).2 → itR s (i + 1) = itR s i) := by
  cases i with
  | zero =>
    have := num_pos (rel := alike (solid s) (itR s 0).1) s.states.length h.few0
    refine ⟨Nat.zero_le _, fun e => ?_⟩
    have e : 0 = (numBy (alike (solid s) (itR s 0).1) s.states.length).2.length := e
    omega
  | succ i =>
    have hr := itR_eqOn h i
    have hr' := itR_eqOn h (i + 1)
    obtain ⟨h1, h2⟩ := refine_num hr hr' (fun x y hx hy hxy => by
      have := (alike_iff.1 hxy).1
      exact ((numOK hr s.states.length (Nat.le_refl _)).iff hr (Nat.le_refl _) hx hy).1 this) s.states.length (Nat.le_refl _)
    refine ⟨h1, fun e => ?_⟩
    have := h2 e
    show ((numBy (alike (solid s) (itR s (i + 1)).1) s.states.length).1, (numBy (alike (solid s) (itR s (i + 1)).1) s.states.length).2.length) = ((numBy (alike (solid s) (itR s i).1) s.states.length).1, (numBy (alike (solid s) (itR s i).1) s.states.length).2.length)
    rw [this]
theorem itR_stable {s : SSpec} {i : Nat} (e : itR s (i + 1) = itR s i) : ∀ j, itR s (i + j) = itR s i
  | 0 => rfl
  | j + 1 => by
    have ih := itR_stable e j
    show itR s (i + j + 1) = _
    rw [← e]
    show ((numBy (alike (solid s) (itR s (i + j)).1) s.states.length).1, (numBy (alike (solid s) (itR s (i + j)).1) s.states.length).2.length) = ((numBy (alike (solid s) (itR s i).1) s.states.length).1, (numBy (alike (solid s) (itR s i).1) s.states.length).2.length)
    rw [ih]
theorem itR_end {s : SSpec} (h : okSpec s) {i : Nat} (hi : i ≤ s.states.length) (e : (itR s i).2 = (itR s (i + 1)).2) : classesR s = (itR s (i + 1)).1 := by
  have h1 := (itR_step h i).2 e
  have h2 := itR_stable h1 (s.states.length + 1 - i)
  unfold classesR
  rw [show i + (s.states.length + 1 - i) = s.states.length + 1 by omega] at h2
  rw [h2, h1]
theorem itR_le {s : SSpec} (i : Nat) : (itR s i).2 ≤ s.states.length := by
  cases i with
  | zero => exact Nat.zero_le _
  | succ i => exact num_le _
theorem itR_len (s : SSpec) (i : Nat) : (itR s i).1.length = s.states.length := by
  cases i with
  | zero => simp [itR]
  | succ i => exact num_len _
def findI (p : Int → Bool) (l : List Int) : Int := match l.findIdx? p with | some j => (j : Int) | none => -1
theorem findI_succ {p : Int → Bool} {l : List Int} {k : Nat} (h : k < l.length) : findI p (l.take (k + 1)) = if findI p (l.take k) < 0 ∧ p (ix l k) = true then (k : Int) else findI p (l.take k) := by
  unfold findI
  rw [take_s h, List.findIdx?_append]
  cases h1 : (l.take k).findIdx? p with
  | some j => simp; omega
  | none =>
    simp only [List.findIdx?_cons, List.findIdx?_nil]
    by_cases hp : p (ix l k) = true
    · simp [hp]; omega
    · simp [hp]
theorem numBy_none {rel : Nat → Nat → Bool} {k : Nat} (h : findI (fun y => rel k y.toNat) (numBy rel k).2 < 0) : numBy rel (k + 1) = ((numBy rel k).1 ++ [((numBy rel k).2.length : Int)], (numBy rel k).2 ++ [(k : Int)]) := by
  unfold findI at h
  rw [numBy]
  split
  · next j hj => rw [hj] at h; simp at h; omega
  · rfl
theorem numBy_some {rel : Nat → Nat → Bool} {k : Nat} (h : ¬ findI (fun y => rel k y.toNat) (numBy rel k).2 < 0) : numBy rel (k + 1) = ((numBy rel k).1 ++ [findI (fun y => rel k y.toNat) (numBy rel k).2], (numBy rel k).2) := by
  unfold findI at h ⊢
  rw [numBy]
  split
  · next j hj => rw [hj]
  · next hn => rw [hn] at h; simp at h
theorem set_mid {nx : List Int} {k m : Nat} (hl : nx.length = k) (v : Int) (hm : 0 < m) : (nx ++ List.replicate m (0 : Int)).set k v = nx ++ [v] ++ List.replicate (m - 1) 0 := by
  obtain ⟨m, rfl⟩ : ∃ m', m = m' + 1 := ⟨m - 1, by omega⟩
  rw [List.set_append_right _ _ (by omega), hl, Nat.sub_self, List.replicate_succ, List.set_cons_zero]
  simp
theorem okQ_visit {n : Nat} : ∀ (ks l : List Int), okQ n l → (∀ i, i < ks.length → ix ks i < (n : Int)) → okQ n (visit l ks)
  | [], l, h, _ => h
  | k :: ks, l, h, hk => by
    have hk0 : k < (n : Int) := hk 0 (by simp)
    have ht : ∀ i, i < ks.length → ix ks i < (n : Int) := fun i hi => hk (i + 1) (by simpa using hi)
    show okQ n (visit (if decide (0 ≤ k) && !l.contains k then l ++ [k] else l) ks)
    refine okQ_visit ks _ ?_ ht
    split
    · next hc =>
      simp only [Bool.and_eq_true, decide_eq_true_eq, Bool.not_eq_true'] at hc
      exact okQ_snoc h hc.1 hk0 hc.2
    · exact h
theorem okQ_bq {s : SSpec} (h1 : 1 ≤ s.states.length) (hn : ∀ k, k < s.states.length → ∀ a, a < (ix s.states k).next.length → ix (ix s.states k).next a < (s.states.length : Int)) : ∀ i, okQ s.states.length (bq s i)
  | 0 => okQ_zero h1
  | i + 1 => by
    have ih := okQ_bq h1 hn i
    unfold bq
    split
    · next hi =>
      have := ih.1 i hi
      exact okQ_visit _ _ ih (fun a ha => hn _ (by omega) a ha)
    · exact ih
theorem order_okQ {s : SSpec} (h : okSpec s) : okQ s.states.length (order (solid s)) := by
  have := okQ_bq (s := solid s) (by rw [solid_len]; exact h.few0) (fun k hk a ha => by rw [solid_len] at hk ⊢; exact solid_bd h hk ha) (solid s).states.length
  rw [solid_len] at this
  unfold order
  rw [solid_len]; exact this
theorem classes_len (s : SSpec) : (classesR s).length = s.states.length := itR_len s _
theorem classes_bd {s : SSpec} (h : okSpec s) {x : Nat} (hx : x < s.states.length) : 0 ≤ ix (classesR s) x ∧ ix (classesR s) x < (s.states.length : Int) := by
  have h1 := (numOK (itR_eqOn h s.states.length) s.states.length (Nat.le_refl _)).cls x hx
  have h2 := num_le (rel := alike (solid s) (itR s s.states.length).1) s.states.length
  exact ⟨h1.1, by have := h1.2.1; show ix (numBy _ _).1 x < _; omega⟩
def lstep (cl : List Int) (st : List Int × List Int × List Int) (x : Int) : List Int × List Int × List Int :=
  if ix st.2.1 (ix cl x.toNat).toNat = 0 then (st.1 ++ [x], st.2.1.set (ix cl x.toNat).toNat ((st.1.length + 1 : Nat) : Int), st.2.2.set x.toNat (ix (st.2.1.set (ix cl x.toNat).toNat ((st.1.length + 1 : Nat) : Int)) (ix cl x.toNat).toNat - 1))
  else (st.1, st.2.1, st.2.2.set x.toNat (ix st.2.1 (ix cl x.toNat).toNat - 1))
def lfold (cl : List Int) (n : Nat) (l : List Int) : List Int × List Int × List Int := l.foldl (lstep cl) ([], List.replicate n 0, List.replicate n (-1))
theorem lfold_snoc (cl : List Int) (n : Nat) (l : List Int) (x : Int) : lfold cl n (l ++ [x]) = lstep cl (lfold cl n l) x := by simp [lfold]
def mapK (tl : List Int) (k : Int) : Int := if 0 ≤ k then ix tl k.toNat else k
def outState (so : SSpec) (tl : List Int) (x : Int) : SState := ⟨(ix so.states x.toNat).accept, (ix so.states x.toNat).next.map (mapK tl)⟩
noncomputable def leastR (s : SSpec) : SSpec × List Int :=
  if ix (hollow s) 0 = true then (nothing s.actions, List.replicate s.states.length (-1))
  else let r := lfold (classesR s) s.states.length (order (solid s)); (⟨s.actions, r.1.map (outState (solid s) r.2.2)⟩, r.2.2)
theorem map_take_succ {α β : Type} [Inhabited α] {xs : List α} {k : Nat} (h : k < xs.length) (f : α → β) : (xs.take (k + 1)).map f = (xs.take k).map f ++ [f (ix xs k)] := by rw [take_s h, List.map_append]; rfl

namespace ref06
namespace T
theorem fld25_1 : FieldAt Tryd.prog 25 1 1 := fieldAt_of (by kernel_rfl)
theorem one23 : IsOne Tryd.prog 23 := isOne_of (by kernel_rfl)
theorem sl23 : IsSlice Tryd.prog 23 69 2 := isSlice_of (by kernel_rfl)
theorem agg69 : IsAgg Tryd.prog 69 2 := isAgg_of (by kernel_rfl)
theorem z69 : ZeroIs Tryd.prog 69 [.slice none 0 0, .slice none 0 0] := zeroIs_of (by kernel_rfl)
theorem mixed : Tryd.prog.follows .mixedOrders = true := by kernel_rfl
theorem sl28 : IsSlice Tryd.prog 28 3 1 := isSlice_of (by kernel_rfl)
theorem one3 : IsOne Tryd.prog 3 := isOne_of (by kernel_rfl)
theorem fld69_0 : FieldAt Tryd.prog 69 0 0 := fieldAt_of (by kernel_rfl)
theorem one28 : IsOne Tryd.prog 28 := isOne_of (by kernel_rfl)
theorem ent18 : Ent Tryd.prog 18 := ent_of (by kernel_rfl)
theorem fld69_1 : FieldAt Tryd.prog 69 1 1 := fieldAt_of (by kernel_rfl)
theorem bool4 : Tryd.prog.underlying 4 = some .bool := by kernel_rfl
theorem agg25 : IsAgg Tryd.prog 25 2 := isAgg_of (by kernel_rfl)
theorem ent34 : Ent Tryd.prog 34 := ent_of (by kernel_rfl)
theorem z25 : ZeroIs Tryd.prog 25 [.slice none 0 0, .slice none 0 0] := zeroIs_of (by kernel_rfl)
theorem mk28 : MakeT Tryd.prog 28 3 1 8 [.int .i64 0] := makeT_of (by kernel_rfl) (by kernel_rfl)
theorem ent35 : Ent Tryd.prog 35 := ent_of (by kernel_rfl)
theorem ent36 : Ent Tryd.prog 36 := ent_of (by kernel_rfl)
theorem sl72 : IsSlice Tryd.prog 72 4 1 := isSlice_of (by kernel_rfl)
theorem one4 : IsOne Tryd.prog 4 := isOne_of (by kernel_rfl)
theorem fld25_0 : FieldAt Tryd.prog 25 0 0 := fieldAt_of (by kernel_rfl)
theorem one22 : IsOne Tryd.prog 22 := isOne_of (by kernel_rfl)
theorem ent37 : Ent Tryd.prog 37 := ent_of (by kernel_rfl)
theorem ent11 : Ent Tryd.prog 11 := ent_of (by kernel_rfl)
theorem ent38 : Ent Tryd.prog 38 := ent_of (by kernel_rfl)
theorem mk22 : MakeT Tryd.prog 22 9 1 16 [.string ⟨#[]⟩] := makeT_of (by kernel_rfl) (by kernel_rfl)
theorem st25 : StructT Tryd.prog 25 [(0, 1), (1, 1)] [.slice none 0 0, .slice none 0 0] := structT_of (by kernel_rfl) (by kernel_rfl)
theorem st69 : StructT Tryd.prog 69 [(0, 1), (1, 1)] [.slice none 0 0, .slice none 0 0] := structT_of (by kernel_rfl) (by kernel_rfl)
theorem mk23 : MakeT Tryd.prog 23 69 2 48 [.slice none 0 0, .slice none 0 0] := makeT_of (by kernel_rfl) (by kernel_rfl)
end T

theorem alike_ok (s : SSpec) (class_ : List Int) (x y : Int) (hx : 0 ≤ x ∧ x < (s.states.length : Int)) (hy : 0 ≤ y ∧ y < (s.states.length : Int)) (hc : class_.length = s.states.length) (hl : (ix s.states x.toNat).next.length ≤ (ix s.states y.toNat).next.length) (hnx : ∀ a, a < (ix s.states x.toNat).next.length → ix (ix s.states x.toNat).next a < (s.states.length : Int)) (hny : ∀ a, a < (ix s.states y.toNat).next.length → ix (ix s.states y.toNat).next a < (s.states.length : Int)) :
    Fn0 Tryd.prog 35 [spec s, ints class_, int x, int y] (bl (alike s class_ x.toNat y.toNat)) := by
  refine fnI Tryd.func35 rfl rfl (fun w0 F0 => ?_)
  refine fcC (inhS 0 rfl) (fun hS0 => ?_)
  obtain ⟨hsa0, hss0, hse0⟩ := spec_lens hS0
  refine fcC (slenI 1 rfl) (fun hm1 => ?_)
  refine sq (rg (bx (key := 4) (cs := [sl 1 strE s.actions, sl 2 stateE s.states]) rfl fun b4 => (ag (nl (th (sq ?_))))))
  refine drH (nh := 14) [0, 1, 0, 7, 15, 0, 32, 0, 224, 480, 0, 0, 3103, 8191] [(none, []), (none, [4]), (none, []), (none, []), (none, []), (none, []), (none, [4]), (none, []), (none, []), (none, []), (some 9, []), (some 10, []), (some 9, [9]), (some 10, [10])] T.mixed (by kernel_rfl) (by kernel_rfl) ?_
  refine stv (d := 14) (fun β0 => ptr 4 b4 1) [] rfl (fun β β' hb => rfl) (fun β0 _ _ _ _ gq gh kq => fP (gq.1.trans rfl) T.fld25_1 kq) ?_
  refine stv (d := 15) (fun β0 => sl 2 stateE s.states) [4] rfl (fun β β' hb => rfl) (fun β0 _ _ _ _ gq gh kq => lP (gq.1.trans rfl) (gh.1.trans rfl) rfl T.one23 kq) ?_
  refine stv (d := 16) (fun β0 => int x) [] rfl (fun β β' hb => rfl) (fun β0 _ _ _ _ gq gh kq => mv' (gq.1.trans rfl) kq) ?_
  refine stv (d := 17) (fun β0 => fp [sl 1 intE ((ix s.states x.toNat).accept), sl 1 intE ((ix s.states x.toNat).next)]) [] rfl (fun β β' hb => rfl) (fun β0 _ _ _ _ gq gh kq => iF (gq.1.trans rfl) (gq.2.1.trans rfl) T.sl23 (by omega) (by first | exact gN (by omega) | exact gI (by omega) (by omega)) kq) ?_
  refine stv (d := 18) (fun β0 => agg [sl 1 intE ((ix s.states x.toNat).accept), sl 1 intE ((ix s.states x.toNat).next)]) [] rfl (fun β β' hb => rfl) (fun β0 _ _ _ _ gq gh kq => lFA (gq.1.trans rfl) T.agg69 (Nat.le_of_ble_eq_true rfl) kq) ?_
  refine stv (d := 19) (fun β0 => ptr 4 b4 1) [] rfl (fun β β' hb => rfl) (fun β0 _ _ _ _ gq gh kq => fP (gq.1.trans rfl) T.fld25_1 kq) ?_
  refine stv (d := 20) (fun β0 => sl 2 stateE s.states) [4] rfl (fun β β' hb => rfl) (fun β0 _ _ _ _ gq gh kq => lP (gq.1.trans rfl) (gh.1.trans rfl) rfl T.one23 kq) ?_
  refine stv (d := 21) (fun β0 => int y) [] rfl (fun β β' hb => rfl) (fun β0 _ _ _ _ gq gh kq => mv' (gq.1.trans rfl) kq) ?_
  refine stv (d := 22) (fun β0 => fp [sl 1 intE ((ix s.states y.toNat).accept), sl 1 intE ((ix s.states y.toNat).next)]) [] rfl (fun β β' hb => rfl) (fun β0 _ _ _ _ gq gh kq => iF (gq.1.trans rfl) (gq.2.1.trans rfl) T.sl23 (by omega) (by first | exact gN (by omega) | exact gI (by omega) (by omega)) kq) ?_
  refine stv (d := 23) (fun β0 => agg [sl 1 intE ((ix s.states y.toNat).accept), sl 1 intE ((ix s.states y.toNat).next)]) [] rfl (fun β β' hb => rfl) (fun β0 _ _ _ _ gq gh kq => lFA (gq.1.trans rfl) T.agg69 (Nat.le_of_ble_eq_true rfl) kq) ?_
  refine sta 9 T.z69 (ex_cons (ex_cons (ex_nil))) ?_
  refine sta 10 T.z69 (ex_cons (ex_cons (ex_nil))) ?_
  refine stw 9 (fun β0 => cell (gbk (β0 10)) [sl 1 intE ((ix s.states x.toNat).accept), sl 1 intE ((ix s.states x.toNat).next)]) [9] rfl (fun β β' hb => by first | rw [hb 10 rfl] | (dsimp only; rw [hb 10 rfl])) (fun β0 _ _ _ _ gq gh kq => sPA (cs' := [sl 1 intE ((ix s.states x.toNat).accept), sl 1 intE ((ix s.states x.toNat).next)]) (gq.1.trans rfl) (gh.1.trans rfl) (gq.2.1.trans rfl) T.agg69 rfl rfl kq) ?_
  refine stw 10 (fun β0 => cell (gbk (β0 11)) [sl 1 intE ((ix s.states y.toNat).accept), sl 1 intE ((ix s.states y.toNat).next)]) [10] rfl (fun β β' hb => by first | rw [hb 11 rfl] | (dsimp only; rw [hb 11 rfl])) (fun β0 _ _ _ _ gq gh kq => sPA (cs' := [sl 1 intE ((ix s.states y.toNat).accept), sl 1 intE ((ix s.states y.toNat).next)]) (gq.1.trans rfl) (gh.1.trans rfl) (gq.2.1.trans rfl) T.agg69 rfl rfl kq) ?_
  refine pnH fun β0 => (nl (th (sq (sq (dr (nh := 17) [0, 0, 3, 7, 0, 0, 48, 112, 255, 511, 1023, 2047, 1023, 5119, 16383, 32767, 65535] T.mixed (by kernel_rfl) ?_)))))
  refine st_ rfl (fun _ _ _ gq kq => mv' (gq.1.trans rfl) kq) ?_
  refine st_ rfl (fun _ _ _ gq kq => mv' (gq.1.trans rfl) kq) ?_
  refine st_ rfl (fun _ _ _ gq kq => iF (gq.1.trans rfl) (gq.2.1.trans rfl) T.sl28 (by omega) (by first | exact gN (by omega) | exact gI (by omega) (by omega)) kq) ?_
  refine st_ rfl (fun _ _ _ gq kq => lF (gq.1.trans rfl) rfl T.one3 kq) ?_
  refine st_ rfl (fun _ _ _ gq kq => mv' (gq.1.trans rfl) kq) ?_
  refine st_ rfl (fun _ _ _ gq kq => mv' (gq.1.trans rfl) kq) ?_
  refine st_ rfl (fun _ _ _ gq kq => iF (gq.1.trans rfl) (gq.2.1.trans rfl) T.sl28 (by omega) (by first | exact gN (by omega) | exact gI (by omega) (by omega)) kq) ?_
  refine st_ rfl (fun _ _ _ gq kq => lF (gq.1.trans rfl) rfl T.one3 kq) ?_
  refine st_ rfl (fun _ _ _ gq kq => bi (gq.1.trans rfl) (gq.2.1.trans rfl) b_neq kq) ?_
  refine st_ rfl (fun _ _ _ gq kq => mv' (gq.1.trans rfl) kq) ?_
  refine sg_ (φ := ptr 9 (gbk (β0 10)) 0) rfl rfl rfl rfl (List.mem_of_elem_eq_true rfl) (fun hgd => ?_) ?_
  · have hgd' := hgd
    try simp at hgd'
    exact fun _ _ _ gq kq => fP (gq.1.trans rfl) T.fld69_0 kq
  refine sg_ (φ := sl 1 intE ((ix s.states x.toNat).accept)) rfl rfl rfl rfl (List.mem_of_elem_eq_true rfl) (fun hgd => ?_) ?_
  · have hgd' := hgd
    try simp at hgd'
    exact fun _ _ _ gq kq => lP (gq.1.trans (gif_t hgd)) rfl rfl T.one28 kq
  refine sg_ (φ := ptr 10 (gbk (β0 11)) 0) rfl rfl rfl rfl (List.mem_of_elem_eq_true rfl) (fun hgd => ?_) ?_
  · have hgd' := hgd
    try simp at hgd'
    exact fun _ _ _ gq kq => fP (gq.1.trans rfl) T.fld69_0 kq
  refine sg_ (φ := sl 1 intE ((ix s.states y.toNat).accept)) rfl rfl rfl rfl (List.mem_of_elem_eq_true rfl) (fun hgd => ?_) ?_
  · have hgd' := hgd
    try simp at hgd'
    exact fun _ _ _ gq kq => lP (gq.1.trans (gif_t hgd)) rfl rfl T.one28 kq
  refine sg_ (φ := bl (decide (((ix s.states x.toNat).accept) = ((ix s.states y.toNat).accept)))) rfl rfl rfl rfl (List.mem_of_elem_eq_true rfl) (fun hgd => ?_) ?_
  · have hgd' := hgd
    try simp at hgd'
    exact fun _ _ _ gq kq => cal0 (φs := [sl 1 intE ((ix s.states x.toNat).accept), sl 1 intE ((ix s.states y.toNat).accept)]) (φ := bl (decide (((ix s.states x.toNat).accept) = ((ix s.states y.toNat).accept)))) ⟨(gq.1.trans (gif_t hgd)), (gq.2.1.trans (gif_t hgd)), trivial⟩ (ref01.SameInts_ok _ _) T.ent18 kq
  refine sg_ (φ := bl (!(decide (((ix s.states x.toNat).accept) = ((ix s.states y.toNat).accept))))) rfl rfl rfl rfl (List.mem_of_elem_eq_true rfl) (fun hgd => ?_) ?_
  · have hgd' := hgd
    try simp at hgd'
    exact fun _ _ _ gq kq => no (gq.1.trans (gif_t hgd)) kq
  refine st_ rfl (fun _ _ _ gq kq => pk (gq.1.trans rfl) (pk_or (x := .tmp 33) (gq.1.trans rfl) (gq.2.1.trans rfl) rfl) kq) ?_
  refine pn (nl (th ?_))
  refine cd rfl (fun hc0 => ?_) (fun hc0 => ?_)
  · try simp at hc0
    refine sq (rg (ag (nl (th (rt (rt_ ?_))))))
    have hr0 : false = (alike s class_ x.toNat y.toNat) := by
      unfold alike
      by_cases h : ix class_ x.toNat = ix class_ y.toNat
      · simp [h] at hc0
        simp [hc0]
      · simp [h]
    have hall : ∀ x0, false = x0 → resAV [bl false] = resAV [bl x0] := by rintro _ rfl; rfl
    exact rE () [.tmp 8] rfl [bl false] ⟨.tmp rfl, trivial⟩ (hall _ hr0) trivial (by first | exact .inr rfl | exact .inl rfl)
  · try simp at hc0
    refine sk (th (sq (sq (rg (fP rfl T.fld69_1 (lP rfl rfl rfl T.one28 (fc (slenI 42 rfl) fun hm42 => (lnF rfl T.sl28 (mv (nl (th (bk ?_))))))))))))
    have hI0_0 : 0 ≤ ((ix s.states x.toNat).next).length := by
      first | omega | simp
    have hI0_1 : (List.range 0).all (fun i => !stepBad class_ (ix (ix s.states x.toNat).next i) (ix (ix s.states y.toNat).next i)) = true := by
      simp
    refine lp (κ := Nat) (fun p => [(1, sl 1 intE class_), (10, ptr 10 (gbk (β0 11)) 0), (42, sl 1 intE ((ix s.states x.toNat).next)), (43, int (((ix s.states x.toNat).next).length : Int)), (44, int (p : Int))]) (fun p => [(4, cell b4 [sl 1 strE s.actions, sl 2 stateE s.states]), (9, cell (gbk (β0 10)) [sl 1 intE ((ix s.states x.toNat).accept), sl 1 intE ((ix s.states x.toNat).next)]), (10, cell (gbk (β0 11)) [sl 1 intE ((ix s.states y.toNat).accept), sl 1 intE ((ix s.states y.toNat).next)])]) (fun p => (p ≤ ((ix s.states x.toNat).next).length) ∧ ((List.range p).all (fun i => !stepBad class_ (ix (ix s.states x.toNat).next i) (ix (ix s.states y.toNat).next i)) = true)) (fun p => ((ix s.states x.toNat).next).length - p) 0 ⟨hI0_0, hI0_1⟩ ⟨id, id, id, id, id, trivial⟩ ⟨⟨rfl, id⟩, ⟨rfl, id⟩, ⟨rfl, id⟩, trivial⟩ ?_
    intro k hG0
    obtain ⟨hk0, hI0⟩ : (k ≤ ((ix s.states x.toNat).next).length) ∧ ((List.range k).all (fun i => !stepBad class_ (ix (ix s.states x.toNat).next i) (ix (ix s.states y.toNat).next i)) = true) := hG0
    refine sq (rg (bi rfl rfl b_lss (nl (th (sq ?_)))))
    refine cd rfl (fun hc1 => ?_) (fun hc1 => ?_)
    · try simp at hc1
      have hkx := hnx k (by omega)
      have hky := hny k (by omega)
      refine sk (th (sq (bk (sq (rg (mv (iF rfl rfl T.sl28 (by omega) (by first | exact gN (by omega) | exact gI (by omega) (by omega)) (lF rfl rfl T.one3 (ag (ag (nl (th (sq (rg (fP rfl T.fld69_1 (lP rfl rfl rfl T.one28 (mv (iF rfl rfl T.sl28 (by omega) (by first | exact gN (by omega) | exact gI (by omega) (by omega)) (lF rfl rfl T.one3 (ag (nl (th (sq (dr (nh := 20) [0, 1, 0, 4, 15, 31, 63, 127, 255, 511, 511, 2047, 4095, 511, 511, 25087, 57855, 131071, 262143, 524287] T.mixed (by kernel_rfl) ?_))))))))))))))))))))))))
      refine st_ rfl (fun _ _ _ gq kq => mv' (gq.1.trans rfl) kq) ?_
      refine st_ rfl (fun _ _ _ gq kq => bi (gq.1.trans rfl) rfl b_lss kq) ?_
      refine st_ rfl (fun _ _ _ gq kq => mv' (gq.1.trans rfl) kq) ?_
      refine st_ rfl (fun _ _ _ gq kq => bi (gq.1.trans rfl) rfl b_lss kq) ?_
      refine st_ rfl (fun _ _ _ gq kq => bi (gq.1.trans rfl) (gq.2.1.trans rfl) (b_neqB T.bool4) kq) ?_
      refine st_ rfl (fun _ _ _ gq kq => mv' (gq.1.trans rfl) kq) ?_
      refine sg_ (φ := int (ix ((ix s.states x.toNat).next) k)) rfl rfl rfl rfl (List.mem_of_elem_eq_true rfl) (fun hgd => ?_) ?_
      · have hgd' := hgd
        try simp at hgd'
        exact fun _ _ _ gq kq => mv' (gq.1.trans rfl) kq
      refine sg_ (φ := bl (decide (0 ≤ (ix ((ix s.states x.toNat).next) k)))) rfl rfl rfl rfl (List.mem_of_elem_eq_true rfl) (fun hgd => ?_) ?_
      · have hgd' := hgd
        try simp at hgd'
        exact fun _ _ _ gq kq => bi (gq.1.trans (gif_t hgd)) rfl b_geq kq
      refine sg_ (φ := bl (decide (0 ≤ (ix ((ix s.states x.toNat).next) k)))) rfl rfl rfl rfl (List.mem_of_elem_eq_true rfl) (fun hgd => ?_) ?_
      · have hgd' := hgd
        try simp at hgd'
        exact fun _ _ _ gq kq => mv' (gq.1.trans (gif_t hgd)) kq
      refine sg2_ (φ := sl 1 intE class_) rfl rfl rfl rfl (List.mem_of_elem_eq_true rfl) (fun hgd hgd2 => ?_) ?_
      · have hgd' := hgd
        try simp at hgd'
        have hgd2' := hgd2
        try simp at hgd2'
        exact fun _ _ _ gq kq => mv' (gq.1.trans rfl) kq
      refine sg2_ (φ := int (ix ((ix s.states x.toNat).next) k)) rfl rfl rfl rfl (List.mem_of_elem_eq_true rfl) (fun hgd hgd2 => ?_) ?_
      · have hgd' := hgd
        try simp at hgd'
        have hgd2' := hgd2
        try simp at hgd2'
        exact fun _ _ _ gq kq => mv' (gq.1.trans rfl) kq
      refine sg2_ (φ := fp [int (ix class_ ((ix ((ix s.states x.toNat).next) k).toNat))]) rfl rfl rfl rfl (List.mem_of_elem_eq_true rfl) (fun hgd hgd2 => ?_) ?_
      · have hgd' := hgd
        try simp at hgd'
        have hgd2' := hgd2
        try simp at hgd2'
        exact fun _ _ _ gq kq => iF (gq.1.trans (gif_t2 hgd hgd2)) (gq.2.1.trans (gif_t2 hgd hgd2)) T.sl28 (by omega) (by first | exact gN (by omega) | exact gI (by omega) (by omega)) kq
      refine sg2_ (φ := int (ix class_ ((ix ((ix s.states x.toNat).next) k).toNat))) rfl rfl rfl rfl (List.mem_of_elem_eq_true rfl) (fun hgd hgd2 => ?_) ?_
      · have hgd' := hgd
        try simp at hgd'
        have hgd2' := hgd2
        try simp at hgd2'
        exact fun _ _ _ gq kq => lF (gq.1.trans (gif_t2 hgd hgd2)) rfl T.one3 kq
      refine sg2_ (φ := sl 1 intE class_) rfl rfl rfl rfl (List.mem_of_elem_eq_true rfl) (fun hgd hgd2 => ?_) ?_
      · have hgd' := hgd
        try simp at hgd'
        have hgd2' := hgd2
        try simp at hgd2'
        exact fun _ _ _ gq kq => mv' (gq.1.trans rfl) kq
      refine sg2_ (φ := int (ix ((ix s.states y.toNat).next) k)) rfl rfl rfl rfl (List.mem_of_elem_eq_true rfl) (fun hgd hgd2 => ?_) ?_
      · have hgd' := hgd
        try simp at hgd'
        have hgd2' := hgd2
        try simp at hgd2'
        exact fun _ _ _ gq kq => mv' (gq.1.trans rfl) kq
      refine sg2_ (φ := fp [int (ix class_ ((ix ((ix s.states y.toNat).next) k).toNat))]) rfl rfl rfl rfl (List.mem_of_elem_eq_true rfl) (fun hgd hgd2 => ?_) ?_
      · have hgd' := hgd
        try simp at hgd'
        have hgd2' := hgd2
        try simp at hgd2'
        exact fun _ _ _ gq kq => iF (gq.1.trans (gif_t2 hgd hgd2)) (gq.2.1.trans (gif_t2 hgd hgd2)) T.sl28 (by omega) (by first | exact gN (by omega) | exact gI (by omega) (by omega)) kq
      refine sg2_ (φ := int (ix class_ ((ix ((ix s.states y.toNat).next) k).toNat))) rfl rfl rfl rfl (List.mem_of_elem_eq_true rfl) (fun hgd hgd2 => ?_) ?_
      · have hgd' := hgd
        try simp at hgd'
        have hgd2' := hgd2
        try simp at hgd2'
        exact fun _ _ _ gq kq => lF (gq.1.trans (gif_t2 hgd hgd2)) rfl T.one3 kq
      refine sg2_ (φ := bl (decide ((ix class_ ((ix ((ix s.states x.toNat).next) k).toNat)) ≠ (ix class_ ((ix ((ix s.states y.toNat).next) k).toNat))))) rfl rfl rfl rfl (List.mem_of_elem_eq_true rfl) (fun hgd hgd2 => ?_) ?_
      · have hgd' := hgd
        try simp at hgd'
        have hgd2' := hgd2
        try simp at hgd2'
        exact fun _ _ _ gq kq => bi (gq.1.trans (gif_t2 hgd hgd2)) (gq.2.1.trans (gif_t2 hgd hgd2)) b_neq kq
      refine sg_ (φ := bl ((decide (0 ≤ (ix ((ix s.states x.toNat).next) k))) && (decide ((ix class_ ((ix ((ix s.states x.toNat).next) k).toNat)) ≠ (ix class_ ((ix ((ix s.states y.toNat).next) k).toNat)))))) rfl rfl rfl rfl (List.mem_of_elem_eq_true rfl) (fun hgd => ?_) ?_
      · have hgd' := hgd
        try simp at hgd'
        exact fun _ _ _ gq kq => pk (gq.1.trans (gif_t hgd)) (pk_and (x := .tmp 62) (gq.1.trans (gif_t hgd)) (gq.2.1.trans (gif_and hgd)) rfl) kq
      refine st_ rfl (fun _ _ _ gq kq => pk (gq.1.trans rfl) (pk_or (x := .tmp 59) (gq.1.trans rfl) (gq.2.1.trans rfl) rfl) kq) ?_
      refine pn (nl (th ?_))
      refine cd rfl (fun hc2 => ?_) (fun hc2 => ?_)
      · try simp at hc2
        refine sq (rg (ag (nl (th (rt (rb (rt_ (rt_ (rb (rt_ ?_))))))))))
        have hr0 : false = (alike s class_ x.toNat y.toNat) := by
          unfold alike alikeNext
          rw [all_range_not (i := k) (by omega) (by
            unfold stepBad
            simp at hc2 ⊢
            intro hA
            rcases hc2 with h | h
            · exact absurd hA h
            · exact h)]; simp
        have hall : ∀ x0, false = x0 → resAV [bl false] = resAV [bl x0] := by rintro _ rfl; rfl
        exact rE () [.tmp 8] rfl [bl false] ⟨.tmp rfl, trivial⟩ (hall _ hr0) trivial (by first | exact .inr rfl | exact .inl rfl)
      · try simp at hc2
        refine sk (eb (th (rg (bi rfl rfl (b_add (by unfold I64; omega)) (mv (nl ?_))))))
        have hN0 : (k + 1) ≤ ((ix s.states x.toNat).next).length := by
          first | omega | simp_all
        have hN1 : (List.range (k + 1)).all (fun i => !stepBad class_ (ix (ix s.states x.toNat).next i) (ix (ix s.states y.toNat).next i)) = true := by
          rw [all_range_succ, hI0]
          unfold stepBad
          simp at hc2 ⊢
          refine ⟨hc2.1, ?_⟩
          by_cases h : ix (ix s.states x.toNat).next k < 0
          · exact .inl h
          · exact .inr (hc2.2 (by omega))
        exact ln (k + 1) ⟨hN0, hN1⟩ (by first | omega | (dsimp only; omega)) ⟨id, id, id, id, id, trivial⟩ ⟨⟨rfl, id⟩, ⟨rfl, id⟩, ⟨rfl, id⟩, trivial⟩
    · try simp at hc1
      refine ex (xt_ (xt_ (xb (th (sq (rg (ag (nl (th (rt ?_))))))))))
      have hr0 : true = (alike s class_ x.toNat y.toNat) := by
        unfold alike alikeNext
        rw [show (ix s.states x.toNat).next.length = k by omega, hI0]
        simp [hc0]
      have hall : ∀ x0, true = x0 → resAV [bl true] = resAV [bl x0] := by rintro _ rfl; rfl
      exact rE () [.tmp 8] rfl [bl true] ⟨.tmp rfl, trivial⟩ (hall _ hr0) trivial (by first | exact .inr rfl | exact .inl rfl)

theorem Classes_ok (s : SSpec) (h : okSpec s) :
    Fn0 Tryd.prog 11 [spec s] (ints (classesR s)) := by
  refine fnI Tryd.func11 rfl rfl (fun w0 F0 => ?_)
  have hf0 := h.few0; have hf1 := h.few1; have hsl := solid_len s
  refine fcC (inhS 0 rfl) (fun hS0 => ?_)
  obtain ⟨hsa0, hss0, hse0⟩ := spec_lens hS0
  refine sq (rg (bx (key := 1) (cs := [sl 1 strE s.actions, sl 2 stateE s.states]) rfl fun b1 => (ag (nl (th (sq (rg (lPA rfl rfl T.agg25 rfl (cal0 (φs := [agg [sl 1 strE s.actions, sl 2 stateE s.states]]) (φ := agg [sl 1 strE ((solid s).actions), sl 2 stateE ((solid s).states)]) ⟨rfl, trivial⟩ (ref04.Solid_ok s (by assumption)) T.ent34 (al (key := 3) T.z25 (ex_cons (ex_cons (ex_nil))) fun b3 => (sPA (cs' := [sl 1 strE ((solid s).actions), sl 2 stateE ((solid s).states)]) rfl rfl rfl T.agg25 rfl rfl (nl (th (sq (rg (fP rfl T.fld25_1 (lP rfl rfl rfl T.one23 (fc (slenI 14 rfl) fun hm14 => (lnF rfl T.sl23 (mk (key := 16) (m := s.states.length) (enc := intE) (y := (0 : Int)) rfl rfl T.mk28 (ex_cons ex_nil) (by unfold maxL; omega) (by unfold maxL; omega) fun v16 => (ag (nl (th (sq (rg (ag (nl (th (bk ?_)))))))))))))))))))))))))))))
  refine fzC 16 4 rfl rfl ?_
  have hI0_0 : (List.replicate s.states.length (0 : Int)) = (itR s 0).1 ∧ 0 = (itR s 0).2 ∧ 0 ≤ 0 := by
    exact ⟨rfl, rfl, Nat.le_refl _⟩
  refine lp (κ := Nat × (List Int) × Nat) (fun p => [(1, ptr 1 b1 0), (3, ptr 3 b3 0), (4, sl 1 intE p.2.1), (5, int (p.2.2 : Int))]) (fun p => [(1, cell b1 [sl 1 strE s.actions, sl 2 stateE s.states]), (3, cell b3 [sl 1 strE ((solid s).actions), sl 2 stateE ((solid s).states)])]) (fun p => p.2.1 = (itR s p.1).1 ∧ p.2.2 = (itR s p.1).2 ∧ p.1 ≤ p.2.2) (fun p => s.states.length - p.2.2) ⟨0, List.replicate s.states.length (0 : Int), 0⟩ hI0_0 ⟨id, id, id, id, trivial⟩ ⟨⟨rfl, id⟩, ⟨rfl, id⟩, trivial⟩ ?_
  intro ⟨i, cl, m⟩ hG0
  have hI0 : cl = (itR s i).1 ∧ m = (itR s i).2 ∧ i ≤ m := hG0
  show Ct _ _ _ _ [(1, ptr 1 b1 0), (3, ptr 3 b3 0), (4, sl 1 intE cl), (5, int (m : Int))] [(1, cell b1 [sl 1 strE s.actions, sl 2 stateE s.states]), (3, cell b3 [sl 1 strE ((solid s).actions), sl 2 stateE ((solid s).states)])] _
  refine bk (sq (rg (fP rfl T.fld25_1 (lP rfl rfl rfl T.one23 (lnF rfl T.sl23 (mk (key := 20) (m := s.states.length) (enc := intE) (y := (0 : Int)) rfl rfl T.mk28 (ex_cons ex_nil) (by unfold maxL; omega) (by unfold maxL; omega) fun v20 => (ag (nl (th (sq (rg (nw 7 3 1 intE (ag (rtg (key := 7) 7 rfl (nl (th (sq (sq (rg (mv (lnO rfl rfl T.sl28 (mv (nl (th (bk ?_)))))))))))))))))))))))))
  have hI1_0 : 0 ≤ s.states.length := by
    first | omega | simp
  have hI1_1 : (List.replicate s.states.length (0 : Int)) = (numBy (alike (solid s) cl) 0).1 ++ List.replicate (s.states.length - 0) 0 ∧ ([] : List Int) = (numBy (alike (solid s) cl) 0).2 := by
    exact ⟨rfl, rfl⟩
  refine lp (κ := Nat × Value × (List Int) × (List Int)) (fun p => [(1, ptr 1 b1 0), (3, ptr 3 b3 0), (4, sl 1 intE cl), (5, int (m : Int)), (6, osl 20 v20), (7, osl 7 p.2.1), (22, int ((List.replicate s.states.length (0 : Int)).length : Int)), (23, int (p.1 : Int))]) (fun p => [(1, cell b1 [sl 1 strE s.actions, sl 2 stateE s.states]), (3, cell b3 [sl 1 strE ((solid s).actions), sl 2 stateE ((solid s).states)]), (7, own p.2.1 3 1 intE p.2.2.2), (20, own v20 3 1 intE p.2.2.1)]) (fun p => (p.1 ≤ s.states.length) ∧ (p.2.2.1 = (numBy (alike (solid s) cl) p.1).1 ++ List.replicate (s.states.length - p.1) 0 ∧ p.2.2.2 = (numBy (alike (solid s) cl) p.1).2)) (fun p => s.states.length - p.1) ⟨0, (.slice none 0 0), List.replicate s.states.length (0 : Int), ([] : List Int)⟩ ⟨hI1_0, hI1_1⟩ ⟨id, id, id, id, id, id, id, id, trivial⟩ ⟨⟨rfl, id⟩, ⟨rfl, id⟩, ⟨rfl, id⟩, ⟨rfl, id⟩, trivial⟩ ?_
  intro ⟨k1, v7x, nx, fl⟩ hG1
  obtain ⟨hk1, hI1⟩ : (k1 ≤ s.states.length) ∧ (nx = (numBy (alike (solid s) cl) k1).1 ++ List.replicate (s.states.length - k1) 0 ∧ fl = (numBy (alike (solid s) cl) k1).2) := hG1
  show Ct _ _ _ _ [(1, ptr 1 b1 0), (3, ptr 3 b3 0), (4, sl 1 intE cl), (5, int (m : Int)), (6, osl 20 v20), (7, osl 7 v7x), (22, int ((List.replicate s.states.length (0 : Int)).length : Int)), (23, int (k1 : Int))] [(1, cell b1 [sl 1 strE s.actions, sl 2 stateE s.states]), (3, cell b3 [sl 1 strE ((solid s).actions), sl 2 stateE ((solid s).states)]), (7, own v7x 3 1 intE fl), (20, own v20 3 1 intE nx)] _
  have hnl : nx.length = s.states.length := by rw [hI1.1]; simp [num_len]; omega
  have hfll : fl.length ≤ k1 := by rw [hI1.2]; exact num_le _
  refine sq (rg (bi rfl rfl b_lss (nl (th (sq ?_)))))
  refine cd rfl (fun hc0 => ?_) (fun hc0 => ?_)
  · try simp at hc0
    refine sk (th (sq (bk (sq (rg (mv (ag (nl (th (sq (rg (mv (mv (iO rfl rfl rfl T.sl28 (by omega) (by omega) (sO (φ := int (-1)) rfl rfl rfl T.one3 (by first | exact gN (by omega) | exact gI (by omega) (by omega)) rfl (y' := (-1)) rfl (nl (th (sq (sq (rg (mv (lnO rfl rfl T.sl28 (mv (nl (th (bk ?_))))))))))))))))))))))))))
    have hI2_0 : 0 ≤ fl.length := by
      first | omega | simp
    have hI2_1 : (nx.set k1 (-1)) = nx.set k1 (findI (fun y => alike (solid s) cl k1 y.toNat) (fl.take 0)) := by
      simp [findI]
    refine lp (κ := Nat × (List Int)) (fun p => [(1, ptr 1 b1 0), (3, ptr 3 b3 0), (4, sl 1 intE cl), (5, int (m : Int)), (6, osl 20 v20), (7, osl 7 v7x), (8, int (k1 : Int)), (22, int ((List.replicate s.states.length (0 : Int)).length : Int)), (23, int (k1 : Int)), (29, osl 7 v7x), (30, int (fl.length : Int)), (31, int (p.1 : Int))]) (fun p => [(1, cell b1 [sl 1 strE s.actions, sl 2 stateE s.states]), (3, cell b3 [sl 1 strE ((solid s).actions), sl 2 stateE ((solid s).states)]), (7, own v7x 3 1 intE fl), (20, own v20 3 1 intE p.2)]) (fun p => (p.1 ≤ fl.length) ∧ (p.2 = nx.set k1 (findI (fun y => alike (solid s) cl k1 y.toNat) (fl.take p.1)))) (fun p => fl.length - p.1) ⟨0, nx.set k1 (-1)⟩ ⟨hI2_0, hI2_1⟩ ⟨id, id, id, id, id, id, id, id, id, id, id, id, trivial⟩ ⟨⟨rfl, id⟩, ⟨rfl, id⟩, ⟨rfl, id⟩, ⟨rfl, id⟩, trivial⟩ ?_
    intro ⟨k2, nx2⟩ hG2
    obtain ⟨hk2, hI2⟩ : (k2 ≤ fl.length) ∧ (nx2 = nx.set k1 (findI (fun y => alike (solid s) cl k1 y.toNat) (fl.take k2))) := hG2
    show Ct _ _ _ _ [(1, ptr 1 b1 0), (3, ptr 3 b3 0), (4, sl 1 intE cl), (5, int (m : Int)), (6, osl 20 v20), (7, osl 7 v7x), (8, int (k1 : Int)), (22, int ((List.replicate s.states.length (0 : Int)).length : Int)), (23, int (k1 : Int)), (29, osl 7 v7x), (30, int (fl.length : Int)), (31, int (k2 : Int))] [(1, cell b1 [sl 1 strE s.actions, sl 2 stateE s.states]), (3, cell b3 [sl 1 strE ((solid s).actions), sl 2 stateE ((solid s).states)]), (7, own v7x 3 1 intE fl), (20, own v20 3 1 intE nx2)] _
    have hnl2 : nx2.length = s.states.length := by rw [hI2]; simp [hnl]
    refine sq (rg (bi rfl rfl b_lss (nl (th (sq ?_)))))
    refine cd rfl (fun hc1 => ?_) (fun hc1 => ?_)
    · try simp at hc1
      have hfx := (numOK (itR_eqOn h i) k1 (by omega)).fs0 k2 (by rw [← hI0.1, ← hI1.2]; omega)
      rw [← hI0.1, ← hI1.2] at hfx
      refine sk (th (sq (bk (sq (rg (mv (iO rfl rfl rfl T.sl28 (by omega) (by omega) (lO rfl rfl (by first | exact gN (by omega) | exact gI (by omega) (by omega)) rfl T.one3 (ag (ag (nl (th (sq (rg (mv (mv (iO rfl rfl rfl T.sl28 (by omega) (by omega) (lO rfl rfl (by first | exact gN (by omega) | exact gI (by omega) (by omega)) rfl T.one3 (bi rfl rfl b_lss (mv ?_))))))))))))))))))))
      apply gAnd (t := 41) (pd := 47) rfl
      rotate_left
      · intro hg0 fin
        have hg0' := hg0
        try simp at hg0'
        exact gy rfl rfl rfl hg0 (lPA rfl rfl T.agg25 rfl (gy rfl rfl rfl hg0 (mv (gy rfl rfl rfl hg0 (mv (gy rfl rfl rfl hg0 (mv (gy rfl rfl rfl hg0 (cal0 (φs := [agg [sl 1 strE ((solid s).actions), sl 2 stateE ((solid s).states)], sl 1 intE cl, int (k1 : Int), int (ix fl k2)]) (φ := bl (alike (solid s) cl k1 (ix fl k2).toNat)) ⟨rfl, rfl, rfl, rfl, trivial⟩ (ref06.alike_ok (solid s) _ _ _ (by omega) (by rw [hsl]; omega) (by rw [hI0.1, itR_len, hsl]) (by rw [solid_next h (by omega), solid_next h (by omega)]; exact Nat.le_refl _) (fun a ha => by rw [hsl]; exact solid_bd h (by omega) ha) (fun a ha => by rw [hsl]; exact solid_bd h (by omega) ha)) T.ent35 (pkT rfl hg0 rfl (drp (X := [(46, _), (45, _), (44, _), (43, _), (42, _)]) ⟨rfl, rfl, rfl, rfl, rfl, trivial⟩ (fin))))))))))))
      · intro hg0 fin
        exact gn rfl rfl rfl hg0 rfl rfl (gn rfl rfl rfl hg0 rfl rfl (gn rfl rfl rfl hg0 rfl rfl (gn rfl rfl rfl hg0 rfl rfl (gn rfl rfl rfl hg0 rfl rfl (pkF rfl hg0 rfl (drp (X := [(46, _), (45, _), (44, _), (43, _), (42, _)]) ⟨rfl, rfl, rfl, rfl, rfl, trivial⟩ (fin)))))))
      refine nl (th ?_)
      refine cd rfl (fun hc2 => ?_) (fun hc2 => ?_)
      · try simp at hc2
        refine rg (mv (mv (mv (iO rfl rfl rfl T.sl28 (by omega) (by omega) (sO (φ := int (k2 : Int)) rfl rfl rfl T.one3 (by first | exact gN (by omega) | exact gI (by omega) (by omega)) rfl (y' := (k2 : Int)) rfl (nl (eb (th (rg (bi rfl rfl (b_add (by unfold I64; omega)) (mv (nl ?_))))))))))))
        have hN0 : (k2 + 1) ≤ fl.length := by
          first | omega | simp_all
        have hN1 : (nx2.set k1 (k2 : Int)) = nx.set k1 (findI (fun y => alike (solid s) cl k1 y.toNat) (fl.take (k2 + 1))) := by
          have hv : ix nx2 k1 = findI (fun y => alike (solid s) cl k1 y.toNat) (fl.take k2) := by rw [hI2, ix_set (by omega), if_pos rfl]
          rw [findI_succ (by omega), if_pos ⟨by rw [← hv]; exact hc2.1, hc2.2⟩, hI2, List.set_set]
        exact ln (⟨k2 + 1, nx2.set k1 (k2 : Int)⟩ : Nat × (List Int)) ⟨hN0, hN1⟩ (by first | omega | (dsimp only; omega)) ⟨id, id, id, id, id, id, id, id, id, id, id, id, trivial⟩ ⟨⟨rfl, id⟩, ⟨rfl, id⟩, ⟨rfl, id⟩, ⟨rfl, id⟩, trivial⟩
      · try simp at hc2
        refine sk (eb (th (rg (bi rfl rfl (b_add (by unfold I64; omega)) (mv (nl ?_))))))
        have hN0 : (k2 + 1) ≤ fl.length := by
          first | omega | simp_all
        have hN1 : nx2 = nx.set k1 (findI (fun y => alike (solid s) cl k1 y.toNat) (fl.take (k2 + 1))) := by
          have hv : ix nx2 k1 = findI (fun y => alike (solid s) cl k1 y.toNat) (fl.take k2) := by rw [hI2, ix_set (by omega), if_pos rfl]
          rw [findI_succ (by omega), if_neg (fun hh => by
            have := hc2 (by rw [hv]; exact hh.1)
            rw [hh.2] at this; cases this), hI2]
        exact ln (⟨k2 + 1, nx2⟩ : Nat × (List Int)) ⟨hN0, hN1⟩ (by first | omega | (dsimp only; omega)) ⟨id, id, id, id, id, id, id, id, id, id, id, id, trivial⟩ ⟨⟨rfl, id⟩, ⟨rfl, id⟩, ⟨rfl, id⟩, ⟨rfl, id⟩, trivial⟩
    · try simp at hc1
      refine ex (xt_ (xt_ (xb (th (sq (rg (mv (mv (iO rfl rfl rfl T.sl28 (by omega) (by omega) (lO rfl rfl (by first | exact gN (by omega) | exact gI (by omega) (by omega)) rfl T.one3 (bi rfl rfl b_lss (nl (th ?_)))))))))))))
      refine cd rfl (fun hc3 => ?_) (fun hc3 => ?_)
      · try simp at hc3
        refine sq (rg (mv (mv (mv (lnO rfl rfl T.sl28 (iO rfl rfl rfl T.sl28 (by omega) (by omega) (sO (φ := int (fl.length : Int)) rfl rfl rfl T.one3 (by first | exact gN (by omega) | exact gI (by omega) (by omega)) rfl (y' := (fl.length : Int)) rfl (nl (th (rg (mv (mv (bsE (enc := intE) (xs := [(k1 : Int)]) (css := [[int (k1 : Int)]]) T.mk28 ⟨rfl, rfl, p1 (φ := int (k1 : Int)) rfl, trivial⟩ rfl rfl rfl rfl (ap (key := 7) (zs := [(k1 : Int)]) osl_eq rfl rfl rfl T.mk28 (by unfold maxL at *; simp; omega) (by unfold maxL at *; simp; omega) fun v66 => (ag (nl (eb (th (rg (bi rfl rfl (b_add (by unfold I64; omega)) (mv (nl ?_))))))))))))))))))))))
        have hN0 : (k1 + 1) ≤ s.states.length := by
          first | omega | simp_all
        have hN1 : (nx2.set k1 (fl.length : Int)) = (numBy (alike (solid s) cl) (k1 + 1)).1 ++ List.replicate (s.states.length - (k1 + 1)) 0 ∧ (fl ++ [(k1 : Int)]) = (numBy (alike (solid s) cl) (k1 + 1)).2 := by
          have hk2 : k2 = fl.length := by omega
          rw [hk2, List.take_length] at hI2
          have hv : ix nx2 k1 = findI (fun y => alike (solid s) cl k1 y.toNat) fl := by rw [hI2, ix_set (by omega), if_pos rfl]
          rw [hI1.2] at hv
          rw [numBy_none (by rw [← hv]; exact hc3)]
          refine ⟨?_, by rw [hI1.2]⟩
          rw [hI2, List.set_set, hI1.1, set_mid (num_len _) _ (by omega), hI1.2]
          rw [show s.states.length - k1 - 1 = s.states.length - (k1 + 1) by omega]
        exact ln (⟨k1 + 1, v66, nx2.set k1 (fl.length : Int), fl ++ [(k1 : Int)]⟩ : Nat × Value × (List Int) × (List Int)) ⟨hN0, hN1⟩ (by first | omega | (dsimp only; omega)) ⟨id, id, id, id, id, id, id, id, trivial⟩ ⟨⟨rfl, id⟩, ⟨rfl, id⟩, ⟨rfl, id⟩, ⟨rfl, id⟩, trivial⟩
      · try simp at hc3
        refine sk (eb (th (rg (bi rfl rfl (b_add (by unfold I64; omega)) (mv (nl ?_))))))
        have hN0 : (k1 + 1) ≤ s.states.length := by
          first | omega | simp_all
        have hN1 : nx2 = (numBy (alike (solid s) cl) (k1 + 1)).1 ++ List.replicate (s.states.length - (k1 + 1)) 0 ∧ fl = (numBy (alike (solid s) cl) (k1 + 1)).2 := by
          have hk2 : k2 = fl.length := by omega
          rw [hk2, List.take_length] at hI2
          have hv : ix nx2 k1 = findI (fun y => alike (solid s) cl k1 y.toNat) fl := by rw [hI2, ix_set (by omega), if_pos rfl]
          rw [hI1.2] at hv
          rw [numBy_some (by rw [← hv]; omega)]
          refine ⟨?_, hI1.2⟩
          rw [hI2, hI1.1, set_mid (num_len _) _ (by omega), hI1.2]
          rw [show s.states.length - k1 - 1 = s.states.length - (k1 + 1) by omega]
        exact ln (⟨k1 + 1, v7x, nx2, fl⟩ : Nat × Value × (List Int) × (List Int)) ⟨hN0, hN1⟩ (by first | omega | (dsimp only; omega)) ⟨id, id, id, id, id, id, id, id, trivial⟩ ⟨⟨rfl, id⟩, ⟨rfl, id⟩, ⟨rfl, id⟩, ⟨rfl, id⟩, trivial⟩
  · try simp at hc0
    refine ex (xt_ (xt_ (xb (th (sq (rg (mv (ag (nl (th (sq (sq (fzC 20 4 rfl rfl (rg (mv (lnO rfl rfl T.sl28 (mv (bi rfl rfl b_eql (nl (th ?_))))))))))))))))))))
    refine cd rfl (fun hc4 => ?_) (fun hc4 => ?_)
    · try simp at hc4
      refine sq (rg (mv (ag (nl (th (rt (rt_ (rb (rt_ (rb ?_))))))))))
      have hr0 : nx = (classesR s) := by
        have hk : k1 = s.states.length := by omega
        have h2 : fl.length = (itR s (i + 1)).2 := by rw [hI1.2, hk, hI0.1]; rfl
        have h3 := itR_le (s := s) i
        rw [itR_end h (i := i) (by omega) (by omega), hI1.1, hk, Nat.sub_self, hI0.1]; simp [itR]
      have hall : ∀ x0, nx = x0 → resAV [sl 1 intE nx] = resAV [sl 1 intE x0] := by rintro _ rfl; rfl
      exact rE () [.tmp 2] rfl [sl 1 intE nx] ⟨.tmp rfl, trivial⟩ (hall _ hr0) trivial (by first | exact .inr rfl | exact .inl rfl)
    · try simp at hc4
      refine sk (th (rg (mv (lnO rfl rfl T.sl28 (ag (nl (eb ?_)))))))
      have hN0 : nx = (itR s (i + 1)).1 ∧ fl.length = (itR s (i + 1)).2 ∧ (i + 1) ≤ fl.length := by
        have hk : k1 = s.states.length := by omega
        have h2 : fl.length = (itR s (i + 1)).2 := by rw [hI1.2, hk, hI0.1]; rfl
        have h1 := (itR_step h i).1
        refine ⟨?_, h2, by omega⟩
        rw [hI1.1, hk, Nat.sub_self, hI0.1]; simp [itR]
      exact ln (⟨i + 1, nx, fl.length⟩ : Nat × (List Int) × Nat) hN0 (by have h1 := (itR_step h i).1; have h2 := hN0.2.1; have h3 := itR_le (s := s) (i + 1); have h4 := hI0.2.1; (try dsimp only); omega) ⟨id, id, id, id, trivial⟩ ⟨⟨rfl, id⟩, ⟨rfl, id⟩, trivial⟩

theorem Least_ok (s : SSpec) (h : okSpec s) :
    Fn0 Tryd.prog 12 [spec s] (tup [spec (leastR s).1, ints (leastR s).2]) := by
  refine fnI Tryd.func12 rfl rfl (fun w0 F0 => ?_)
  have hf0 := h.few0; have hf1 := h.few1; have hn8 := h.n8; have hsl := solid_len s; have hhl := hollow_len s; have hcl := classes_len s; have hoq := order_okQ h; have hol := hoq.le
  refine fcC (inhS 0 rfl) (fun hS0 => ?_)
  obtain ⟨hsa0, hss0, hse0⟩ := spec_lens hS0
  refine sq (rg (bx (key := 1) (cs := [sl 1 strE s.actions, sl 2 stateE s.states]) rfl fun b1 => (al (key := 2) T.z25 (ex_cons (ex_cons (ex_nil))) fun b2 => (ag (nl (th (sq (rg (fP rfl T.fld25_1 (lP rfl rfl rfl T.one23 (fc (slenI 19 rfl) fun hm19 => (lnF rfl T.sl23 (mk (key := 21) (m := s.states.length) (enc := intE) (y := (0 : Int)) rfl rfl T.mk28 (ex_cons ex_nil) (by unfold maxL; omega) (by unfold maxL; omega) fun v21 => (ag (nl (th (sq (sq (rg (mv (lnO rfl rfl T.sl28 (mv (nl (th (bk ?_)))))))))))))))))))))))))
  have hI0_0 : 0 ≤ s.states.length := by
    first | omega | simp
  have hI0_1 : (List.replicate s.states.length (0 : Int)) = List.replicate 0 (-1) ++ List.replicate (s.states.length - 0) 0 := by
    simp
  refine lp (κ := Nat × (List Int)) (fun p => [(1, ptr 1 b1 0), (2, ptr 2 b2 0), (3, eqv (.slice none 0 0)), (4, osl 21 v21), (23, int ((List.replicate s.states.length (0 : Int)).length : Int)), (24, int (p.1 : Int))]) (fun p => [(1, cell b1 [sl 1 strE s.actions, sl 2 stateE s.states]), (2, cell b2 [eqv (.slice none 0 0), eqv (.slice none 0 0)]), (21, own v21 3 1 intE p.2)]) (fun p => (p.1 ≤ s.states.length) ∧ (p.2 = List.replicate p.1 (-1) ++ List.replicate (s.states.length - p.1) 0)) (fun p => s.states.length - p.1) ⟨0, List.replicate s.states.length (0 : Int)⟩ ⟨hI0_0, hI0_1⟩ ⟨id, id, id, id, id, id, trivial⟩ ⟨⟨rfl, id⟩, ⟨rfl, id⟩, ⟨rfl, id⟩, trivial⟩ ?_
  intro ⟨k, tl⟩ hG0
  obtain ⟨hk0, hI0⟩ : (k ≤ s.states.length) ∧ (tl = List.replicate k (-1) ++ List.replicate (s.states.length - k) 0) := hG0
  show Ct _ _ _ _ [(1, ptr 1 b1 0), (2, ptr 2 b2 0), (3, eqv (.slice none 0 0)), (4, osl 21 v21), (23, int ((List.replicate s.states.length (0 : Int)).length : Int)), (24, int (k : Int))] [(1, cell b1 [sl 1 strE s.actions, sl 2 stateE s.states]), (2, cell b2 [eqv (.slice none 0 0), eqv (.slice none 0 0)]), (21, own v21 3 1 intE tl)] _
  have htl : tl.length = s.states.length := by rw [hI0]; simp; omega
  refine sq (rg (bi rfl rfl b_lss (nl (th (sq ?_)))))
  refine cd rfl (fun hc0 => ?_) (fun hc0 => ?_)
  · try simp at hc0
    refine sk (th (sq (bk (sq (rg (mv (ag (nl (th (rg (mv (mv (iO rfl rfl rfl T.sl28 (by omega) (by omega) (sO (φ := int (-1)) rfl rfl rfl T.one3 (by first | exact gN (by omega) | exact gI (by omega) (by omega)) rfl (y' := (-1)) rfl (nl (eb (th (rg (bi rfl rfl (b_add (by unfold I64; omega)) (mv (nl ?_)))))))))))))))))))))
    have hN0 : (k + 1) ≤ s.states.length := by
      first | omega | simp_all
    have hN1 : (tl.set k (-1)) = List.replicate (k + 1) (-1) ++ List.replicate (s.states.length - (k + 1)) 0 := by
      rw [hI0, set_mid (by simp) _ (by omega), List.replicate_succ']
      rw [show s.states.length - k - 1 = s.states.length - (k + 1) by omega]
    exact ln (⟨k + 1, tl.set k (-1)⟩ : Nat × (List Int)) ⟨hN0, hN1⟩ (by first | omega | (dsimp only; omega)) ⟨id, id, id, id, id, id, trivial⟩ ⟨⟨rfl, id⟩, ⟨rfl, id⟩, ⟨rfl, id⟩, trivial⟩
  · try simp at hc0
    refine ex (xt_ (xt_ (xb (th (sq (sq (rg (lPA rfl rfl T.agg25 rfl (cal0 (φs := [agg [sl 1 strE s.actions, sl 2 stateE s.states]]) (φ := sl 1 blE (hollow s)) ⟨rfl, trivial⟩ (ref04.Hollow_ok s (by assumption)) T.ent36 (iF rfl rfl T.sl72 (by omega) (gK (k := 0) (by omega)) (lF rfl rfl T.one4 (nl (th ?_)))))))))))))
    refine cd rfl (fun hc1 => ?_) (fun hc1 => ?_)
    · try simp at hc1
      refine sq (rg (fP rfl T.fld25_0 (lP rfl rfl rfl T.one22 (cal0 (φs := [sl 1 strE s.actions]) (φ := agg [sl 1 strE ((nothing s.actions).actions), sl 2 stateE ((nothing s.actions).states)]) ⟨rfl, trivial⟩ (ref03.Nothing_ok s.actions (by omega)) T.ent37 (mv (sPA (cs' := [sl 1 strE ((nothing s.actions).actions), sl 2 stateE ((nothing s.actions).states)]) rfl rfl rfl T.agg25 rfl rfl (ag (nl (th (rt (rt_ ?_)))))))))))
      have hL : leastR s = (nothing s.actions, List.replicate s.states.length (-1)) := by unfold leastR; rw [if_pos hc1]
      refine fzA 21 3 rfl rfl ?_
      have hr0 : ((nothing s.actions).actions) = (((leastR s).1).actions) := by
        rw [hL]
      have hr1 : ((nothing s.actions).states) = (((leastR s).1).states) := by
        rw [hL]
      have hr2 : tl = ((leastR s).2) := by
        rw [hL, hI0, show k = s.states.length by omega]; simp
      have hall : ∀ x0 x1 x2, ((nothing s.actions).actions) = x0 → ((nothing s.actions).states) = x1 → tl = x2 → resAV [agg [sl 1 strE ((nothing s.actions).actions), sl 2 stateE ((nothing s.actions).states)], sl 1 intE tl] = resAV [agg [sl 1 strE x0, sl 2 stateE x1], sl 1 intE x2] := by rintro _ _ _ rfl rfl rfl; rfl
      exact rE () [.cell 2 25, .tmp 3] rfl [agg [sl 1 strE ((nothing s.actions).actions), sl 2 stateE ((nothing s.actions).states)], sl 1 intE tl] ⟨.agg rfl rfl T.agg25 rfl rfl, .tmp rfl, trivial⟩ (hall _ _ _ hr0 hr1 hr2) trivial (by first | exact .inr rfl | exact .inl rfl)
    · try simp at hc1
      refine sk (th (sq ?_))
      refine drH (nh := 7) [0, 1, 0, 7, 0, 31, 63] [(none, [1]), (none, []), (none, [1]), (none, []), (some 7, []), (none, []), (some 7, [7])] T.mixed (by kernel_rfl) (by kernel_rfl) ?_
      refine stv (d := 39) (fun β0 => agg [sl 1 strE s.actions, sl 2 stateE s.states]) [1] rfl (fun β β' hb => rfl) (fun β0 _ _ _ _ gq gh kq => lPA (gq.1.trans rfl) (gh.1.trans rfl) T.agg25 rfl kq) ?_
      refine stv (d := 40) (fun β0 => sl 1 intE (classesR s)) [] rfl (fun β β' hb => rfl) (fun β0 _ _ _ _ gq gh kq => cal0 (φs := [agg [sl 1 strE s.actions, sl 2 stateE s.states]]) (φ := sl 1 intE (classesR s)) ⟨(gq.1.trans rfl), trivial⟩ (ref06.Classes_ok s (by assumption)) T.ent11 kq) ?_
      refine stv (d := 41) (fun β0 => agg [sl 1 strE s.actions, sl 2 stateE s.states]) [1] rfl (fun β β' hb => rfl) (fun β0 _ _ _ _ gq gh kq => lPA (gq.1.trans rfl) (gh.1.trans rfl) T.agg25 rfl kq) ?_
      refine stv (d := 42) (fun β0 => agg [sl 1 strE ((solid s).actions), sl 2 stateE ((solid s).states)]) [] rfl (fun β β' hb => rfl) (fun β0 _ _ _ _ gq gh kq => cal0 (φs := [agg [sl 1 strE s.actions, sl 2 stateE s.states]]) (φ := agg [sl 1 strE ((solid s).actions), sl 2 stateE ((solid s).states)]) ⟨(gq.1.trans rfl), trivial⟩ (ref04.Solid_ok s (by assumption)) T.ent34 kq) ?_
      refine sta 7 T.z25 (ex_cons (ex_cons (ex_nil))) ?_
      refine stv (d := 6) (fun β0 => sl 1 intE (classesR s)) [] rfl (fun β β' hb => rfl) (fun β0 _ _ _ _ gq gh kq => ag' (gq.1.trans rfl) kq) ?_
      refine stw 7 (fun β0 => cell (gbk (β0 4)) [sl 1 strE ((solid s).actions), sl 2 stateE ((solid s).states)]) [7] rfl (fun β β' hb => by first | rw [hb 4 rfl] | (dsimp only; rw [hb 4 rfl])) (fun β0 _ _ _ _ gq gh kq => sPA (cs' := [sl 1 strE ((solid s).actions), sl 2 stateE ((solid s).states)]) (gq.1.trans rfl) (gh.1.trans rfl) (gq.2.1.trans rfl) T.agg25 rfl rfl kq) ?_
      refine pnH fun β0 => (nl (th (sq (rg (fP rfl T.fld25_1 (lP rfl rfl rfl T.one23 (lnF rfl T.sl23 (mk (key := 46) (m := s.states.length) (enc := intE) (y := (0 : Int)) rfl rfl T.mk28 (ex_cons ex_nil) (by unfold maxL; omega) (by unfold maxL; omega) fun v46 => (ag (nl (th (sq (rg (nw 9 3 1 intE (ag (rtg (key := 9) 9 rfl (nl (th (sq (sq (rg (lPA rfl rfl T.agg25 rfl (cal0 (φs := [agg [sl 1 strE ((solid s).actions), sl 2 stateE ((solid s).states)]]) (φ := sl 1 intE (order (solid s))) ⟨rfl, trivial⟩ (ref04.Order_ok (solid s) (by rw [hsl]; omega) (by rw [hsl]; omega) (fun k hk => by rw [hsl] at hk; exact ⟨by rw [solid_next h hk]; omega, fun a ha => by rw [hsl]; exact solid_bd h hk ha⟩)) T.ent38 (fc (slenI 48 rfl) fun hm48 => (lnF rfl T.sl28 (mv (nl (th (bk ?_)))))))))))))))))))))))))))))
      have hI1_0 : 0 ≤ (order (solid s)).length := by
        first | omega | simp
      have hI1_1 : (([] : List Int), (List.replicate s.states.length (0 : Int)), tl) = lfold (classesR s) s.states.length ((order (solid s)).take 0) ∧ ([] : List Int).length ≤ 0 ∧ (List.replicate s.states.length (0 : Int)).length = s.states.length ∧ tl.length = s.states.length ∧ (∀ i, i < ([] : List Int).length → 0 ≤ ix ([] : List Int) i ∧ ix ([] : List Int) i < (s.states.length : Int)) ∧ ∀ c, 0 ≤ ix (List.replicate s.states.length (0 : Int)) c ∧ ix (List.replicate s.states.length (0 : Int)) c ≤ 1000 := by
        have hk : k = s.states.length := by omega
        refine ⟨?_, by simp, by simp, by rw [hI0]; simp; omega, by simp, fun c => ?_⟩
        · rw [hI0, hk, Nat.sub_self]; simp [lfold]
        · have e : ix (List.replicate s.states.length (0 : Int)) c = 0 := by
            unfold ix
            rw [List.getD_eq_getElem?_getD, List.getElem?_replicate]
            split <;> rfl
          rw [e]; omega
      refine lp (κ := Nat × Value × (List Int) × (List Int) × (List Int)) (fun p => [(1, ptr 1 b1 0), (2, ptr 2 b2 0), (3, eqv (.slice none 0 0)), (4, osl 21 v21), (6, sl 1 intE (classesR s)), (7, ptr 7 (gbk (β0 4)) 0), (8, osl 46 v46), (9, osl 9 p.2.1), (48, sl 1 intE (order (solid s))), (49, int ((order (solid s)).length : Int)), (50, int (p.1 : Int))]) (fun p => [(1, cell b1 [sl 1 strE s.actions, sl 2 stateE s.states]), (2, cell b2 [eqv (.slice none 0 0), eqv (.slice none 0 0)]), (7, cell (gbk (β0 4)) [sl 1 strE ((solid s).actions), sl 2 stateE ((solid s).states)]), (9, own p.2.1 3 1 intE p.2.2.1), (21, own v21 3 1 intE p.2.2.2.2), (46, own v46 3 1 intE p.2.2.2.1)]) (fun p => (p.1 ≤ (order (solid s)).length) ∧ ((p.2.2.1, p.2.2.2.1, p.2.2.2.2) = lfold (classesR s) s.states.length ((order (solid s)).take p.1) ∧ p.2.2.1.length ≤ p.1 ∧ p.2.2.2.1.length = s.states.length ∧ p.2.2.2.2.length = s.states.length ∧ (∀ i, i < p.2.2.1.length → 0 ≤ ix p.2.2.1 i ∧ ix p.2.2.1 i < (s.states.length : Int)) ∧ ∀ c, 0 ≤ ix p.2.2.2.1 c ∧ ix p.2.2.2.1 c ≤ 1000)) (fun p => (order (solid s)).length - p.1) ⟨0, (.slice none 0 0), ([] : List Int), List.replicate s.states.length (0 : Int), tl⟩ ⟨hI1_0, hI1_1⟩ ⟨id, id, id, id, id, id, id, id, id, id, id, trivial⟩ ⟨⟨rfl, id⟩, ⟨rfl, id⟩, ⟨rfl, id⟩, ⟨rfl, id⟩, ⟨rfl, id⟩, ⟨rfl, id⟩, trivial⟩ ?_
      intro ⟨k1, v9x, fi, pl, tm⟩ hG1
      obtain ⟨hk1, hI1⟩ : (k1 ≤ (order (solid s)).length) ∧ ((fi, pl, tm) = lfold (classesR s) s.states.length ((order (solid s)).take k1) ∧ fi.length ≤ k1 ∧ pl.length = s.states.length ∧ tm.length = s.states.length ∧ (∀ i, i < fi.length → 0 ≤ ix fi i ∧ ix fi i < (s.states.length : Int)) ∧ ∀ c, 0 ≤ ix pl c ∧ ix pl c ≤ 1000) := hG1
      show Ct _ _ _ _ [(1, ptr 1 b1 0), (2, ptr 2 b2 0), (3, eqv (.slice none 0 0)), (4, osl 21 v21), (6, sl 1 intE (classesR s)), (7, ptr 7 (gbk (β0 4)) 0), (8, osl 46 v46), (9, osl 9 v9x), (48, sl 1 intE (order (solid s))), (49, int ((order (solid s)).length : Int)), (50, int (k1 : Int))] [(1, cell b1 [sl 1 strE s.actions, sl 2 stateE s.states]), (2, cell b2 [eqv (.slice none 0 0), eqv (.slice none 0 0)]), (7, cell (gbk (β0 4)) [sl 1 strE ((solid s).actions), sl 2 stateE ((solid s).states)]), (9, own v9x 3 1 intE fi), (21, own v21 3 1 intE tm), (46, own v46 3 1 intE pl)] _
      refine sq (rg (bi rfl rfl b_lss (nl (th (sq ?_)))))
      refine cd rfl (fun hc2 => ?_) (fun hc2 => ?_)
      · try simp at hc2
        have hox := hoq.1 k1 (by omega)
        have hcx := classes_bd h (x := (ix (order (solid s)) k1).toNat) (by omega)
        refine sk (th (sq (bk (sq (rg (iF rfl rfl T.sl28 (by omega) (by first | exact gN (by omega) | exact gI (by omega) (by omega)) (lF rfl rfl T.one3 (ag (nl (th (sq (sq (rg (mv (mv (mv (iF rfl rfl T.sl28 (by omega) (by first | exact gN (by omega) | exact gI (by omega) (by omega)) (lF rfl rfl T.one3 (iO rfl rfl rfl T.sl28 (by omega) (by omega) (lO rfl rfl (by first | exact gN (by omega) | exact gI (by omega) (by omega)) rfl T.one3 (bi rfl rfl b_eql (nl (th ?_)))))))))))))))))))))))
        refine cd rfl (fun hc3 => ?_) (fun hc3 => ?_)
        · try simp at hc3
          have hpv : ∀ v : Int, ix (pl.set (ix (classesR s) (ix (order (solid s)) k1).toNat).toNat v) (ix (classesR s) (ix (order (solid s)) k1).toNat).toNat = v := fun v => by rw [ix_set (by omega), if_pos rfl]
          refine sq (rg (mv (mv (bsE (enc := intE) (xs := [(ix (order (solid s)) k1)]) (css := [[int (ix (order (solid s)) k1)]]) T.mk28 ⟨rfl, rfl, p1 (φ := int (ix (order (solid s)) k1)) rfl, trivial⟩ rfl rfl rfl rfl (ap (key := 9) (zs := [(ix (order (solid s)) k1)]) osl_eq rfl rfl rfl T.mk28 (by unfold maxL at *; simp; omega) (by unfold maxL at *; simp; omega) fun v65 => (ag (nl (th (rg (mv (mv (mv (iF rfl rfl T.sl28 (by omega) (by first | exact gN (by omega) | exact gI (by omega) (by omega)) (lF rfl rfl T.one3 (mv (lnO rfl rfl T.sl28 (iO rfl rfl rfl T.sl28 (by omega) (by omega) (sO (φ := int ((fi ++ [(ix (order (solid s)) k1)]).length : Int)) rfl rfl rfl T.one3 (by first | exact gN (by omega) | exact gI (by omega) (by omega)) rfl (y' := ((fi ++ [(ix (order (solid s)) k1)]).length : Int)) rfl (nl (th (rg (mv (mv (mv (mv (mv (iF rfl rfl T.sl28 (by omega) (by first | exact gN (by omega) | exact gI (by omega) (by omega)) (lF rfl rfl T.one3 (iO rfl rfl rfl T.sl28 (by omega) (by first | omega | (simp; omega)) (lO rfl rfl (by first | exact gI (by omega) (by omega) | exact gI (by omega) (by simp; omega)) rfl T.one3 (bi rfl rfl (b_sub (by first | (rw [hpv]; unfold I64; simp; omega) | (unfold I64; omega))) (iO rfl rfl rfl T.sl28 (by omega) (by omega) (sO (φ := int ((ix (pl.set ((ix (classesR s) ((ix (order (solid s)) k1).toNat)).toNat) ((fi ++ [(ix (order (solid s)) k1)]).length : Int)) ((ix (classesR s) ((ix (order (solid s)) k1).toNat)).toNat)) - 1)) rfl rfl rfl T.one3 (by first | exact gN (by omega) | exact gI (by omega) (by omega)) rfl (y' := ((ix (pl.set ((ix (classesR s) ((ix (order (solid s)) k1).toNat)).toNat) ((fi ++ [(ix (order (solid s)) k1)]).length : Int)) ((ix (classesR s) ((ix (order (solid s)) k1).toNat)).toNat)) - 1)) rfl (nl (eb (th (rg (bi rfl rfl (b_add (by unfold I64; omega)) (mv (nl ?_))))))))))))))))))))))))))))))))))))))))
          have hN0 : (k1 + 1) ≤ (order (solid s)).length := by
            first | omega | simp_all
          have hN1 : ((fi ++ [(ix (order (solid s)) k1)]), (pl.set ((ix (classesR s) ((ix (order (solid s)) k1).toNat)).toNat) ((fi ++ [(ix (order (solid s)) k1)]).length : Int)), (tm.set ((ix (order (solid s)) k1).toNat) ((ix (pl.set ((ix (classesR s) ((ix (order (solid s)) k1).toNat)).toNat) ((fi ++ [(ix (order (solid s)) k1)]).length : Int)) ((ix (classesR s) ((ix (order (solid s)) k1).toNat)).toNat)) - 1))) = lfold (classesR s) s.states.length ((order (solid s)).take (k1 + 1)) ∧ (fi ++ [(ix (order (solid s)) k1)]).length ≤ (k1 + 1) ∧ (pl.set ((ix (classesR s) ((ix (order (solid s)) k1).toNat)).toNat) ((fi ++ [(ix (order (solid s)) k1)]).length : Int)).length = s.states.length ∧ (tm.set ((ix (order (solid s)) k1).toNat) ((ix (pl.set ((ix (classesR s) ((ix (order (solid s)) k1).toNat)).toNat) ((fi ++ [(ix (order (solid s)) k1)]).length : Int)) ((ix (classesR s) ((ix (order (solid s)) k1).toNat)).toNat)) - 1)).length = s.states.length ∧ (∀ i, i < (fi ++ [(ix (order (solid s)) k1)]).length → 0 ≤ ix (fi ++ [(ix (order (solid s)) k1)]) i ∧ ix (fi ++ [(ix (order (solid s)) k1)]) i < (s.states.length : Int)) ∧ ∀ c, 0 ≤ ix (pl.set ((ix (classesR s) ((ix (order (solid s)) k1).toNat)).toNat) ((fi ++ [(ix (order (solid s)) k1)]).length : Int)) c ∧ ix (pl.set ((ix (classesR s) ((ix (order (solid s)) k1).toNat)).toNat) ((fi ++ [(ix (order (solid s)) k1)]).length : Int)) c ≤ 1000 := by
            refine ⟨?_, by simp; omega, by simp; omega, by simp; omega, fun i hi => ?_, fun c => ?_⟩
            · rw [take_s (by omega), lfold_snoc, ← hI1.1]
              unfold lstep
              rw [if_pos hc3]
              simp
            · rw [ix_snoc]
              simp at hi
              split
              · exact hI1.2.2.2.2.1 i (by omega)
              · rw [if_pos (by omega)]; exact hox
            · rw [ix_set (by omega)]
              split
              · simp; omega
              · exact hI1.2.2.2.2.2 c
          exact ln (⟨k1 + 1, v65, fi ++ [(ix (order (solid s)) k1)], pl.set ((ix (classesR s) ((ix (order (solid s)) k1).toNat)).toNat) ((fi ++ [(ix (order (solid s)) k1)]).length : Int), tm.set ((ix (order (solid s)) k1).toNat) ((ix (pl.set ((ix (classesR s) ((ix (order (solid s)) k1).toNat)).toNat) ((fi ++ [(ix (order (solid s)) k1)]).length : Int)) ((ix (classesR s) ((ix (order (solid s)) k1).toNat)).toNat)) - 1)⟩ : Nat × Value × (List Int) × (List Int) × (List Int)) ⟨hN0, hN1⟩ (by first | omega | (dsimp only; omega)) ⟨id, id, id, id, id, id, id, id, id, id, id, trivial⟩ ⟨⟨rfl, id⟩, ⟨rfl, id⟩, ⟨rfl, id⟩, ⟨rfl, id⟩, ⟨rfl, id⟩, ⟨rfl, id⟩, trivial⟩
        · try simp at hc3
          have hpw := hI1.2.2.2.2.2 (ix (classesR s) (ix (order (solid s)) k1).toNat).toNat
          refine sk (th (rg (mv (mv (mv (mv (mv (iF rfl rfl T.sl28 (by omega) (by first | exact gN (by omega) | exact gI (by omega) (by omega)) (lF rfl rfl T.one3 (iO rfl rfl rfl T.sl28 (by omega) (by first | omega | (simp; omega)) (lO rfl rfl (by first | exact gI (by omega) (by omega) | exact gI (by omega) (by simp; omega)) rfl T.one3 (bi rfl rfl (b_sub (by first | (rw [hpv]; unfold I64; simp; omega) | (unfold I64; omega))) (iO rfl rfl rfl T.sl28 (by omega) (by omega) (sO (φ := int ((ix pl ((ix (classesR s) ((ix (order (solid s)) k1).toNat)).toNat)) - 1)) rfl rfl rfl T.one3 (by first | exact gN (by omega) | exact gI (by omega) (by omega)) rfl (y' := ((ix pl ((ix (classesR s) ((ix (order (solid s)) k1).toNat)).toNat)) - 1)) rfl (nl (eb (th (rg (bi rfl rfl (b_add (by unfold I64; omega)) (mv (nl ?_)))))))))))))))))))))
          have hN0 : (k1 + 1) ≤ (order (solid s)).length := by
            first | omega | simp_all
          have hN1 : (fi, pl, (tm.set ((ix (order (solid s)) k1).toNat) ((ix pl ((ix (classesR s) ((ix (order (solid s)) k1).toNat)).toNat)) - 1))) = lfold (classesR s) s.states.length ((order (solid s)).take (k1 + 1)) ∧ fi.length ≤ (k1 + 1) ∧ pl.length = s.states.length ∧ (tm.set ((ix (order (solid s)) k1).toNat) ((ix pl ((ix (classesR s) ((ix (order (solid s)) k1).toNat)).toNat)) - 1)).length = s.states.length ∧ (∀ i, i < fi.length → 0 ≤ ix fi i ∧ ix fi i < (s.states.length : Int)) ∧ ∀ c, 0 ≤ ix pl c ∧ ix pl c ≤ 1000 := by
            refine ⟨?_, by omega, hI1.2.2.1, by simp; omega, hI1.2.2.2.2⟩
            rw [take_s (by omega), lfold_snoc, ← hI1.1]
            unfold lstep
            rw [if_neg hc3]
          exact ln (⟨k1 + 1, v9x, fi, pl, tm.set ((ix (order (solid s)) k1).toNat) ((ix pl ((ix (classesR s) ((ix (order (solid s)) k1).toNat)).toNat)) - 1)⟩ : Nat × Value × (List Int) × (List Int) × (List Int)) ⟨hN0, hN1⟩ (by first | omega | (dsimp only; omega)) ⟨id, id, id, id, id, id, id, id, id, id, id, trivial⟩ ⟨⟨rfl, id⟩, ⟨rfl, id⟩, ⟨rfl, id⟩, ⟨rfl, id⟩, ⟨rfl, id⟩, ⟨rfl, id⟩, trivial⟩
      · try simp at hc2
        refine ex (xt_ (xt_ (xb (th (sq (rg (fP rfl T.fld25_0 (lP rfl rfl rfl T.one22 (appendF (enc := strE) (ys := s.actions) rfl rfl T.mk22 (by unfold maxL; omega) (bd (css := [(0, _)]) T.st25 (ex_cons (ex_cons (ex_nil))) ⟨rfl, rfl, p1 (φ := sl 1 strE s.actions) rfl, trivial⟩ (al (key := 12) T.z25 (ex_cons (ex_cons (ex_nil))) fun b12 => (sPA (cs' := [sl 1 strE s.actions, eqv (.slice none 0 0)]) rfl rfl rfl T.agg25 rfl rfl (nl (th (sq (sq (rg (mv (lnO rfl rfl T.sl28 (mv (nl (th (bk ?_)))))))))))))))))))))))
        refine nwC 120 69 2 stateE (kncC 12 1 (osl 120 (.slice none 0 0)) rfl rfl eq_osl ?_)
        have hI2_0 : 0 ≤ fi.length := by
          first | omega | simp
        have hI2_1 : ([] : List SState) = (fi.take 0).map (outState (solid s) tm) := by
          simp
        refine lp (κ := Nat × Value × (List SState)) (fun p => [(2, ptr 2 b2 0), (3, eqv (.slice none 0 0)), (4, osl 21 v21), (7, ptr 7 (gbk (β0 4)) 0), (12, ptr 12 b12 0), (90, osl 9 v9x), (91, int (fi.length : Int)), (92, int (p.1 : Int))]) (fun p => [(1, cell b1 [sl 1 strE s.actions, sl 2 stateE s.states]), (2, cell b2 [eqv (.slice none 0 0), eqv (.slice none 0 0)]), (7, cell (gbk (β0 4)) [sl 1 strE ((solid s).actions), sl 2 stateE ((solid s).states)]), (9, own v9x 3 1 intE fi), (12, cell b12 [sl 1 strE s.actions, osl 120 p.2.1]), (21, own v21 3 1 intE tm), (46, own v46 3 1 intE pl), (120, own p.2.1 69 2 stateE p.2.2)]) (fun p => (p.1 ≤ fi.length) ∧ (p.2.2 = (fi.take p.1).map (outState (solid s) tm))) (fun p => fi.length - p.1) ⟨0, (.slice none 0 0), ([] : List SState)⟩ ⟨hI2_0, hI2_1⟩ ⟨id, id, id, id, id, id, id, id, trivial⟩ ⟨⟨rfl, id⟩, ⟨rfl, id⟩, ⟨rfl, id⟩, ⟨rfl, id⟩, ⟨rfl, id⟩, ⟨rfl, id⟩, ⟨rfl, id⟩, ⟨rfl, id⟩, trivial⟩ ?_
        intro ⟨k2, v2x, acc⟩ hG2
        obtain ⟨hk2, hI2⟩ : (k2 ≤ fi.length) ∧ (acc = (fi.take k2).map (outState (solid s) tm)) := hG2
        show Ct _ _ _ _ [(2, ptr 2 b2 0), (3, eqv (.slice none 0 0)), (4, osl 21 v21), (7, ptr 7 (gbk (β0 4)) 0), (12, ptr 12 b12 0), (90, osl 9 v9x), (91, int (fi.length : Int)), (92, int (k2 : Int))] [(1, cell b1 [sl 1 strE s.actions, sl 2 stateE s.states]), (2, cell b2 [eqv (.slice none 0 0), eqv (.slice none 0 0)]), (7, cell (gbk (β0 4)) [sl 1 strE ((solid s).actions), sl 2 stateE ((solid s).states)]), (9, own v9x 3 1 intE fi), (12, cell b12 [sl 1 strE s.actions, osl 120 v2x]), (21, own v21 3 1 intE tm), (46, own v46 3 1 intE pl), (120, own v2x 69 2 stateE acc)] _
        have hal : acc.length ≤ k2 := by rw [hI2]; simp; omega
        have hF := hI1.2.2.2.2.1
        refine sq (rg (bi rfl rfl b_lss (nl (th (sq ?_)))))
        refine cd rfl (fun hc4 => ?_) (fun hc4 => ?_)
        · try simp at hc4
          have hfx := hF k2 (by omega)
          have hsn := solid_next h (x := (ix fi k2).toNat) (by omega)
          refine sk (th (sq (bk (sq (rg (iO rfl rfl rfl T.sl28 (by omega) (by omega) (lO rfl rfl (by first | exact gN (by omega) | exact gI (by omega) (by omega)) rfl T.one3 (ag (nl (th (sq (rg (fP rfl T.fld25_1 (lP rfl rfl rfl T.one23 (mv (iF rfl rfl T.sl23 (by omega) (by first | exact gN (by omega) | exact gI (by omega) (by omega)) (fF rfl T.fld69_0 (lF rfl rfl T.one28 (bd (css := [(0, _)]) T.st69 (ex_cons (ex_cons (ex_nil))) ⟨rfl, rfl, p1 (φ := sl 1 intE ((ix ((solid s).states) ((ix fi k2).toNat)).accept)) rfl, trivial⟩ (al (key := 15) T.z69 (ex_cons (ex_cons (ex_nil))) fun b15 => (sPA (cs' := [sl 1 intE ((ix ((solid s).states) ((ix fi k2).toNat)).accept), eqv (.slice none 0 0)]) rfl rfl rfl T.agg69 rfl rfl (nl (th (sq (sq (rg (fP rfl T.fld25_1 (lP rfl rfl rfl T.one23 (mv (iF rfl rfl T.sl23 (by omega) (by first | exact gN (by omega) | exact gI (by omega) (by omega)) (fF rfl T.fld69_1 (lF rfl rfl T.one28 (fc (slenI 108 rfl) fun hm108 => (lnF rfl T.sl28 (mv (nl (th (bk ?_))))))))))))))))))))))))))))))))))))))
          refine nwC 151 3 1 intE (kncC 15 1 (osl 151 (.slice none 0 0)) rfl rfl eq_osl ?_)
          have hI3_0 : 0 ≤ ((ix ((solid s).states) ((ix fi k2).toNat)).next).length := by
            first | omega | simp
          have hI3_1 : ([] : List Int) = ((ix (solid s).states (ix fi k2).toNat).next.take 0).map (mapK tm) := by
            simp
          refine lp (κ := Nat × Value × (List Int)) (fun p => [(2, ptr 2 b2 0), (3, eqv (.slice none 0 0)), (4, osl 21 v21), (7, ptr 7 (gbk (β0 4)) 0), (12, ptr 12 b12 0), (15, ptr 15 b15 0), (90, osl 9 v9x), (91, int (fi.length : Int)), (92, int (k2 : Int)), (108, sl 1 intE ((ix ((solid s).states) ((ix fi k2).toNat)).next)), (109, int (((ix ((solid s).states) ((ix fi k2).toNat)).next).length : Int)), (110, int (p.1 : Int))]) (fun p => [(1, cell b1 [sl 1 strE s.actions, sl 2 stateE s.states]), (2, cell b2 [eqv (.slice none 0 0), eqv (.slice none 0 0)]), (7, cell (gbk (β0 4)) [sl 1 strE ((solid s).actions), sl 2 stateE ((solid s).states)]), (9, own v9x 3 1 intE fi), (12, cell b12 [sl 1 strE s.actions, osl 120 v2x]), (15, cell b15 [sl 1 intE ((ix (solid s).states (ix fi k2).toNat).accept), osl 151 p.2.1]), (21, own v21 3 1 intE tm), (46, own v46 3 1 intE pl), (120, own v2x 69 2 stateE acc), (151, own p.2.1 3 1 intE p.2.2)]) (fun p => (p.1 ≤ ((ix ((solid s).states) ((ix fi k2).toNat)).next).length) ∧ (p.2.2 = ((ix (solid s).states (ix fi k2).toNat).next.take p.1).map (mapK tm))) (fun p => ((ix ((solid s).states) ((ix fi k2).toNat)).next).length - p.1) ⟨0, (.slice none 0 0), ([] : List Int)⟩ ⟨hI3_0, hI3_1⟩ ⟨id, id, id, id, id, id, id, id, id, id, id, id, trivial⟩ ⟨⟨rfl, id⟩, ⟨rfl, id⟩, ⟨rfl, id⟩, ⟨rfl, id⟩, ⟨rfl, id⟩, ⟨rfl, id⟩, ⟨rfl, id⟩, ⟨rfl, id⟩, ⟨rfl, id⟩, ⟨rfl, id⟩, trivial⟩ ?_
          intro ⟨k3, v3x, l3⟩ hG3
          obtain ⟨hk3, hI3⟩ : (k3 ≤ ((ix ((solid s).states) ((ix fi k2).toNat)).next).length) ∧ (l3 = ((ix (solid s).states (ix fi k2).toNat).next.take k3).map (mapK tm)) := hG3
          show Ct _ _ _ _ [(2, ptr 2 b2 0), (3, eqv (.slice none 0 0)), (4, osl 21 v21), (7, ptr 7 (gbk (β0 4)) 0), (12, ptr 12 b12 0), (15, ptr 15 b15 0), (90, osl 9 v9x), (91, int (fi.length : Int)), (92, int (k2 : Int)), (108, sl 1 intE ((ix ((solid s).states) ((ix fi k2).toNat)).next)), (109, int (((ix ((solid s).states) ((ix fi k2).toNat)).next).length : Int)), (110, int (k3 : Int))] [(1, cell b1 [sl 1 strE s.actions, sl 2 stateE s.states]), (2, cell b2 [eqv (.slice none 0 0), eqv (.slice none 0 0)]), (7, cell (gbk (β0 4)) [sl 1 strE ((solid s).actions), sl 2 stateE ((solid s).states)]), (9, own v9x 3 1 intE fi), (12, cell b12 [sl 1 strE s.actions, osl 120 v2x]), (15, cell b15 [sl 1 intE ((ix (solid s).states (ix fi k2).toNat).accept), osl 151 v3x]), (21, own v21 3 1 intE tm), (46, own v46 3 1 intE pl), (120, own v2x 69 2 stateE acc), (151, own v3x 3 1 intE l3)] _
          have hl3 : l3.length ≤ k3 := by rw [hI3]; simp; omega
          refine sq (rg (bi rfl rfl b_lss (nl (th (sq ?_)))))
          refine cd rfl (fun hc5 => ?_) (fun hc5 => ?_)
          · try simp at hc5
            have hbd := solid_bd h (x := (ix fi k2).toNat) (by omega) (a := k3) (by omega)
            refine sk (th (sq (bk (sq (rg (iF rfl rfl T.sl28 (by omega) (by first | exact gN (by omega) | exact gI (by omega) (by omega)) (lF rfl rfl T.one3 (ag (nl (th (sq (sq (rg (mv (bi rfl rfl b_geq (nl (th ?_)))))))))))))))))
            refine cd rfl (fun hc6 => ?_) (fun hc6 => ?_)
            · try simp at hc6
              refine rg (mv (mv (iO rfl rfl rfl T.sl28 (by omega) (by omega) (lO rfl rfl (by first | exact gN (by omega) | exact gI (by omega) (by omega)) rfl T.one3 (ag (nl (th (rg (fP rfl T.fld69_1 (lP rfl rfl rfl T.one28 (mv (bsE (enc := intE) (xs := [(ix tm ((ix ((ix ((solid s).states) ((ix fi k2).toNat)).next) k3).toNat))]) (css := [[int (ix tm ((ix ((ix ((solid s).states) ((ix fi k2).toNat)).next) k3).toNat))]]) T.mk28 ⟨rfl, rfl, p1 (φ := int (ix tm ((ix ((ix ((solid s).states) ((ix fi k2).toNat)).next) k3).toNat))) rfl, trivial⟩ rfl rfl rfl rfl (ap (key := 151) (zs := [(ix tm ((ix ((ix ((solid s).states) ((ix fi k2).toNat)).next) k3).toNat))]) osl_eq rfl rfl rfl T.mk28 (by unfold maxL at *; simp; omega) (by unfold maxL at *; simp; omega) fun v124 => (fP rfl T.fld69_1 (storePO rfl rfl rfl rfl T.one28 rfl (nl (eb (th (rg (bi rfl rfl (b_add (by unfold I64; omega)) (mv (nl ?_))))))))))))))))))))))
              have hN0 : (k3 + 1) ≤ ((ix ((solid s).states) ((ix fi k2).toNat)).next).length := by
                first | omega | simp_all
              have hN1 : (l3 ++ [(ix tm ((ix ((ix ((solid s).states) ((ix fi k2).toNat)).next) k3).toNat))]) = ((ix (solid s).states (ix fi k2).toNat).next.take (k3 + 1)).map (mapK tm) := by
                rw [map_take_succ (by omega), hI3]; simp [mapK, hc6]
              exact ln (⟨k3 + 1, v124, l3 ++ [(ix tm ((ix ((ix ((solid s).states) ((ix fi k2).toNat)).next) k3).toNat))]⟩ : Nat × Value × (List Int)) ⟨hN0, hN1⟩ (by first | omega | (dsimp only; omega)) ⟨id, id, id, id, id, id, id, id, id, id, id, id, trivial⟩ ⟨⟨rfl, id⟩, ⟨rfl, id⟩, ⟨rfl, id⟩, ⟨rfl, id⟩, ⟨rfl, id⟩, ⟨rfl, id⟩, ⟨rfl, id⟩, ⟨rfl, id⟩, ⟨rfl, id⟩, ⟨rfl, id⟩, trivial⟩
            · try simp at hc6
              refine sk (th (rg (fP rfl T.fld69_1 (lP rfl rfl rfl T.one28 (mv (bsE (enc := intE) (xs := [(ix ((ix ((solid s).states) ((ix fi k2).toNat)).next) k3)]) (css := [[int (ix ((ix ((solid s).states) ((ix fi k2).toNat)).next) k3)]]) T.mk28 ⟨rfl, rfl, p1 (φ := int (ix ((ix ((solid s).states) ((ix fi k2).toNat)).next) k3)) rfl, trivial⟩ rfl rfl rfl rfl (ap (key := 151) (zs := [(ix ((ix ((solid s).states) ((ix fi k2).toNat)).next) k3)]) osl_eq rfl rfl rfl T.mk28 (by unfold maxL at *; simp; omega) (by unfold maxL at *; simp; omega) fun v124 => (fP rfl T.fld69_1 (storePO rfl rfl rfl rfl T.one28 rfl (nl (eb (th (rg (bi rfl rfl (b_add (by unfold I64; omega)) (mv (nl ?_))))))))))))))))
              have hN0 : (k3 + 1) ≤ ((ix ((solid s).states) ((ix fi k2).toNat)).next).length := by
                first | omega | simp_all
              have hN1 : (l3 ++ [(ix ((ix ((solid s).states) ((ix fi k2).toNat)).next) k3)]) = ((ix (solid s).states (ix fi k2).toNat).next.take (k3 + 1)).map (mapK tm) := by
                rw [map_take_succ (by omega), hI3]; simp [mapK]; omega
              exact ln (⟨k3 + 1, v124, l3 ++ [(ix ((ix ((solid s).states) ((ix fi k2).toNat)).next) k3)]⟩ : Nat × Value × (List Int)) ⟨hN0, hN1⟩ (by first | omega | (dsimp only; omega)) ⟨id, id, id, id, id, id, id, id, id, id, id, id, trivial⟩ ⟨⟨rfl, id⟩, ⟨rfl, id⟩, ⟨rfl, id⟩, ⟨rfl, id⟩, ⟨rfl, id⟩, ⟨rfl, id⟩, ⟨rfl, id⟩, ⟨rfl, id⟩, ⟨rfl, id⟩, ⟨rfl, id⟩, trivial⟩
          · try simp at hc5
            refine ex (xt_ (xt_ (xb (th (rg (fP rfl T.fld25_1 (lP rfl rfl rfl T.one23 (fzc 15 151 1 rfl rfl rfl rfl (lPA rfl rfl T.agg69 rfl (bsE (enc := stateE) (xs := [(⟨(ix (solid s).states (ix fi k2).toNat).accept, l3⟩)]) (css := [[sl 1 intE ((ix (solid s).states (ix fi k2).toNat).accept), sl 1 intE l3]]) T.mk23 ⟨rfl, rfl, pA (cs := [sl 1 intE ((ix (solid s).states (ix fi k2).toNat).accept), sl 1 intE l3]) rfl, trivial⟩ rfl rfl rfl rfl (ap (key := 120) (zs := [(⟨(ix (solid s).states (ix fi k2).toNat).accept, l3⟩)]) osl_eq rfl rfl rfl T.mk23 (by unfold maxL at *; simp; omega) (by unfold maxL at *; simp; omega) fun v131 => (fP rfl T.fld25_1 (storePO rfl rfl rfl rfl T.one23 rfl (nl (eb (th (rg (bi rfl rfl (b_add (by unfold I64; omega)) (mv (nl ?_))))))))))))))))))))
            have hN0 : (k2 + 1) ≤ fi.length := by
              first | omega | simp_all
            have hN1 : (acc ++ [(⟨(ix (solid s).states (ix fi k2).toNat).accept, l3⟩)]) = (fi.take (k2 + 1)).map (outState (solid s) tm) := by
              rw [map_take_succ (by omega), hI2]
              congr 2
              unfold outState
              rw [hI3, show k3 = (ix (solid s).states (ix fi k2).toNat).next.length by omega, List.take_length]
            exact ln (⟨k2 + 1, v131, acc ++ [(⟨(ix (solid s).states (ix fi k2).toNat).accept, l3⟩)]⟩ : Nat × Value × (List SState)) ⟨hN0, hN1⟩ (by first | omega | (dsimp only; omega)) ⟨id, id, id, id, id, id, id, id, trivial⟩ ⟨⟨rfl, id⟩, ⟨rfl, id⟩, ⟨rfl, id⟩, ⟨rfl, id⟩, ⟨rfl, id⟩, ⟨rfl, id⟩, ⟨rfl, id⟩, ⟨rfl, id⟩, trivial⟩
        · try simp at hc4
          refine ex (xt_ (xt_ (xb (th (sq (rg (fzc 12 120 1 rfl rfl rfl rfl (lPA rfl rfl T.agg25 rfl (mv (sPA (cs' := [sl 1 strE s.actions, sl 2 stateE acc]) rfl rfl rfl T.agg25 rfl rfl (ag (nl (th (rt ?_))))))))))))))
          have hL : leastR s = (⟨s.actions, fi.map (outState (solid s) tm)⟩, tm) := by
            have h1 := hI1.1
            rw [show k1 = (order (solid s)).length by omega, List.take_length] at h1
            unfold leastR
            rw [if_neg (by simp [hc1])]
            simp only [← h1]
          refine fzA 21 3 rfl rfl ?_
          have hr0 : s.actions = (((leastR s).1).actions) := by
            rw [hL]
          have hr1 : acc = (((leastR s).1).states) := by
            rw [hL, hI2, show k2 = fi.length by omega, List.take_length]
          have hr2 : tm = ((leastR s).2) := by
            rw [hL]
          have hall : ∀ x0 x1 x2, s.actions = x0 → acc = x1 → tm = x2 → resAV [agg [sl 1 strE s.actions, sl 2 stateE acc], sl 1 intE tm] = resAV [agg [sl 1 strE x0, sl 2 stateE x1], sl 1 intE x2] := by rintro _ _ _ rfl rfl rfl; rfl
          exact rE () [.cell 2 25, .tmp 3] rfl [agg [sl 1 strE s.actions, sl 2 stateE acc], sl 1 intE tm] ⟨.agg rfl rfl T.agg25 rfl rfl, .tmp rfl, trivial⟩ (hall _ _ _ hr0 hr1 hr2) trivial (by first | exact .inr rfl | exact .inl rfl)
end ref06
end Go.Proofs.YtolpjmllmlahfaaDoor
