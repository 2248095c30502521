/- The abstract logic, part 4: stores, makes, appends. Under no conditions: general lemmas. -/
import Derived.Test.YtolpjmllmlahfaaDoorALOps2
import Derived.Laws.CopyRow
namespace AL
open Go
attribute [local semireducible] any eqv agg tup fp ptr sl exi andp above emp cell own obj osl eptr

class OneAll (cs : List AV) : Prop where
  all : ∀ {w F vs}, All2 w F cs vs → ∀ v ∈ vs, v.oneCell' = true
instance : OneAll [] := ⟨fun {w F vs} h v hv => by cases vs with | nil => simp at hv | cons _ _ => exact h.elim⟩
instance (φ : AV) (cs : List AV) [h1 : One φ] [h2 : OneAll cs] : OneAll (φ :: cs) := ⟨fun {w F vs} h v hv => by
  cases vs with
  | nil => simp at hv
  | cons u us =>
    rcases List.mem_cons.1 hv with rfl | h3
    · exact h1.one h.1
    · exact h2.all h.2 v h3⟩

section
variable {P : Program} {r : Option Nat} {ops : Array Oper} {Q : Exit → Act → World → Prop} {rest : List Oper} {B : Base} {E : Env} {H : Hp} {a : Act} {w : World}
variable {d ty : Nat} {pos : String} {af : Array Edge}

theorem one_cells {v : Value} (h : v.oneCell' = true) : v.cells = #[v] := by
  revert h
  cases v <;> simp [Value.oneCell', Value.cells]

/-- The cells of a block from o on turned into vs. -/
theorem run_storeCells_rd {g o t : Nat} {vs : List Value} {cur : Array Value} (hg : w.heap[g]? = some (.cells cur t (0, 0))) (hl : o + vs.length ≤ cur.size) (h1 : ∀ v ∈ vs, v.oneCell' = true) :
    (storeCells ⟨g, o, none⟩ vs).run P w = .ok () (w.setRow g (cur.toList.take o ++ vs ++ cur.toList.drop (o + vs.length)).toArray) := by
  have := run_storeCells_at (P := P) g o t vs 0 cur w hg (by omega) h1
  simpa using this

theorem run_storeVar_one {T g o t : Nat} {v : Value} {cur : Array Value} (ht : IsOne P T) (hg : w.heap[g]? = some (.cells cur t (0, 0))) (hl : o < cur.size) (h1 : v.oneCell' = true) :
    (storeVar T ⟨g, o, none⟩ v).run P w = .ok () (w.setRow g (cur.toList.take o ++ [v] ++ cur.toList.drop (o + 1)).toArray) := by
  have := run_storeCells_rd (P := P) (o := o) (vs := [v]) hg (by simp; omega) (by simpa using h1)
  simp only [storeVar, Sem.run_bind, ht.size, Result.andThen_ok, one_cells h1]
  simpa using this

theorem run_storeVar_agg {T g o t n : Nat} {vs : List Value} {cur : Array Value} (ht : IsAgg P T n) (hn : vs.length = n) (hg : w.heap[g]? = some (.cells cur t (0, 0))) (hl : o + n ≤ cur.size) (h1 : ∀ v ∈ vs, v.oneCell' = true) :
    (storeVar T ⟨g, o, none⟩ (.agg vs.toArray)).run P w = .ok () (w.setRow g (cur.toList.take o ++ vs ++ cur.toList.drop (o + vs.length)).toArray) := by
  have := run_storeCells_rd (P := P) (o := o) (vs := vs) hg (by omega) h1
  simp only [storeVar, Sem.run_bind, ht.size, Result.andThen_ok, Value.cells]
  simpa [hn] using this

theorem SimF.row {F : Fz} {Ds : List Nat} (h : SimF B E H a w F Ds) (key : Nat) (x : HA) {g : Nat} (cur : Array Value) (hg : (lkH key H).foot g) (hf : ∀ b, x.foot b → (lkH key H).foot b) (hx : x.p (w.setRow g cur) F) :
    SimF B E ((key, x) :: H) a (w.setRow g cur) F Ds :=
  h.upd (w' := w.setRow g cur) key x (by simp) rfl rfl rfl (fun b _ hb => setRow_other w g b _ (fun e => hb (e ▸ hg))) (fun b hb => ⟨.inl (hf b hb), by have := (h.hN key b (hf b hb)).1; simpa using this⟩) hx
theorem SimF.rowStay {F : Fz} {Ds : List Nat} (h : SimF B E H a w F Ds) {key g : Nat} (cur : Array Value) (hg : (lkH key H).foot g) : ∀ b, F b → (w.setRow g cur).heap[b]? = w.heap[b]? :=
  fun b hb => setRow_other w g b _ (fun e => h.hF key g hg (e ▸ hb))

theorem take_set_drop {α : Type} (l : List α) (o : Nat) (v : α) (h : o < l.length) : l.take o ++ [v] ++ l.drop (o + 1) = l.set o v := by
  rw [List.set_eq_take_append_cons_drop, if_pos h]; simp

/-- A store into an own variable. -/
theorem o_storeP {T key b o : Nat} {cs : List AV} {φ : AV} {x y : Operand} (h : Sim B E H a w) (hx : lkO x E = ptr key b o) (hk : lkH key H = cell b cs) (hy : lkO y E = φ) [h1 : One φ] (ht : IsOne P T) (ho : Nat.blt o cs.length = true)
    (k : ∀ a w, Sim B E ((key, cell b (cs.set o φ)) :: H) a w → wl r P ops Q rest a w) :
    wl r P ops Q ({ dst := none, op := .store T x y, type := ty, pos := pos, after := af, guard := none } :: rest) a w :=
  op_skp (ι := Unit) (E' := fun _ => E) (H' := fun _ => (key, cell b (cs.set o φ)) :: H) h rfl (fun _ => nofun) (fun F Ds hs => by
    have hvx := hs.opd x
    have hvy := hs.opd y
    rw [hx] at hvx
    rw [hy] at hvy
    have hvx : a.eval x = .pointer (some ⟨b, o, none⟩) := hvx
    have h2 := hs.hp key
    rw [hk] at h2
    obtain ⟨vs, t, hc, ha⟩ := h2
    have hlen := ha.length
    have ho' : o < vs.length := by rw [hlen]; simpa using ho
    refine ⟨w.setRow b (vs.take o ++ [a.eval y] ++ vs.drop (o + 1)).toArray, ?_, (), F, Ds, SimF.putNone (hs.row key _ _ (by rw [hk]; rfl) (fun b' hb' => by rw [hk]; exact hb') ?_)⟩
    · have := run_storeVar_one (P := P) (v := a.eval y) ht hc (by simpa using ho') (h1.one hvy)
      simp only [execOp, hvx, Instr.storeAt, Instr.sureAddr, Sem.run_bind, Sem.run_pure, Result.andThen_ok]
      rw [this]; rfl
    · refine ⟨vs.set o (a.eval y), t, ?_, (ha.set o hvy).st (fun _ h => h) (hs.rowStay _ (key := key) (by rw [hk]; rfl))⟩
      rw [take_set_drop _ _ _ ho']
      exact setRow_heap w b _ _ t _ hc) (fun _ => k)

theorem All2.splice {F : Fz} {cs cs' : List AV} {vs us : List Value} (o : Nat) (h : All2 w F cs vs) (hu : All2 w F cs' us) : All2 w F (cs.take o ++ cs' ++ cs.drop (o + cs'.length)) (vs.take o ++ us ++ vs.drop (o + us.length)) := by
  rw [hu.length]
  exact ((h.take o).append hu).append (h.drop _)

theorem o_storePA {T n key b o : Nat} {cs cs' : List AV} {x y : Operand} (h : Sim B E H a w) (hx : lkO x E = ptr key b o) (hk : lkH key H = cell b cs) (hy : lkO y E = agg cs') [h1 : OneAll cs'] (ht : IsAgg P T n) (hn : cs'.length = n) (ho : Nat.ble (o + n) cs.length = true)
    (k : ∀ a w, Sim B E ((key, cell b (cs.take o ++ cs' ++ cs.drop (o + cs'.length))) :: H) a w → wl r P ops Q rest a w) :
    wl r P ops Q ({ dst := none, op := .store T x y, type := ty, pos := pos, after := af, guard := none } :: rest) a w :=
  op_skp (ι := Unit) (E' := fun _ => E) (H' := fun _ => (key, cell b (cs.take o ++ cs' ++ cs.drop (o + cs'.length))) :: H) h rfl (fun _ => nofun) (fun F Ds hs => by
    have hvx := hs.opd x
    have hvy := hs.opd y
    rw [hx] at hvx
    rw [hy] at hvy
    have hvx : a.eval x = .pointer (some ⟨b, o, none⟩) := hvx
    obtain ⟨us, hus, hau⟩ := hvy
    have h2 := hs.hp key
    rw [hk] at h2
    obtain ⟨vs, t, hc, ha⟩ := h2
    have hlen := ha.length
    have hlu := hau.length
    have ho' : o + n ≤ vs.length := by rw [hlen]; simpa using ho
    refine ⟨w.setRow b (vs.take o ++ us ++ vs.drop (o + us.length)).toArray, ?_, (), F, Ds, SimF.putNone (hs.row key _ _ (by rw [hk]; rfl) (fun b' hb' => by rw [hk]; exact hb') ?_)⟩
    · have := run_storeVar_agg (P := P) (vs := us) ht (by omega) hc (by simpa using ho') (h1.all hau)
      simp only [execOp, hvx, hus, Instr.storeAt, Instr.sureAddr, Sem.run_bind, Sem.run_pure, Result.andThen_ok]
      rw [this]; rfl
    · exact ⟨_, t, setRow_heap w b _ _ t _ hc, (ha.splice o hau).st (fun _ h => h) (hs.rowStay _ (key := key) (by rw [hk]; rfl))⟩) (fun _ => k)

theorem Els.splice {α : Type} {F : Fz} {n : Nat} {enc : α → List AV} {xs : List α} {vs us : List Value} (h : Els w F n enc xs vs) {i j : Nat} {y y' : α} (hi : xs[i]? = some y) {cs' : List AV} (hu : All2 w F cs' us) (hj : j + cs'.length ≤ n)
    (he : enc y' = (enc y).take j ++ cs' ++ (enc y).drop (j + cs'.length)) :
    Els w F n enc (xs.set i y') (vs.take (i * n + j) ++ us ++ vs.drop (i * n + j + us.length)) := by
  have hlt : i < xs.length := (List.getElem?_eq_some_iff.1 hi).1
  have hle : (i + 1) * n ≤ xs.length * n := Nat.mul_le_mul_right n hlt
  rw [Nat.add_mul] at hle
  have hlen := h.len
  have hul := hu.length
  have hel := h.el i y hi
  have h2 : All2 w F (enc y') (((vs.drop (i * n)).take n).take j ++ us ++ ((vs.drop (i * n)).take n).drop (j + us.length)) := by
    rw [he]; exact hel.splice j hu
  have h3 := h.set (y := y') hlt (us := ((vs.drop (i * n)).take n).take j ++ us ++ ((vs.drop (i * n)).take n).drop (j + us.length)) (by simp; omega) h2
  have e : vs.take (i * n) ++ (((vs.drop (i * n)).take n).take j ++ us ++ ((vs.drop (i * n)).take n).drop (j + us.length)) ++ vs.drop (i * n + n) = vs.take (i * n + j) ++ us ++ vs.drop (i * n + j + us.length) := by
    have e1 : vs.take (i * n + j) = vs.take (i * n) ++ ((vs.drop (i * n)).take n).take j := by
      rw [List.take_take, Nat.min_eq_left (by omega), List.take_add]
    have e2 : vs.drop (i * n + j + us.length) = ((vs.drop (i * n)).take n).drop (j + us.length) ++ vs.drop (i * n + n) := by
      have : vs.drop (i * n + j + us.length) = (vs.drop (i * n)).drop (j + us.length) := by rw [List.drop_drop, Nat.add_assoc]
      rw [this]
      conv => lhs; rw [← List.take_append_drop n (vs.drop (i * n))]
      rw [List.drop_append_of_le_length (by simp; omega), List.drop_drop]
    rw [e1, e2]; simp [List.append_assoc]
  rw [← e]; exact h3

/-- What a store into an own slice's element comes to. -/
theorem own_splice {α : Type} {v : Value} {et n : Nat} {enc : α → List AV} {xs : List α} {F : Fz} (h : (own v et n enc xs).p w F) {i j : Nat} {y y' : α} (hi : xs[i]? = some y) {b l c : Nat} (hv : v = .slice (some ⟨b, 0, none⟩) l c)
    {cs' : List AV} {us : List Value} (hu : All2 w F cs' us) (hj : j + cs'.length ≤ n) (he : enc y' = (enc y).take j ++ cs' ++ (enc y).drop (j + cs'.length)) (hF : ¬ F b) :
    ∃ cur : Array Value, w.heap[b]? = some (.cells cur et (0, 0)) ∧ i * n + j + us.length ≤ cur.size ∧
      (own v et n enc (xs.set i y')).p (w.setRow b (cur.toList.take (i * n + j) ++ us ++ cur.toList.drop (i * n + j + us.length)).toArray) F := by
  have hlt : i < xs.length := (List.getElem?_eq_some_iff.1 hi).1
  have hle : (i + 1) * n ≤ xs.length * n := Nat.mul_le_mul_right n hlt
  rw [Nat.add_mul] at hle
  have hul := hu.length
  obtain ⟨hm, vs, h, hels⟩ := h
  have hlen := hels.len
  rcases h.2 with ⟨hv', hx⟩ | ⟨b', cap, cur, hv', h0, hc, hcap, hmx, hsz, htake⟩
  · omega
  · have hbb : b = b' := by rw [hv] at hv'; simp at hv'; exact hv'.1
    subst hbb
    have hcl : xs.length * n ≤ cur.size := by rw [hsz]; exact Nat.mul_le_mul_right n hcap
    refine ⟨cur, hc, by omega, by simpa using hm, vs.take (i * n + j) ++ us ++ vs.drop (i * n + j + us.length), ⟨?_, .inr ⟨b, cap, _, by simpa using hv', h0, setRow_heap w b cur _ et _ hc, by simpa using hcap, hmx, ?_, ?_⟩⟩, ?_⟩
    · simp; omega
    · simp; omega
    · simp only [List.length_set]
      rw [← htake]
      apply List.ext_getElem?
      intro t
      have m1 : min (i * n + j) cur.size = i * n + j := by omega
      have m2 : min (xs.length * n) cur.size = xs.length * n := by omega
      have m3 : min (i * n + j) (xs.length * n) = i * n + j := by omega
      simp only [List.getElem?_take, List.getElem?_append, List.length_append, List.length_take, List.getElem?_drop, Array.length_toList, m1, m2, m3]
      by_cases h1 : t < xs.length * n
      · rw [if_pos h1]
        by_cases h2 : t < i * n + j + us.length
        · rw [if_pos h2, if_pos h2]
          by_cases h3 : t < i * n + j
          · rw [if_pos h3, if_pos h3, if_pos h3, if_pos h3, if_pos h1]
          · rw [if_neg h3, if_neg h3]
        · rw [if_neg h2, if_neg h2, if_pos (by omega)]
      · rw [if_neg h1, if_neg (by omega), if_neg (by omega)]
    · exact (hels.splice hi hu hj he).st (fun _ h => h) (fun x hx => setRow_other w b x _ (fun e => hF (e ▸ hx)))

theorem o_storeO {α : Type} {T n key i j et : Nat} {v : Value} {enc : α → List AV} {xs : List α} {x z : Operand} {y y' : α} {φ : AV} (h : Sim B E H a w) (hx : lkO x E = eptr key v n i j) (hk : lkH key H = own v et n enc xs)
    (hz : lkO z E = φ) [h1 : One φ] (ht : IsOne P T) (hy : xs[i]? = some y) (hj : Nat.blt j n = true) (he : enc y' = (enc y).take j ++ [φ] ++ (enc y).drop (j + 1))
    (k : ∀ a w, Sim B E ((key, own v et n enc (xs.set i y')) :: H) a w → wl r P ops Q rest a w) :
    wl r P ops Q ({ dst := none, op := .store T x z, type := ty, pos := pos, after := af, guard := none } :: rest) a w :=
  op_skp (ι := Unit) (E' := fun _ => E) (H' := fun _ => (key, own v et n enc (xs.set i y')) :: H) h rfl (fun _ => nofun) (fun F Ds hs => by
    have hvx := hs.opd x
    have hvz := hs.opd z
    rw [hx] at hvx
    rw [hz] at hvz
    obtain ⟨b, l, c, hv, hu⟩ := hvx
    have h3 := hs.hp key
    rw [hk] at h3
    have hfoot : (lkH key H).foot b := by rw [hk]; subst hv; rfl
    have hj' : j < n := by simpa using hj
    obtain ⟨cur, hc, hl, hp⟩ := own_splice h3 hy hv (cs' := [φ]) (us := [a.eval z]) ⟨hvz, trivial⟩ (by simp; omega) he (hs.hF key b hfoot)
    refine ⟨_, ?_, (), F, Ds, SimF.putNone (hs.row key _ _ hfoot (fun b' hb' => by rw [hk]; exact hb') hp)⟩
    have := run_storeVar_one (P := P) (v := a.eval z) ht hc (o := i * n + j) (by simp at hl; omega) (h1.one hvz)
    simp only [execOp, hu, Instr.storeAt, Instr.sureAddr, Sem.run_bind, Sem.run_pure, Result.andThen_ok]
    rw [this]; rfl) (fun _ => k)

theorem o_storeOA {α : Type} {T m n key i j et : Nat} {v : Value} {enc : α → List AV} {xs : List α} {x z : Operand} {y y' : α} {cs' : List AV} (h : Sim B E H a w) (hx : lkO x E = eptr key v n i j) (hk : lkH key H = own v et n enc xs)
    (hz : lkO z E = agg cs') [h1 : OneAll cs'] (ht : IsAgg P T m) (hm : cs'.length = m) (hy : xs[i]? = some y) (hj : Nat.ble (j + m) n = true) (he : enc y' = (enc y).take j ++ cs' ++ (enc y).drop (j + cs'.length))
    (k : ∀ a w, Sim B E ((key, own v et n enc (xs.set i y')) :: H) a w → wl r P ops Q rest a w) :
    wl r P ops Q ({ dst := none, op := .store T x z, type := ty, pos := pos, after := af, guard := none } :: rest) a w :=
  op_skp (ι := Unit) (E' := fun _ => E) (H' := fun _ => (key, own v et n enc (xs.set i y')) :: H) h rfl (fun _ => nofun) (fun F Ds hs => by
    have hvx := hs.opd x
    have hvz := hs.opd z
    rw [hx] at hvx
    rw [hz] at hvz
    obtain ⟨b, l, c, hv, hu⟩ := hvx
    obtain ⟨us, hus, hau⟩ := hvz
    have h3 := hs.hp key
    rw [hk] at h3
    have hfoot : (lkH key H).foot b := by rw [hk]; subst hv; rfl
    have hj' : j + m ≤ n := by simpa using hj
    have hlu := hau.length
    obtain ⟨cur, hc, hl, hp⟩ := own_splice h3 hy hv hau (by omega) he (hs.hF key b hfoot)
    refine ⟨_, ?_, (), F, Ds, SimF.putNone (hs.row key _ _ hfoot (fun b' hb' => by rw [hk]; exact hb') hp)⟩
    have := run_storeVar_agg (P := P) (vs := us) ht (by omega) hc (o := i * n + j) (by omega) (h1.all hau)
    simp only [execOp, hu, hus, Instr.storeAt, Instr.sureAddr, Sem.run_bind, Sem.run_pure, Result.andThen_ok]
    rw [this]; rfl) (fun _ => k)
end
end AL
