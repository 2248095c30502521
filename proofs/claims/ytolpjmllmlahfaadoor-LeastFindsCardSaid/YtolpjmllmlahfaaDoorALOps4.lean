/- The abstract logic, part 5: new variables and slices, appends, literals. Under no conditions: general lemmas. -/
import Derived.Test.YtolpjmllmlahfaaDoorALOps3
import Derived.Laws.OwnMore
import Derived.Laws.MakeOwn
namespace AL
open Go
attribute [local semireducible] any eqv agg tup fp ptr sl exi andp above emp cell own obj osl eptr

section
variable {P : Program} {r : Option Nat} {ops : Array Oper} {Q : Exit → Act → World → Prop} {rest : List Oper} {B : Base} {E : Env} {H : Hp} {a : Act} {w : World}
variable {d ty : Nat} {pos : String} {af : Array Edge}

/-- The zero value of a type: its cells. -/
structure ZeroIs (P : Program) (t : Nat) (cs : List Value) : Prop where
  z : ∃ v, (∀ w, (zeroValue t).run P w = .ok v w) ∧ v.cells = cs.toArray

theorem zeroIs_of {t : Nat} {cs : List Value} (h : (P.info? t).map (fun i => i.zero.map (fun v => v.cells)) = some (some cs.toArray)) : ZeroIs P t cs := by
  cases hi : P.info? t with
  | none => simp [hi] at h
  | some i =>
    cases hz : i.zero with
    | none => simp [hi, hz] at h
    | some v =>
      simp [hi, hz] at h
      exact ⟨v, fun w => by simp [zeroValue, typeInfo, program, hi, Sem.run, hz], h⟩

def Exact (cs : List AV) (vs : List Value) : Prop := ∀ w F, All2 w F cs vs

theorem o_alloc {t key : Nat} {zs : List Value} (h : Sim B E H a w) (hz : ZeroIs P t zs) {cs : List AV} (hc : Exact cs zs)
    (k : ∀ b a w, Sim B ((d, ptr key b 0) :: E) ((key, cell b cs) :: H) a w → wl r P ops Q rest a w) (hn : Nat.blt d B.nt = true := by rfl) :
    wl r P ops Q ({ dst := some d, op := .alloc t, type := ty, pos := pos, after := af, guard := none } :: rest) a w :=
  op_gen (E' := fun b => (d, ptr key b 0) :: E) (H' := fun b => (key, cell b cs) :: H) h rfl (fun _ => nofun) (fun F Ds hs => by
    obtain ⟨v, hv, hcs⟩ := hz.z
    refine ⟨.pointer (some ⟨w.heap.size, 0, none⟩), w.alloc (.cells zs.toArray t (0, 0)), ?_, w.heap.size, F, Ds,
      (hs.alloc key (cell w.heap.size cs) (.cells zs.toArray t (0, 0)) (fun b hb => hb) ⟨zs, t, heap_new _ _, hc _ _⟩).put (by simpa using hn) rfl⟩
    simp only [execOp, Instr.alloc, Sem.run_bind, hv, Result.andThen_ok, newVar, newRow, hcs]
    simp) (fun b => k b)

/-- A nil slice is an empty own slice. -/
theorem Sim.newNil {α : Type} (h : Sim B E H a w) (key e n : Nat) (enc : α → List AV) : Sim B E ((key, own (.slice none 0 0) e n enc []) :: H) a w := by
  obtain ⟨F, Ds, h⟩ := h
  exact ⟨F, Ds, h.upd key _ (Nat.le_refl _) rfl rfl rfl (fun _ _ _ => rfl) (fun b hb => hb.elim) ⟨Nat.zero_le _, [], ⟨by simp, .inl ⟨rfl, rfl⟩⟩, Els.nil _ _ _ _⟩⟩

/-- An own slice no more written: frozen. -/
theorem SimF.freeze {F : Fz} {Ds : List Nat} (h : SimF B E H a w F Ds) (key : Nat) :
    SimF B E ((key, emp) :: H) a w (fun b => F b ∨ (lkH key H).foot b) Ds :=
  have h0 := h.upd key emp (Nat.le_refl _) rfl rfl rfl (fun _ _ _ => rfl) (fun b hb => hb.elim) trivial
  { h0 with
    env := fun t => (lk t E).st (fun _ hb => .inl hb) (fun _ _ => rfl) (h.env t)
    hp := fun j => (lkH j _).st (fun _ hb => .inl hb) (fun _ _ => rfl) (h0.hp j)
    hF := fun j b hj hFb => by
      rcases hFb with hFb | hFb
      · exact h0.hF j b hj hFb
      · by_cases e : key = j
        · subst e; rw [lkH_same] at hj; exact hj
        · rw [lkH_other _ _ e] at hj; exact h.hd j key b (Ne.symm e) hj hFb
    Fb := fun b hb => by
      rcases hb with hb | hb
      · exact h.Fb b hb
      · exact ⟨(h.hN key b hb).1, .inr (h.hN key b hb).2⟩
    F0 := fun b hb => .inl (h.F0 b hb)
    dD := fun D hD => by
      obtain ⟨h1, h2, h3, h4⟩ := h0.dD D hD
      exact ⟨h1, fun hF => hF.elim h2 ((h.dD D hD).2.2.2 key), h3, h4⟩ }

theorem own_sl {α : Type} {v : Value} {et n : Nat} {enc : α → List AV} {xs : List α} {F : Fz} (h : (own v et n enc xs).p w F) : (sl n enc xs).p w (fun b => F b ∨ ownB v b) v := by
  obtain ⟨hm, vs, h, he⟩ := h
  rcases h.2 with ⟨hv, hx⟩ | ⟨b, cap, cur, hv, h0, hc, hcap, hmx, hsz, htake⟩
  · exact ⟨none, 0, by simp [hv, hx], by omega, hm, fun hne => absurd (List.eq_nil_of_length_eq_zero hx) hne⟩
  · refine ⟨some ⟨b, 0, none⟩, cap, hv, hcap, hm, fun _ => ⟨b, 0, vs, rfl, .inr (by subst hv; rfl), ⟨cur, et, (0, 0), hc, fun j u hj => ?_⟩, he.st (fun _ h => .inl h) (fun _ _ => rfl)⟩⟩
    rw [← htake, List.getElem?_take] at hj
    split at hj
    · simpa using hj
    · simp at hj

theorem Sim.freeze {α : Type} {v : Value} {et n : Nat} {enc : α → List AV} {xs : List α} (h : Sim B E H a w) (key t : Nat) (hk : lkH key H = own v et n enc xs) (ht : lk t E = osl key v) :
    Sim B ((t, sl n enc xs) :: E) ((key, emp) :: H) a w := by
  obtain ⟨F, Ds, h⟩ := h
  refine ⟨_, Ds, { h.freeze key with env := fun s => ?_ }⟩
  by_cases e : t = s
  · subst e
    rw [lk_same]
    have h1 := h.env t
    rw [ht] at h1
    have h1 : a.tmps.getD t undef = v := h1
    rw [h1]
    have h2 := h.hp key
    rw [hk] at h2 ⊢
    exact own_sl h2
  · rw [lk_other _ _ e]; exact (h.freeze key).env s

theorem Sim.freezeC {α : Type} {v : Value} {et n kc b o : Nat} {cs : List AV} {enc : α → List AV} {xs : List α} (h : Sim B E H a w) (key : Nat) (hk : lkH key H = own v et n enc xs) (hc : lkH kc H = cell b cs) (hne : kc ≠ key)
    (ho : cs[o]? = some (osl key v)) : Sim B E ((kc, cell b (cs.set o (sl n enc xs))) :: (key, emp) :: H) a w := by
  obtain ⟨F, Ds, h⟩ := h
  have h0 := h.freeze key
  have hl : lkH kc ((key, emp) :: H) = cell b cs := by rw [lkH_other _ _ (Ne.symm hne)]; exact hc
  refine ⟨_, Ds, h0.upd kc _ (Nat.le_refl _) rfl rfl rfl (fun _ _ _ => rfl) (fun x hx => ⟨.inl (by rw [hl]; exact hx), ?_⟩) ?_⟩
  · exact (h0.hN kc x (by rw [hl]; exact hx)).1
  · have h1 := h0.hp kc
    rw [hl] at h1
    obtain ⟨vs, ty, hcell, ha⟩ := h1
    obtain ⟨u, hu, hp⟩ := ha.get ho
    have hp : u = v := hp
    subst hp
    refine ⟨vs, ty, hcell, ?_⟩
    have h2 := h.hp key
    rw [hk] at h2
    have h3 := ha.set o (own_sl h2 |> fun z => by rw [hk]; exact z)
    have e : vs.set o u = vs := by
      apply List.ext_getElem?
      intro t
      by_cases ht : o = t
      · subst ht
        rw [List.getElem?_set_self (List.getElem?_eq_some_iff.1 hu).1]; exact hu.symm
      · rw [List.getElem?_set_ne ht]
    rwa [e] at h3

/-! ### make -/
structure MakeT (P : Program) (T e n by_ : Nat) (z : List Value) : Prop where
  und : P.underlying T = some (.slice e)
  info : ∃ i, P.info? e = some i ∧ i.size = n ∧ i.bytes = by_ ∧ ∃ v, i.zero = some v ∧ v.cells = z.toArray ∧ v.cells.size = n
  pos : 0 < n
def makeB (P : Program) (T e n by_ : Nat) (z : List Value) : Bool :=
  (match P.underlying T with | some (.slice e') => Nat.beq e' e | _ => false) && Nat.blt 0 n && Nat.beq z.length n &&
  (match P.info? e with | some i => Nat.beq i.size n && Nat.beq i.bytes by_ | none => false)
theorem makeT_of {T e n by_ : Nat} {z : List Value} (h : makeB P T e n by_ z = true) (hz : (P.info? e).map (fun i => i.zero.map (fun v => v.cells)) = some (some z.toArray)) : MakeT P T e n by_ z := by
  simp only [makeB, Bool.and_eq_true] at h
  obtain ⟨⟨⟨h1, h2⟩, h3⟩, h4⟩ := h
  refine ⟨?_, ?_, by simpa using h2⟩
  · cases hu : P.underlying T with
    | none => simp [hu] at h1
    | some D =>
      rw [hu] at h1
      cases D <;> simp at h1
      simp [h1]
  · cases hi : P.info? e with
    | none => simp [hi] at h4
    | some i =>
      rw [hi] at h4 hz
      cases hv : i.zero with
      | none => simp [hv] at hz
      | some v =>
        simp [hv] at hz
        simp at h4
        exact ⟨i, rfl, h4.1, h4.2, v, hv, hz, by rw [hz]; simpa using h3⟩

theorem madeCells_flat {z : Array Value} {n m : Nat} (hz : z.size = n) (hn : 0 < n) : (madeCells z (m * n)).toList = (List.replicate m z.toList).flatten := by
  apply List.ext_getElem?
  intro t
  by_cases ht : t < m * n
  · have h1 : t / n < m := (Nat.div_lt_iff_lt_mul hn).2 ht
    have h2 : t % n < n := Nat.mod_lt _ hn
    have e : (List.replicate m z.toList).flatten[t]? = z[t % n]? := by
      induction m generalizing t with
      | zero => simp at h1
      | succ m ih =>
        rw [List.replicate_succ, List.flatten_cons]
        by_cases hlt : t < n
        · rw [List.getElem?_append_left (by simpa [hz] using hlt), Nat.mod_eq_of_lt hlt]; simp
        · rw [List.getElem?_append_right (by simp [hz]; omega)]
          have e1 : t - z.toList.length = t - n := by simp [hz]
          have hge : n ≤ t := by omega
          have e2 : (t - n) % n = t % n := by
            conv => rhs; rw [← Nat.sub_add_cancel hge]
            rw [Nat.add_mod_right]
          have e3 : (t - n) / n < m := by
            have : t / n = (t - n) / n + 1 := by
              conv => lhs; rw [← Nat.sub_add_cancel hge]
              rw [Nat.add_div_right _ hn]
            omega
          rw [e1, ih (t - n) (by have := (Nat.div_lt_iff_lt_mul hn).1 e3; exact this) e3 (by rw [e2]; exact h2), e2]
    rw [e]
    simp [madeCells, ht, hz, h2]
  · rw [List.getElem?_eq_none (by simp [size_madeCells]; omega), List.getElem?_eq_none (by simp [hz]; omega)]

theorem Els.replicate {α : Type} {F : Fz} {enc : α → List AV} {y : α} {z : List Value} (hy : Exact (enc y) z) (m : Nat) : Els w F z.length enc (List.replicate m y) (List.replicate m z).flatten := by
  induction m with
  | zero => exact ⟨by simp, fun i x hi => by simp at hi⟩
  | succ m ih =>
    rw [List.replicate_succ', List.replicate_succ', List.flatten_append]
    exact ih.append (by simpa using Els.one (hy w F))

theorem ownsRow_lt {e n k : Nat} {v : Value} {vs : List Value} (h : w.ownsRow 0 e n v k vs) {b : Nat} (hb : ownB v b) : b < w.heap.size := by
  rcases h.2 with ⟨hv, _⟩ | ⟨g, cap, cur, hv, _, hg, _⟩
  · subst hv; exact hb.elim
  · subst hv
    have hb : b = g := hb
    subst hb
    exact (Array.getElem?_eq_some_iff.1 hg).1

theorem SimF.grown {F : Fz} {Ds : List Nat} (h : SimF B E H a w F Ds) (key : Nat) (x : HA) {w' : World} {row : Option Nat} (hg : w.grownBy w' row) (hrow : ∀ b, row = some b → (lkH key H).foot b)
    (hf : ∀ b, x.foot b → ((lkH key H).foot b ∨ w.heap.size ≤ b) ∧ b < w'.heap.size) (hx : x.p w' F) : SimF B E ((key, x) :: H) a w' F Ds :=
  h.upd key x hg.size hg.os hg.tape hg.output (fun b hb hnf => hg.block b hb (fun e => hnf (hrow b e.symm))) hf hx

theorem SimF.grownStay {F : Fz} {Ds : List Nat} (h : SimF B E H a w F Ds) {key : Nat} {w' : World} {row : Option Nat} (hg : w.grownBy w' row) (hrow : ∀ b, row = some b → (lkH key H).foot b) : ∀ b, F b → w'.heap[b]? = w.heap[b]? :=
  fun b hb => hg.block b (h.Fb b hb).1 (fun e => h.hF key b (hrow b e.symm) hb)

theorem o_make {α : Type} {T e n by_ key m : Nat} {z : List Value} {enc : α → List AV} {y : α} {l c : Operand} (h : Sim B E H a w) (hl : lkO l E = int (m : Int)) (hc : lkO c E = int (m : Int)) (hT : MakeT P T e n by_ z)
    (hy : Exact (enc y) z) (hb : m * by_ ≤ maxL) (hm : m ≤ maxL)
    (k : ∀ v a w, Sim B ((d, osl key v) :: E) ((key, own v e n enc (List.replicate m y)) :: H) a w → wl r P ops Q rest a w) (hn : Nat.blt d B.nt = true := by rfl) :
    wl r P ops Q ({ dst := some d, op := .makeSlice T l c, type := ty, pos := pos, after := af, guard := none } :: rest) a w :=
  op_gen (E' := fun v => (d, osl key v) :: E) (H' := fun v => (key, own v e n enc (List.replicate m y)) :: H) h rfl (fun _ => nofun) (fun F Ds hs => by
    have h1 := hs.opd l
    have h2 := hs.opd c
    rw [hl] at h1
    rw [hc] at h2
    have h1 : a.eval l = .int .i64 m := h1
    have h2 : a.eval c = .int .i64 m := h2
    obtain ⟨i, hi, hsz, hby, v, hv, hcells, hvs⟩ := hT.info
    have hzl : z.length = n := by rw [hcells] at hvs; simpa using hvs
    have hb' : i.bytes * m ≤ 281474976710656 := by rw [hby, Nat.mul_comm]; unfold maxL at hb; omega
    obtain ⟨w', hrun, hown, hg⟩ := run_make_full (P := P) w 0 T e i v n hT.und hi hv hsz .i64 .i64 m hb' (by unfold maxLen; unfold maxL at hm; omega) (Nat.zero_le _)
    refine ⟨_, w', by simp only [execOp, h1, h2, Sem.run_bind, hrun]; rfl, .slice (some ⟨w.heap.size, 0, none⟩) m m, F, Ds, (hs.grown key (own (.slice (some ⟨w.heap.size, 0, none⟩) m m) e n enc (List.replicate m y)) hg (fun b hb => by cases hb) (fun b hb => ⟨.inr ?_, ownsRow_lt hown hb⟩) ?_).put (by simpa using hn) rfl⟩
    · have hb : b = w.heap.size := hb
      omega
    · refine ⟨by simpa using hm, _, by simpa using hown, ?_⟩
      rw [madeCells_flat hvs hT.pos, hcells]
      simpa [hzl] using Els.replicate (w := w') (F := F) hy m) (fun v => k v)

/-! ### append -/
theorem growslice_ok {need old by_ : Nat} (h1 : old < need) (h : need * by_ ≤ 140737488355328) : Builtin.nextslicecap need old * by_ ≤ 281474976710656 := growslice_fits h1 h

theorem append_own {e n by_ T : Nat} {z : List Value} (hT : MakeT P T e n by_ z) {ty : Nat} {v : Value} {k : Nat} {xs : List Value} (hown : w.ownsRow 0 e n v k xs) {ad : Addr} {m c : Nat} {news : List Value} (hl : news.length = m * n)
    (hnews : ∀ (j : Nat) (u : Value), news[j]? = some u → w.cell? (ad.add j) = some u) (h1 : ∀ u ∈ news, u.oneCell' = true) (h63 : k + m ≤ maxL) (hby : (k + m) * by_ ≤ maxL) :
    ∃ v' w', (Builtin.append_ #[T, T] ty #[v, .slice (some ad) m c]).run P w = .ok v' w' ∧ w'.ownsRow 0 e n v' (k + m) (xs ++ news) ∧ w.grownBy w' v.ownBlock ∧ (∀ b, ownB v' b → ownB v b ∨ w.heap.size ≤ b) := by
  obtain ⟨i, hi, hsz, hb, zv, hz, hcells, hzs⟩ := hT.info
  have h63' : k + m ≤ maxLen := by unfold maxLen; unfold maxL at h63; omega
  have hby' : (k + m) * by_ ≤ 140737488355328 := by unfold maxL at hby; omega
  rcases hown.2 with ⟨hv, hk⟩ | ⟨g, cap, cur, hv, hg0, hg, hcap, hcm, hcs, htake⟩
  · have hown' : w.ownsRow w.heap.size e n v k xs := ⟨hown.1, .inl ⟨hv, hk⟩⟩
    obtain ⟨v', w', hr, ho, hgr, _⟩ := run_append_own (P := P) w w.heap.size T ty e i zv n by_ hT.und hi hz hsz hb hzs hT.pos v k xs hown' ad m c news hl hnews h1 h63' hby' (Nat.le_refl _)
    refine ⟨v', w', hr, ⟨ho.1, ?_⟩, hgr, fun b hbb => ?_⟩
    · rcases ho.2 with h | ⟨g, cap, cur, h1, _, h2⟩
      · exact .inl h
      · exact .inr ⟨g, cap, cur, h1, Nat.zero_le _, h2⟩
    · rcases ho.2 with ⟨h, _⟩ | ⟨g, cap, cur, h1, h2, _⟩
      · subst h; exact hbb.elim
      · subst h1; have : b = g := hbb
        omega
  · subst hv
    by_cases hroom : k + m ≤ cap
    · obtain ⟨w', hr, ho, hgr⟩ := run_append_fits (P := P) w 0 T ty e i n hT.und hi hsz g k cap xs hown ad m c news hl hnews h1 hroom
      exact ⟨_, w', hr, ho, hgr, fun b hb => .inl hb⟩
    · subst hsz
      subst hb
      have hlen : (xs ++ news).length = (k + m) * i.size := by rw [List.length_append, hown.1, hl, Nat.add_mul]
      have holds : ∀ (j : Nat) (u : Value), xs[j]? = some u → w.cell? ((⟨g, 0, none⟩ : Addr).add j) = some u := hown.cells (g := g) rfl
      have hr := run_append_grow (P := P) w T ty e i zv hT.und hi hz ⟨g, 0, none⟩ k cap xs hown.1 holds ad m c news hl hnews (by omega) (by unfold maxL at h63; omega) (growslice_fits (by omega) hby')
      have hge := grownCap_ge w (k + m) cap e
      have hcm' : grownCap w (k + m) cap e ≤ maxLen := grownCap_le_maxLen w (k + m) cap e h63'
      refine ⟨_, _, hr, ⟨hlen, .inr ⟨w.heap.size, _, _, rfl, Nat.zero_le _, heap_alloc_new w.drew _, hge, hcm', ?_, ?_⟩⟩, ⟨rfl, rfl, rfl, by simp, fun k hk _ => heap_alloc_old w.drew _ k hk⟩, fun b hb => ?_⟩
      · simp only [Array.size_append, List.size_toArray, size_zeroCells, hzs, hown.1, hl, ← Nat.add_mul]
        congr 1
        omega
      · simp only [Array.toList_append, List.append_assoc]
        rw [← List.append_assoc, ← hlen]
        exact List.take_left
      · have : b = w.heap.size := hb
        exact .inr (by omega)

theorem append_none {e n by_ T : Nat} {z : List Value} (hT : MakeT P T e n by_ z) {ty : Nat} {v : Value} {k : Nat} {xs : List Value} (hown : w.ownsRow 0 e n v k xs) (A : Option Addr) (c : Nat) :
    (Builtin.append_ #[T, T] ty #[v, .slice A 0 c]).run P w = .ok v w := by
  obtain ⟨i, hi, hsz, hb, zv, hz, hcells, hzs⟩ := hT.info
  have hle : ∃ B cap, v = .slice B k cap ∧ k ≤ cap := by
    rcases hown.2 with ⟨hv, hk⟩ | ⟨g, cap, cur, hv, hg0, hg, hcap, _⟩
    · exact ⟨none, 0, by simp [hv, hk], by omega⟩
    · exact ⟨_, cap, hv, hcap⟩
  obtain ⟨B, cap, rfl, hcap⟩ := hle
  cases A <;> cases B <;> simp [Builtin.append_, run_underlying hT.und, Go.sizeOf, typeInfo, program, Sem.run, hi, Builtin.lenOf, Builtin.firstCells, loadCells, loadCellsFrom, hcap, storeCells]

theorem o_append {α β : Type} {T e n by_ key : Nat} {z : List Value} {enc : α → List AV} {enc' : β → List AV} {xs zs : List α} {ys : List β} {v : Value} {s x : Operand} (h : Sim B E H a w) (hs : ∀ {w F u}, (lkO s E).p w F u → u = v)
    (hk : lkH key H = own v e n enc xs) (hx : lkO x E = sl n enc' ys) (hz : ys.map enc' = zs.map enc) (hT : MakeT P T e n by_ z) [h1 : ∀ y, OneAll (enc y)] (hm : xs.length + ys.length ≤ maxL) (hby : (xs.length + ys.length) * by_ ≤ maxL)
    (k : ∀ v a w, Sim B ((d, osl key v) :: E) ((key, own v e n enc (xs ++ zs)) :: H) a w → wl r P ops Q rest a w) (hn : Nat.blt d B.nt = true := by rfl) :
    wl r P ops Q ({ dst := some d, op := .call { callee := .builtin .append, args := #[s, x], argTypes := #[T, T] }, type := ty, pos := pos, after := af, guard := none } :: rest) a w :=
  op_gen (E' := fun v => (d, osl key v) :: E) (H' := fun v => (key, own v e n enc (xs ++ zs)) :: H) h rfl (fun _ => nofun) (fun F Ds hS => by
    have hv1 := hs (hS.opd s)
    have hv2 := hS.opd x
    rw [hx] at hv2
    have hl : ys.length = zs.length := by simpa using congrArg List.length hz
    obtain ⟨A, cap, hv2, hcap, _, hA⟩ := hv2
    have h3 := hS.hp key
    rw [hk] at h3
    obtain ⟨hmx, vs, hown, hels⟩ := h3
    by_cases hy : ys = []
    · subst hy
      have hzs : zs = [] := List.eq_nil_of_length_eq_zero (by simpa using hl.symm)
      subst hzs
      refine ⟨v, w, ?_, v, F, Ds, ?_⟩
      · have := append_none (P := P) (ty := ty) hT hown A cap
        simp only [execOp, resolve, Sem.run_bind, Sem.run_pure, Result.andThen_ok, invoke, builtin, List.map_toArray, List.map_cons, List.map_nil, hv1, hv2, List.length_nil, this]
      · have := (hS.upd key (own v e n enc xs) (Nat.le_refl _) rfl rfl rfl (fun _ _ _ => rfl) (fun b hb => ⟨.inl (by rw [hk]; exact hb), ownsRow_lt hown hb⟩) ⟨hmx, vs, hown, hels⟩).put (d := d) (φ := osl key v) (v := v) (by simpa using hn) rfl
        simpa using this
    · obtain ⟨b, off, us, rfl, hb, hr, hu⟩ := hA hy
      have hels' : ∀ {w' : World}, (∀ b, F b → w'.heap[b]? = w.heap[b]?) → Els w' F n enc zs us := fun {w'} hw => by
        refine ⟨by rw [hu.len, hl], fun i q hq => ?_⟩
        have hi : i < ys.length := by rw [hl]; exact (List.getElem?_eq_some_iff.1 hq).1
        have e1 : (ys.map enc')[i]? = some (enc' ys[i]) := by simp [hi]
        rw [hz] at e1
        rw [List.getElem?_map, hq] at e1
        simp at e1
        rw [e1]
        exact (hu.el i _ (by simp [hi])).st (fun _ h => h) hw
      have hone : ∀ u ∈ us, u.oneCell' = true := fun u hu' => by
        obtain ⟨t, ht⟩ := List.getElem?_of_mem hu'
        have hlu := hu.len
        have htl : t < us.length := (List.getElem?_eq_some_iff.1 ht).1
        have hn0 := hT.pos
        have hq : t / n < zs.length := by rw [Nat.div_lt_iff_lt_mul hn0, ← hl, ← hlu]; exact htl
        have he := (hels' (fun _ _ => rfl)).el (t / n) zs[t / n] (by simp [hq])
        refine (h1 _).all he u ?_
        refine List.mem_of_getElem? (i := t % n) ?_
        rw [List.getElem?_take, if_pos (Nat.mod_lt _ hn0), List.getElem?_drop, Nat.mul_comm, Nat.div_add_mod]
        exact ht
      obtain ⟨v', w', hrun, hown', hg, hfr⟩ := append_own (P := P) (ty := ty) (c := cap) hT hown (ad := ⟨b, off, none⟩) (m := ys.length) hu.len (fun j u hj => by rw [add_mk]; exact hr.cell hj) hone hm hby
      have hrow : ∀ b, v.ownBlock = some b → (lkH key H).foot b := fun b hb => by
        rw [hk]
        show ownB v b
        revert hb
        cases v <;> simp [Value.ownBlock]
        rename_i A' _ _
        cases A' <;> simp
        rintro rfl; rfl
      refine ⟨v', w', ?_, v', F, Ds, (hS.grown key (own v' e n enc (xs ++ zs)) hg hrow (fun b hb => ⟨?_, ownsRow_lt hown' hb⟩) ⟨by simp; omega, _, by simpa [hl] using hown', ?_⟩).put (by simpa using hn) rfl⟩
      · simp only [execOp, resolve, Sem.run_bind, Sem.run_pure, Result.andThen_ok, invoke, builtin, List.map_toArray, List.map_cons, List.map_nil, hv1, hv2, hrun]
      · rw [hk]; exact hfr b hb
      · exact (hels.st (fun _ h => h) (hS.grownStay hg hrow)).append (hels' (hS.grownStay hg hrow))) (fun v => k v)
end
end AL
