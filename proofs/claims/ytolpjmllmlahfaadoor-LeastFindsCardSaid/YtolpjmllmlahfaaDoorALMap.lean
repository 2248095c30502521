/- The abstract logic, part 11: maps that an activation makes. Under no conditions: general lemmas. -/
import Derived.Test.YtolpjmllmlahfaaDoorALFun
import Derived.Maps.Keyed
import Derived.DeepKeys4
import Derived.RangeFuncRecord
set_option linter.unusedVariables false
set_option linter.unusedSectionVars false
namespace AL
open Go
attribute [local semireducible] any eqv agg tup fp ptr sl exi andp above emp cell own obj osl eptr clo pf

/-- A map as a list of pairs: where a key stands, what it has, the list behind a write. -/
def mfind {κ ν : Type} [DecidableEq κ] : List (κ × ν) → κ → Option (Nat × ν)
  | [], _ => none
  | (a, b) :: l, k => if a = k then some (0, b) else (mfind l k).map fun p => (p.1 + 1, p.2)
def mget {κ ν : Type} [DecidableEq κ] (l : List (κ × ν)) (k : κ) : Option ν := (mfind l k).map (·.2)
def mset {κ ν : Type} [DecidableEq κ] : List (κ × ν) → κ → ν → List (κ × ν)
  | [], k, v => [(k, v)]
  | (k', v') :: l, k, v => if k' = k then (k, v) :: l else (k', v') :: mset l k v
section
variable {κ ν : Type} [DecidableEq κ]
theorem mget_nil (k : κ) : mget ([] : List (κ × ν)) k = none := rfl
theorem mget_cons (a : κ) (b : ν) (l : List (κ × ν)) (k : κ) : mget ((a, b) :: l) k = if a = k then some b else mget l k := by
  unfold mget
  simp only [mfind]
  split
  · rfl
  · cases mfind l k <;> rfl
theorem mget_mset (l : List (κ × ν)) (k k' : κ) (v : ν) : mget (mset l k v) k' = if k = k' then some v else mget l k' := by
  induction l with
  | nil => simp [mset, mget_cons, mget_nil]
  | cons x l ih =>
    obtain ⟨a, b⟩ := x
    by_cases h : a = k
    · subst h
      simp only [mset, if_true, mget_cons]
      split <;> rfl
    · simp only [mset, if_neg h, mget_cons, ih]
      by_cases h2 : a = k'
      · subst h2; simp [Ne.symm h]
      · simp [h2]
theorem mset_len (l : List (κ × ν)) (k : κ) (v : ν) : (mset l k v).length = if (mget l k).isSome then l.length else l.length + 1 := by
  induction l with
  | nil => simp [mset, mget_nil]
  | cons x l ih =>
    obtain ⟨a, b⟩ := x
    simp only [mset, mget_cons]
    split
    · simp
    · simp only [List.length_cons, ih]; split <;> rfl
theorem mset_none {l : List (κ × ν)} {k : κ} (h : mfind l k = none) (v : ν) : mset l k v = l ++ [(k, v)] := by
  induction l with
  | nil => rfl
  | cons x l ih =>
    obtain ⟨a, b⟩ := x
    simp only [mfind] at h
    split at h
    · cases h
    · next hne =>
      simp only [mset, if_neg hne, List.cons_append]
      rw [ih (by cases hm : mfind l k <;> simp_all)]
theorem mset_some {l : List (κ × ν)} {k : κ} {i : Nat} {u : ν} (h : mfind l k = some (i, u)) (v : ν) : i < l.length ∧ l[i]? = some (k, u) ∧ mset l k v = l.set i (k, v) := by
  induction l generalizing i with
  | nil => simp [mfind] at h
  | cons x l ih =>
    obtain ⟨a, b⟩ := x
    simp only [mfind] at h
    split at h
    · next he => subst he; simp at h; obtain ⟨rfl, rfl⟩ := h; simp [mset]
    · next hne =>
      cases hm : mfind l k with
      | none => simp [hm] at h
      | some p =>
        obtain ⟨j, u'⟩ := p
        simp [hm] at h
        obtain ⟨rfl, rfl⟩ := h
        obtain ⟨h1, h2, h3⟩ := ih hm
        refine ⟨by simp; omega, by simpa using h2, ?_⟩
        simp only [mset, if_neg hne, h3, List.set_cons_succ]
theorem mfind_at {l : List (κ × ν)} (hnd : (l.map (·.1)).Nodup) {i : Nat} {k : κ} {u : ν} (h : l[i]? = some (k, u)) : mfind l k = some (i, u) := by
  induction l generalizing i with
  | nil => simp at h
  | cons x l ih =>
    obtain ⟨a, b⟩ := x
    simp only [List.map_cons, List.nodup_cons] at hnd
    cases i with
    | zero => simp at h; simp [mfind, h.1, h.2]
    | succ i =>
      have h' : l[i]? = some (k, u) := by simpa using h
      have hne : a ≠ k := fun e => by
        subst e
        exact hnd.1 (List.mem_map.2 ⟨(a, u), List.mem_of_getElem? h', rfl⟩)
      simp [mfind, hne, ih hnd.2 h']
theorem mfind_mem {l : List (κ × ν)} {k : κ} (h : mfind l k = none) : ∀ x ∈ l, x.1 ≠ k := by
  induction l with
  | nil => simp
  | cons x l ih =>
    obtain ⟨a, b⟩ := x
    simp only [mfind] at h
    split at h
    · cases h
    · next hne =>
      intro y hy
      rcases List.mem_cons.1 hy with rfl | hy
      · exact hne
      · exact ih (by cases hm : mfind l k <;> simp_all) y hy
theorem mset_keys {l : List (κ × ν)} (hnd : (l.map (·.1)).Nodup) (k : κ) (v : ν) : ((mset l k v).map (·.1)).Nodup := by
  cases h : mfind l k with
  | none =>
    rw [mset_none h, List.map_append, List.nodup_append]
    refine ⟨hnd, by simp, fun a ha b hb => ?_⟩
    obtain ⟨x, hx, rfl⟩ := List.mem_map.1 ha
    simp at hb; subst hb
    exact mfind_mem h x hx
  | some p =>
    obtain ⟨i, u⟩ := p
    obtain ⟨h1, h2, h3⟩ := mset_some h v
    have : (l.set i (k, v)).map (·.1) = l.map (·.1) := by
      rw [List.map_set]
      apply List.ext_getElem?
      intro t
      by_cases e : i = t
      · subst e; rw [List.getElem?_set_self (by simpa using h1), List.getElem?_map, h2]; rfl
      · rw [List.getElem?_set_ne e]
    rw [h3, this]; exact hnd
end

/-- What a map's type owes: how keys are spelled, and that keys are told apart. -/
structure MapT {κ : Type} (P : Program) (T K V : Nat) (kE : κ → Value) (dom : κ → Prop) : Prop where
  und : P.underlying T = some (.map K V)
  kd : Go.Maps.Keyed P K
  dk : ∀ k, dom k → ∃ l, keyOf P K (kE k) = some l
  inj : ∀ k k', dom k → dom k' → kE k = kE k' → k = k'

/-- A map of the activation's own. -/
def mp {κ ν : Type} (r : Nat) (kE : κ → Value) (dom : κ → Prop) (vE : ν → AV) (l : List (κ × ν)) : HA :=
  ⟨fun x => x = r, fun w F => ∃ (es : Array MapEntry) (clock : Nat), w.heap[r]? = some (.map es clock) ∧ es.toList.map (·.key) = l.map (fun x => kE x.1) ∧ All2 w F (l.map fun (x : κ × ν) => vE x.2) (es.toList.map (fun (e : MapEntry) => e.val)) ∧ (l.map (·.1)).Nodup ∧ (∀ x ∈ l, dom x.1),
   fun hF hw h => by
    obtain ⟨es, c, h1, h2, h3, h4⟩ := h
    exact ⟨es, c, (hw r (.inr rfl)).trans h1, h2, All2.st hF (fun b hb => hw b (.inl hb)) h3, h4⟩⟩
def mpv (_k r : Nat) : AV := ⟨fun _ _ v => v = .map (some r), fun _ _ h => h⟩
instance (k r : Nat) : One (mpv k r) := ⟨fun h => by cases h; rfl⟩

section
variable {P : Program} {r : Option Nat} {ops : Array Oper} {Q : Exit → Act → World → Prop} {rest : List Oper} {B : Base} {E : Env} {H : Hp} {a : Act} {w : World}
variable {d ty : Nat} {pos : String} {af : Array Edge} {κ ν : Type} [DecidableEq κ]

theorem o_mkm {T key : Nat} {dom : κ → Prop} {kE : κ → Value} {vE : ν → AV} (h : Sim B E H a w)
    (k : ∀ b a w, Sim B ((d, mpv key b) :: E) ((key, mp b kE dom vE []) :: H) a w → wl r P ops Q rest a w) (hn : Nat.blt d B.nt = true := by rfl) :
    wl r P ops Q ({ dst := some d, op := .makeMap T none, type := ty, pos := pos, after := af, guard := none } :: rest) a w :=
  op_gen (E' := fun b => (d, mpv key b) :: E) (H' := fun b => (key, mp b kE dom vE []) :: H) h rfl (fun _ => nofun) (fun F Ds hs => by
    refine ⟨.map (some w.heap.size), w.alloc (.map #[] 0), ?_, w.heap.size, F, Ds,
      (hs.alloc key (mp w.heap.size kE dom vE []) (.map #[] 0) (fun b hb => hb) ⟨#[], 0, heap_new _ _, rfl, trivial, by simp, by simp⟩).put (by simpa using hn) rfl⟩
    simp [execOp, Instr.makeMap]) (fun b => k b)

/-- What finding a key comes to. -/
theorem run_find_mp {T K V : Nat} {kE : κ → Value} {dom : κ → Prop} (hT : MapT P T K V kE dom) {l : List (κ × ν)} {es : List MapEntry} (hkeys : es.map (·.key) = l.map (fun x => kE x.1)) (hnd : (l.map (·.1)).Nodup) (hd : ∀ x ∈ l, dom x.1) (q : κ) (hq : dom q) (w : World) :
    (mfind l q = none ∧ (Instr.findKey K (kE q) es).run P w = .ok none w) ∨ ∃ i u e, mfind l q = some (i, u) ∧ es[i]? = some e ∧ e.key = kE q ∧ (Instr.findKey K (kE q) es).run P w = .ok (some (i, e.val)) w := by
  obtain ⟨lq, hlq⟩ := hT.dk q hq
  have hall : ∀ e ∈ es, ∃ (i : Nat) (x : κ × ν), es[i]? = some e ∧ l[i]? = some x ∧ e.key = kE x.1 := fun e he => by
    obtain ⟨i, hi⟩ := List.getElem?_of_mem he
    have h1 : (es.map (·.key))[i]? = some e.key := by simp [hi]
    rw [hkeys, List.getElem?_map] at h1
    cases hx : l[i]? with
    | none => simp [hx] at h1
    | some x => rw [hx] at h1; exact ⟨i, x, hi, hx, by simpa using h1.symm⟩
  rcases hT.kd.find w hlq es (fun e he => by
    obtain ⟨i, x, _, hx, hk⟩ := hall e he
    obtain ⟨lx, hlx⟩ := hT.dk x.1 (hd x (List.mem_of_getElem? hx))
    exact ⟨lx, by rw [hk]; exact hlx⟩) with ⟨h1, h2⟩ | ⟨j, e, h1, h2, h3⟩
  · refine .inl ⟨?_, h1⟩
    cases hm : mfind l q with
    | none => rfl
    | some p =>
      obtain ⟨i, u⟩ := p
      obtain ⟨g1, g2, _⟩ := mset_some hm u
      have g3 : (l.map fun x => kE x.1)[i]? = some (kE q) := by simp [g2]
      rw [← hkeys, List.getElem?_map] at g3
      cases he : es[i]? with
      | none => simp [he] at g3
      | some e =>
        rw [he] at g3
        exact absurd (by simpa using g3) (h2 e (List.mem_of_getElem? he))
  · have h4 : (es.map (·.key))[j]? = some e.key := by simp [h2]
    rw [hkeys, List.getElem?_map] at h4
    cases hx : l[j]? with
    | none => simp [hx] at h4
    | some x =>
      obtain ⟨k', u⟩ := x
      rw [hx] at h4
      have h5 : kE k' = kE q := by simpa [h3] using h4
      have h6 := hT.inj k' q (hd (k', u) (List.mem_of_getElem? hx)) hq h5
      subst h6
      exact .inr ⟨j, u, e, mfind_at hnd hx, h2, h3, h1⟩

theorem o_lookup {T K V b key : Nat} {kE : κ → Value} {dom : κ → Prop} {vE : ν → AV} {l : List (κ × ν)} {x y : Operand} {z : ν} {q : κ} (h : Sim B E H a w) (hx : lkO x E = mpv key b) (hk : lkH key H = mp b kE dom vE l) (hy : ∀ {w F v}, (lkO y E).p w F v → v = kE q) (hT : MapT P T K V kE dom)
    (hq : dom q) (hz : ∀ w F, ∃ v, (zeroValue V).run P w = .ok v w ∧ (vE z).p w F v)
    (k : ∀ a w, Sim B ((d, vE ((mget l q).getD z)) :: E) H a w → wl r P ops Q rest a w) (hn : Nat.blt d B.nt = true := by rfl) :
    wl r P ops Q ({ dst := some d, op := .lookup T x y false, type := ty, pos := pos, after := af, guard := none } :: rest) a w :=
  op_val h rfl rfl hn (fun _ => nofun) (fun F Ds hs => by
    have h1 := hs.opd x
    rw [hx] at h1
    have h1 : a.eval x = .map (some b) := h1
    have h2 := hy (hs.opd y)
    have h3 := hs.hp key
    rw [hk] at h3
    obtain ⟨es, c, hc, hkeys, hvals, hnd, hd⟩ := h3
    obtain ⟨lq, hlq⟩ := hT.dk q hq
    have hgo : (getObj b).run P w = .ok (.map es c) w := by simp [getObj, Sem.run, hc]
    rcases run_find_mp hT hkeys hnd hd q hq w with ⟨g1, g2⟩ | ⟨i, u, e, g1, g2, g3, g4⟩
    · obtain ⟨zv, hz1, hz2⟩ := hz w F
      have hm : mget l q = none := by simp [mget, g1]
      refine ⟨zv, ?_, by rw [hm]; exact hz2⟩
      simp only [execOp, h1, h2, Instr.lookup, Sem.run_bind, run_underlying hT.und, Result.andThen_ok, hgo, Sem.run_pure, hT.kd.check w _ hlq, g2, hz1]
      try simp [hz1]
    · have hm : mget l q = some u := by simp [mget, g1]
      obtain ⟨_, hl, _⟩ := mset_some g1 u
      obtain ⟨v, hv, hp⟩ := hvals.get (i := i) (φ := vE u) (by simp [hl])
      have : v = e.val := by rw [List.getElem?_map, g2] at hv; simpa using hv.symm
      subst this
      refine ⟨e.val, ?_, by rw [hm]; exact hp⟩
      simp only [execOp, h1, h2, Instr.lookup, Sem.run_bind, run_underlying hT.und, Result.andThen_ok, hgo, Sem.run_pure, hT.kd.check w _ hlq, g4]
      simp) k

theorem o_lookup2 {T K V b key : Nat} {kE : κ → Value} {dom : κ → Prop} {vE : ν → AV} {l : List (κ × ν)} {x y : Operand} {z : ν} {q : κ} (h : Sim B E H a w) (hx : lkO x E = mpv key b) (hk : lkH key H = mp b kE dom vE l) (hy : ∀ {w F v}, (lkO y E).p w F v → v = kE q) (hT : MapT P T K V kE dom)
    (hq : dom q) (hz : ∀ w F, ∃ v, (zeroValue V).run P w = .ok v w ∧ (vE z).p w F v)
    (k : ∀ a w, Sim B ((d, tup [vE ((mget l q).getD z), bl (mget l q).isSome]) :: E) H a w → wl r P ops Q rest a w) (hn : Nat.blt d B.nt = true := by rfl) :
    wl r P ops Q ({ dst := some d, op := .lookup T x y true, type := ty, pos := pos, after := af, guard := none } :: rest) a w :=
  op_val h rfl rfl hn (fun _ => nofun) (fun F Ds hs => by
    have h1 := hs.opd x
    rw [hx] at h1
    have h1 : a.eval x = .map (some b) := h1
    have h2 := hy (hs.opd y)
    have h3 := hs.hp key
    rw [hk] at h3
    obtain ⟨es, c, hc, hkeys, hvals, hnd, hd⟩ := h3
    obtain ⟨lq, hlq⟩ := hT.dk q hq
    have hgo : (getObj b).run P w = .ok (.map es c) w := by simp [getObj, Sem.run, hc]
    rcases run_find_mp hT hkeys hnd hd q hq w with ⟨g1, g2⟩ | ⟨i, u, e, g1, g2, g3, g4⟩
    · obtain ⟨zv, hz1, hz2⟩ := hz w F
      have hm : mget l q = none := by simp [mget, g1]
      refine ⟨.tuple #[zv, .bool false], ?_, [zv, .bool false], rfl, by rw [hm]; exact ⟨hz2, rfl, trivial⟩⟩
      simp only [execOp, h1, h2, Instr.lookup, Sem.run_bind, run_underlying hT.und, Result.andThen_ok, hgo, Sem.run_pure, hT.kd.check w _ hlq, g2]
      simp [hz1]
    · have hm : mget l q = some u := by simp [mget, g1]
      obtain ⟨_, hl, _⟩ := mset_some g1 u
      obtain ⟨v, hv, hp⟩ := hvals.get (i := i) (φ := vE u) (by simp [hl])
      have : v = e.val := by rw [List.getElem?_map, g2] at hv; simpa using hv.symm
      subst this
      refine ⟨.tuple #[e.val, .bool true], ?_, [e.val, .bool true], rfl, by rw [hm]; exact ⟨hp, rfl, trivial⟩⟩
      simp only [execOp, h1, h2, Instr.lookup, Sem.run_bind, run_underlying hT.und, Result.andThen_ok, hgo, Sem.run_pure, hT.kd.check w _ hlq, g4]
      simp) k

theorem run_mapUpdate {T K V b : Nat} {kE : κ → Value} {dom : κ → Prop} {vE : ν → AV} {l : List (κ × ν)} (hT : MapT P T K V kE dom) {F : Fz} {es : Array MapEntry} {c : Nat} (hc : w.heap[b]? = some (.map es c)) (hkeys : es.toList.map (·.key) = l.map (fun x => kE x.1))
    (hvals : All2 w F (l.map fun x => vE x.2) (es.toList.map (·.val))) (hnd : (l.map (·.1)).Nodup) (hd : ∀ x ∈ l, dom x.1) {q : κ} (hq : dom q) {v : Value} {y : ν} (hv : (vE y).p w F v) (hFb : ¬ F b) :
    ∃ es' c', (Instr.mapUpdate T (.map (some b)) (kE q) v).run P w = .ok () (w.putObj b (.map es' c')) ∧ (mp b kE dom vE (mset l q y)).p (w.putObj b (.map es' c')) F := by
  obtain ⟨lq, hlq⟩ := hT.dk q hq
  have hgo : (getObj b).run P w = .ok (.map es c) w := by simp [getObj, Sem.run, hc]
  have hlt : b < w.heap.size := (Array.getElem?_eq_some_iff.1 hc).1
  have hset : ∀ o, (setObj b o).run P w = .ok () (w.putObj b o) := fun o => by simp [setObj, Sem.run, World.putObj, hc]
  have hst : ∀ o, ∀ b', F b' → (w.putObj b o).heap[b']? = w.heap[b']? := fun o b' hb' => World.putObj_heap_other (fun e => hFb (e ▸ hb'))
  have hdom : ∀ x ∈ mset l q y, dom x.1 := by
    cases hm : mfind l q with
    | none =>
      rw [mset_none hm]
      intro x hx
      rcases List.mem_append.1 hx with hx | hx
      · exact hd x hx
      · simp at hx; subst hx; exact hq
    | some p =>
      obtain ⟨i, u⟩ := p
      obtain ⟨h1, h2, h3⟩ := mset_some hm y
      rw [h3]
      intro x hx
      rcases List.mem_or_eq_of_mem_set hx with hx | hx
      · exact hd x hx
      · subst hx; exact hq
  rcases run_find_mp hT hkeys hnd hd q hq w with ⟨g1, g2⟩ | ⟨i, u, e, g1, g2, g3, g4⟩
  · refine ⟨es.push { key := kE q, val := v, born := c }, c + 1, ?_, _, _, World.putObj_heap_same hlt, ?_, ?_, mset_keys hnd q y, hdom⟩
    · simp only [Instr.mapUpdate, Sem.run_bind, run_underlying hT.und, Result.andThen_ok, hgo, hT.kd.check w _ hlq, g2, hset]
    · rw [mset_none g1]; simp [hkeys]
    · rw [mset_none g1]
      have := (hvals.st (fun _ h => h) (hst (.map (es.push { key := kE q, val := v, born := c }) (c + 1)))).append (cs' := [vE y]) (vs' := [v]) ⟨(vE y).st (fun _ h => h) (hst _) hv, trivial⟩
      simpa using this
  · obtain ⟨h1, h2, h3⟩ := mset_some g1 y
    have he : es[i]? = some e := by simpa using g2
    have hi : i < es.size := (Array.getElem?_eq_some_iff.1 he).1
    have hk : (Instr.keyThatStays (kE q) (kE q)).run P w = .ok (kE q) w := hT.kd.stays w hlq
    have hmod : (es.modify i fun e' => { e' with key := kE q, val := v }).toList = es.toList.set i { e with key := kE q, val := v } := by
      apply List.ext_getElem?
      intro t
      rw [Array.getElem?_toList, Array.getElem?_modify]
      by_cases e1 : i = t
      · subst e1
        rw [List.getElem?_set_self (by simpa using hi)]
        simp [he]
      · rw [List.getElem?_set_ne e1]; simp [e1]
    refine ⟨es.modify i fun e' => { e' with key := kE q, val := v }, c, ?_, _, _, World.putObj_heap_same hlt, ?_, ?_, mset_keys hnd q y, hdom⟩
    · simp only [Instr.mapUpdate, Sem.run_bind, run_underlying hT.und, Result.andThen_ok, hgo, hT.kd.check w _ hlq, g4, he, Option.map_some, Option.getD_some, g3, hk, hset]
    · rw [hmod, h3, List.map_set, List.map_set, hkeys]
    · rw [hmod, h3, List.map_set, List.map_set]
      exact (hvals.st (fun _ h => h) (hst _)).set i ((vE y).st (fun _ h => h) (hst _) hv)

theorem SimF.mapped {F : Fz} {Ds : List Nat} (hs : SimF B E H a w F Ds) {b key : Nat} {kE : κ → Value} {dom : κ → Prop} {vE : ν → AV} {l l' : List (κ × ν)} (hk : lkH key H = mp b kE dom vE l) {o : Obj} (hp : (mp b kE dom vE l').p (w.putObj b o) F) :
    SimF B E ((key, mp b kE dom vE l') :: H) a (w.putObj b o) F Ds :=
  hs.upd key _ (by simp) rfl rfl rfl (fun b' _ hnf => World.putObj_heap_other (fun e => hnf (by rw [hk]; exact e))) (fun b' hb' => ⟨.inl (by rw [hk]; exact hb'), by
    have := (hs.hN key b' (by rw [hk]; exact hb')).1
    simpa using this⟩) hp

theorem o_mapUpdate {T K V b key : Nat} {kE : κ → Value} {dom : κ → Prop} {vE : ν → AV} {l : List (κ × ν)} {x y z : Operand} {q : κ} {u : ν} (h : Sim B E H a w) (hx : lkO x E = mpv key b) (hk : lkH key H = mp b kE dom vE l) (hy : ∀ {w F v}, (lkO y E).p w F v → v = kE q) (hz : lkO z E = vE u) (hT : MapT P T K V kE dom)
    (hq : dom q) (k : ∀ a w, Sim B E ((key, mp b kE dom vE (mset l q u)) :: H) a w → wl r P ops Q rest a w) :
    wl r P ops Q ({ dst := none, op := .mapUpdate T x y z, type := ty, pos := pos, after := af, guard := none } :: rest) a w :=
  op_skp (ι := Unit) (E' := fun _ => E) (H' := fun _ => (key, mp b kE dom vE (mset l q u)) :: H) h rfl (fun _ => nofun) (fun F Ds hs => by
    have h1 := hs.opd x
    rw [hx] at h1
    have h1 : a.eval x = .map (some b) := h1
    have h2 := hy (hs.opd y)
    have hv := hs.opd z
    rw [hz] at hv
    have h3 := hs.hp key
    rw [hk] at h3
    obtain ⟨es, c, hc, hkeys, hvals, hnd, hd⟩ := h3
    obtain ⟨es', c', hrun, hp⟩ := run_mapUpdate hT hc hkeys hvals hnd hd hq hv (hs.hF key b (by rw [hk]; rfl))
    exact ⟨_, by simp only [execOp, h1, h2, Sem.run_bind, hrun]; rfl, (), F, Ds, hs.mapped hk hp⟩) (fun _ => k)
theorem o_insert {T K V b key : Nat} {kE : κ → Value} {dom : κ → Prop} {vE : ν → AV} {l : List (κ × ν)} {x y z : Operand} {q : κ} {u : ν} (h : Sim B E H a w) (hx : lkO x E = mpv key b) (hk : lkH key H = mp b kE dom vE l) (hy : ∀ {w F v}, (lkO y E).p w F v → v = kE q) (hz : lkO z E = vE u) (hT : MapT P T K V kE dom)
    (hq : dom q) (k : ∀ a w, Sim B E ((key, mp b kE dom vE (mset l q u)) :: H) a w → wl r P ops Q rest a w) :
    wl r P ops Q ({ dst := none, op := .insert T x y z, type := ty, pos := pos, after := af, guard := none } :: rest) a w :=
  op_skp (ι := Unit) (E' := fun _ => E) (H' := fun _ => (key, mp b kE dom vE (mset l q u)) :: H) h rfl (fun _ => nofun) (fun F Ds hs => by
    have h1 := hs.opd x
    rw [hx] at h1
    have h1 : a.eval x = .map (some b) := h1
    have h2 := hy (hs.opd y)
    have hv := hs.opd z
    rw [hz] at hv
    have h3 := hs.hp key
    rw [hk] at h3
    obtain ⟨es, c, hc, hkeys, hvals, hnd, hd⟩ := h3
    obtain ⟨es', c', hrun, hp⟩ := run_mapUpdate hT hc hkeys hvals hnd hd hq hv (hs.hF key b (by rw [hk]; rfl))
    exact ⟨_, by simp only [execOp, h1, h2, Sem.run_bind, hrun]; rfl, (), F, Ds, hs.mapped hk hp⟩) (fun _ => k)

theorem o_lenM {T K V b key : Nat} {kE : κ → Value} {dom : κ → Prop} {vE : ν → AV} {l : List (κ × ν)} {x : Operand} (h : Sim B E H a w) (hx : lkO x E = mpv key b) (hk : lkH key H = mp b kE dom vE l) (hT : MapT P T K V kE dom)
    (k : ∀ a w, Sim B ((d, int (l.length : Int)) :: E) H a w → wl r P ops Q rest a w) (hn : Nat.blt d B.nt = true := by rfl) :
    wl r P ops Q ({ dst := some d, op := .call { callee := .builtin .len, args := #[x], argTypes := #[T] }, type := ty, pos := pos, after := af, guard := none } :: rest) a w :=
  op_val h rfl rfl hn (fun _ => nofun) (fun F Ds hs => by
    have h1 := hs.opd x
    rw [hx] at h1
    have h1 : a.eval x = .map (some b) := h1
    have h3 := hs.hp key
    rw [hk] at h3
    obtain ⟨es, c, hc, hkeys, _⟩ := h3
    have hl : es.size = l.length := by simpa using congrArg List.length hkeys
    have hgo : (getObj b).run P w = .ok (.map es c) w := by simp [getObj, Sem.run, hc]
    exact ⟨.int .i64 l.length, by simp [execOp, resolve, h1, invoke, builtin, Builtin.len_, run_underlying hT.und, goInt, hgo, hl], rfl⟩) k
end

theorem zeroV_of {P : Program} {V : Nat} {v : Value} (h : (P.info? V).map (fun i => i.zero) = some (some v)) (φ : AV) (hφ : ∀ w F, φ.p w F v) : ∀ w F, ∃ u, (zeroValue V).run P w = .ok u w ∧ φ.p w F u := fun w F => by
  cases hi : P.info? V with
  | none => simp [hi] at h
  | some i =>
    rw [hi] at h
    have h : i.zero = some v := by simpa using h
    exact ⟨v, by simp [zeroValue, typeInfo, program, hi, Sem.run, h], hφ w F⟩

/-- Maps by strings. -/
theorem mapT_str {P : Program} {T K V : Nat} (hT : P.underlying T = some (.map K V)) (hK : P.underlying K = some .string) : MapT P T K V (fun s : ByteArray => Value.string s) (fun s => s.size ≤ maxL) where
  und := hT
  kd := Go.Maps.string_keyed hK
  dk := fun k hk => ⟨.string k.data.toList, by
    have : k.size ≤ maxLen := by unfold maxLen; unfold maxL at hk; omega
    simp [keyOf, hK, mapKey, this]⟩
  inj := fun k k' _ _ h => by cases h; rfl
attribute [irreducible] mp mpv
end AL
