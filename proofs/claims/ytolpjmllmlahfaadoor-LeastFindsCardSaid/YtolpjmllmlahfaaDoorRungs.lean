/- The ladder of hollow states, by a queue: plain Lean. -/
import Derived.Test.YtolpjmllmlahfaaDoorPart
namespace Go.Proofs.YtolpjmllmlahfaaDoor
open AL ref01 ref03 ref04
namespace Rungs
/-- What the queue's walk holds: how many sets have no hollow next state yet, which have one, the hollow states. -/
structure LS where
  left : List Int
  dead : List (List Bool)
  out : List Int
def lowS (s : SSpec) (x : Nat) (a : Int) (k : Nat) (t : LS) : LS := if has (ix (ix s.states x).accept k) a && !ix (ix t.dead x) k then
    ⟨t.left.set x (ix t.left x - 1), t.dead.set x ((ix t.dead x).set k true), if ix t.left x - 1 = 0 then t.out ++ [(x : Int)] else t.out⟩ else t
def lowK (s : SSpec) (x : Nat) (a : Int) : Nat → LS → LS
  | 0, st => st
  | k + 1, st => lowS s x a k (lowK s x a k st)
def low (s : SSpec) (x : Nat) (a : Int) (st : LS) : LS := lowK s x a (ix s.states x).accept.length st
def preds1 (s : SSpec) (x y j : Nat) : List (Int × Int) := ((List.range j).filter fun a => decide (ix (ix s.states x).next a = (y : Int))).map fun (a : Nat) => ((x : Int), (a : Int))
def preds (s : SSpec) (k y : Nat) : List (Int × Int) := (List.range k).flatMap fun x => preds1 s x y (ix s.states x).next.length
def procs (s : SSpec) (ps : List (Int × Int)) (st : LS) : LS := ps.foldl (fun st p => low s p.1.toNat p.2 st) st
def init (s : SSpec) (k : Nat) : LS := ⟨(List.range s.states.length).map fun x => if x < k then ((ix s.states x).accept.length : Int) else 0, (List.range s.states.length).map fun x => if x < k then List.replicate (ix s.states x).accept.length false else [], ((List.range k).filter fun x => decide ((ix s.states x).accept.length = 0)).map fun (x : Nat) => (x : Int)⟩
def rq (s : SSpec) : Nat → LS
  | 0 => init s s.states.length
  | i + 1 => if i < (rq s i).out.length then procs s (preds s s.states.length (ix (rq s i).out i).toNat) (rq s i) else rq s i
def rungs (s : SSpec) : List Int := (rq s s.states.length).out

structure LInv (s : SSpec) (st : LS) : Prop where
  ll : st.left.length = s.states.length
  dl : st.dead.length = s.states.length
  dx : ∀ x, x < s.states.length → (ix st.dead x).length = (ix s.states x).accept.length
  cnt : ∀ x, x < s.states.length → ix st.left x = ((ix st.dead x).count false : Int)
  bd : ∀ y, y ∈ st.out → 0 ≤ y ∧ y < (s.states.length : Int)
  nd : st.out.Nodup
  mem : ∀ x, x < s.states.length → ((x : Int) ∈ st.out ↔ ix st.left x = 0)
  snd : ∀ x, x < s.states.length → ∀ i, i < (ix s.states x).accept.length → ix (ix st.dead x) i = true → ∃ a, a < (ix s.states x).next.length ∧ 0 ≤ ix (ix s.states x).next a ∧ has (ix (ix s.states x).accept i) (a : Int) = true ∧ Hol s (ix (ix s.states x).next a).toNat
def Le (st t : LS) : Prop := st.out <+: t.out ∧ ∀ x i, ix (ix st.dead x) i = true → ix (ix t.dead x) i = true
theorem Le.refl (st : LS) : Le st st := ⟨List.prefix_rfl, fun _ _ h => h⟩
theorem Le.trans {a b c : LS} (h : Le a b) (k : Le b c) : Le a c := ⟨h.1.trans k.1, fun x i g => k.2 x i (h.2 x i g)⟩
theorem count_set_false {l : List Bool} : ∀ {k : Nat}, k < l.length → ix l k = false → (l.set k true).count false + 1 = l.count false := by
  induction l with
  | nil => intro k hk; simp at hk
  | cons b l ih =>
    intro k hk h
    cases k with
    | zero =>
      have : b = false := h
      subst this
      simp
    | succ k =>
      have h1 := ih (k := k) (by simpa using hk) h
      rw [List.set_cons_succ, List.count_cons, List.count_cons]
      omega
theorem nodup_snoc {l : List Int} {x : Int} (h : l.Nodup) (hx : x ∉ l) : (l ++ [x]).Nodup := by
  rw [List.nodup_append]
  exact ⟨h, by simp, fun a ha b hb e => by
    have : b = x := by simpa using hb
    exact hx (by rw [← this, ← e]; exact ha)⟩
theorem LInv.hol {s : SSpec} {st : LS} (h : LInv s st) {x : Nat} (hx : x < s.states.length) (h0 : ix st.left x = 0) : Hol s x := by
  refine Hol_closed s x hx (fun i hi => ?_)
  have h1 := h.cnt x hx
  have h2 : (ix st.dead x).count false = 0 := by omega
  rw [List.count_eq_zero] at h2
  have h3 : ix (ix st.dead x) i = true := by
    have hl := h.dx x hx
    rw [ix_get (by omega)]
    cases hb : (ix st.dead x)[i]'(by omega) with
    | true => rfl
    | false => exact absurd (hb ▸ List.getElem_mem _) h2
  obtain ⟨a, h4, h5, h6, h7⟩ := h.snd x hx i hi h3
  exact ⟨a, h4, h5, h6, h7⟩
theorem mem_ix {l : List Int} {y : Int} (h : y ∈ l) : ∃ i, i < l.length ∧ ix l i = y := by
  obtain ⟨i, hi, e⟩ := List.mem_iff_getElem.1 h
  exact ⟨i, hi, by rw [ix_get hi]; exact e⟩
theorem ix_mem {l : List Int} {i : Nat} (h : i < l.length) : ix l i ∈ l := by rw [ix_get h]; exact List.getElem_mem h
theorem LInv.outHol {s : SSpec} {st : LS} (h : LInv s st) {y : Int} (hy : y ∈ st.out) : 0 ≤ y ∧ y < (s.states.length : Int) ∧ Hol s y.toNat := by
  have hb := h.bd y hy
  refine ⟨hb.1, hb.2, h.hol (by omega) ((h.mem _ (by omega)).1 ?_)⟩
  rw [Int.toNat_of_nonneg hb.1]; exact hy
theorem nodup_len : ∀ {l m : List Int}, l.Nodup → l ⊆ m → l.length ≤ m.length
  | [], m, _, _ => Nat.zero_le _
  | x :: l, m, h, hs => by
    obtain ⟨h1, h2⟩ := List.nodup_cons.1 h
    have hx : x ∈ m := hs (by simp)
    have := nodup_len (m := m.erase x) h2 (fun y hy => (List.mem_erase_of_ne (fun e => h1 (by rw [← e]; exact hy))).2 (hs (by simp [hy])))
    rw [List.length_erase_of_mem hx] at this
    have := List.length_pos_of_mem hx
    simp; omega
theorem LInv.len {s : SSpec} {st : LS} (h : LInv s st) : st.out.length ≤ s.states.length := by
  have h1 : st.out ⊆ (List.range s.states.length).map fun (x : Nat) => (x : Int) := fun y hy => by
    obtain ⟨h0, h1, _⟩ := h.outHol hy
    exact List.mem_map.2 ⟨y.toNat, List.mem_range.2 (by omega), by omega⟩
  have := nodup_len h.nd h1
  simpa using this
/-- One set looked at keeps what is known. -/
theorem lowS_inv {s : SSpec} {x : Nat} {a : Nat} (hx : x < s.states.length) (ha : a < (ix s.states x).next.length) (h0 : 0 ≤ ix (ix s.states x).next a) (hH : Hol s (ix (ix s.states x).next a).toNat) {t : LS} (h1 : LInv s t) {k : Nat} (hk : k < (ix s.states x).accept.length) :
    LInv s (lowS s x a k t) ∧ Le t (lowS s x a k t) ∧ (has (ix (ix s.states x).accept k) (a : Int) = true → ix (ix (lowS s x a k t).dead x) k = true) := by
  unfold lowS
  split
  · next hc =>
    simp only [Bool.and_eq_true, Bool.not_eq_true'] at hc
    obtain ⟨c1, c2⟩ := hc
    have hdl := h1.dx x hx
    have hcnt := count_set_false (l := ix t.dead x) (k := k) (by omega) c2
    have hcx := h1.cnt x hx
    have hdx : ∀ y, ix (t.dead.set x ((ix t.dead x).set k true)) y = if y = x then (ix t.dead x).set k true else ix t.dead y := fun y => ix_set (by rw [h1.dl]; exact hx) _ y
    have hlx : ∀ y, ix (t.left.set x (ix t.left x - 1)) y = if y = x then ix t.left x - 1 else ix t.left y := fun y => ix_set (by rw [h1.ll]; exact hx) _ y
    have hno : (x : Int) ∉ t.out := fun hm => by have := (h1.mem x hx).1 hm; omega
    have hmo : ∀ y : Int, y ∈ (if ix t.left x - 1 = 0 then t.out ++ [(x : Int)] else t.out) ↔ y ∈ t.out ∨ (ix t.left x - 1 = 0 ∧ y = (x : Int)) := fun y => by
      split
      · next he => simp [he]
      · next he => simp [he]
    have hdk : ∀ i, ix ((ix t.dead x).set k true) i = if i = k then true else ix (ix t.dead x) i := fun i => ix_set (by omega) _ i
    refine ⟨⟨by simp [h1.ll], by simp [h1.dl], fun y hy => ?_, fun y hy => ?_, fun y hy => ?_, ?_, fun y hy => ?_, fun y hy i hi hd => ?_⟩, ⟨?_, fun y i hd => ?_⟩, fun _ => ?_⟩
    · show (ix (t.dead.set x _) y).length = _
      rw [hdx]
      split
      · next e => subst e; simpa using hdl
      · exact h1.dx y hy
    · show ix (t.left.set x _) y = ((ix (t.dead.set x _) y).count false : Int)
      rw [hdx, hlx]
      split
      · next e => subst e; omega
      · exact h1.cnt y hy
    · rcases (hmo y).1 hy with h | ⟨_, rfl⟩
      · exact h1.bd y h
      · omega
    · show List.Nodup (if _ then _ else _)
      split
      · exact nodup_snoc h1.nd hno
      · exact h1.nd
    · show (y : Int) ∈ (if _ then _ else _) ↔ ix (t.left.set x _) y = 0
      rw [hmo, hlx]
      split
      · next e =>
        subst e
        constructor
        · rintro (h | h)
          · exact absurd h hno
          · exact h.1
        · exact fun h => .inr ⟨h, rfl⟩
      · next e =>
        rw [← h1.mem y hy]
        constructor
        · rintro (h | h)
          · exact h
          · exact absurd (by omega) e
        · exact .inl
    · change ix (ix (t.dead.set x _) y) i = true at hd
      rw [hdx] at hd
      split at hd
      · next e =>
        subst e
        rw [hdk] at hd
        split at hd
        · next e2 => subst e2; exact ⟨a, ha, h0, c1, hH⟩
        · exact h1.snd y hy i hi hd
      · exact h1.snd y hy i hi hd
    · show t.out <+: (if _ then _ else _)
      split
      · exact List.prefix_append _ _
      · exact List.prefix_rfl
    · show ix (ix (t.dead.set x _) y) i = true
      rw [hdx]
      split
      · next e =>
        subst e
        rw [hdk]
        split
        · rfl
        · exact hd
      · exact hd
    · show ix (ix (t.dead.set x _) x) k = true
      rw [hdx, if_pos rfl, hdk, if_pos rfl]
  · next hc =>
    refine ⟨h1, Le.refl _, fun h => ?_⟩
    rw [h] at hc
    simpa using hc
theorem lowK_inv {s : SSpec} {x : Nat} {a : Nat} (hx : x < s.states.length) (ha : a < (ix s.states x).next.length) (h0 : 0 ≤ ix (ix s.states x).next a) (hH : Hol s (ix (ix s.states x).next a).toNat) {st : LS} (h : LInv s st) :
    ∀ k, k ≤ (ix s.states x).accept.length → LInv s (lowK s x a k st) ∧ Le st (lowK s x a k st) ∧ ∀ i, i < k → has (ix (ix s.states x).accept i) (a : Int) = true → ix (ix (lowK s x a k st).dead x) i = true
  | 0, _ => ⟨h, Le.refl _, fun i hi => by omega⟩
  | k + 1, hk => by
    obtain ⟨h1, h2, h3⟩ := lowK_inv hx ha h0 hH h k (by omega)
    obtain ⟨g1, g2, g3⟩ := lowS_inv hx ha h0 hH h1 (k := k) (by omega)
    refine ⟨g1, h2.trans g2, fun i hi hh => ?_⟩
    by_cases e : i = k
    · subst e; exact g3 hh
    · exact g2.2 x i (h3 i (by omega) hh)
/-- A pair that may be handed on. -/
def okP (s : SSpec) (p : Int × Int) : Prop := ∃ (x a : Nat), p = ((x : Int), (a : Int)) ∧ x < s.states.length ∧ a < (ix s.states x).next.length ∧ 0 ≤ ix (ix s.states x).next a ∧ Hol s (ix (ix s.states x).next a).toNat
/-- A pair is done. -/
def doneP (s : SSpec) (p : Int × Int) (st : LS) : Prop := ∀ i, i < (ix s.states p.1.toNat).accept.length → has (ix (ix s.states p.1.toNat).accept i) p.2 = true → ix (ix st.dead p.1.toNat) i = true
theorem doneP.le {s : SSpec} {p : Int × Int} {st t : LS} (h : doneP s p st) (k : Le st t) : doneP s p t := fun i hi hh => k.2 _ _ (h i hi hh)
theorem low_inv {s : SSpec} {p : Int × Int} (hp : okP s p) {st : LS} (h : LInv s st) : LInv s (low s p.1.toNat p.2 st) ∧ Le st (low s p.1.toNat p.2 st) ∧ doneP s p (low s p.1.toNat p.2 st) := by
  obtain ⟨x, a, rfl, hx, ha, h0, hH⟩ := hp
  exact lowK_inv hx ha h0 hH h _ (Nat.le_refl _)
theorem procs_snoc (s : SSpec) (ps : List (Int × Int)) (p : Int × Int) (st : LS) : procs s (ps ++ [p]) st = low s p.1.toNat p.2 (procs s ps st) := by simp [procs]
theorem procs_inv {s : SSpec} : ∀ {ps : List (Int × Int)} {st : LS}, (∀ p ∈ ps, okP s p) → LInv s st → LInv s (procs s ps st) ∧ Le st (procs s ps st) ∧ ∀ p ∈ ps, doneP s p (procs s ps st)
  | [], st, _, h => ⟨h, Le.refl _, fun p hp => by cases hp⟩
  | p :: ps, st, hp, h => by
    obtain ⟨h1, h2, h3⟩ := low_inv (hp p (by simp)) h
    obtain ⟨g1, g2, g3⟩ := procs_inv (ps := ps) (fun q hq => hp q (by simp [hq])) h1
    refine ⟨g1, h2.trans g2, fun q hq => ?_⟩
    rcases List.mem_cons.1 hq with rfl | hq
    · exact h3.le g2
    · exact g3 q hq
theorem preds1_mem {s : SSpec} {x y j : Nat} {p : Int × Int} (h : p ∈ preds1 s x y j) : ∃ a : Nat, p = ((x : Int), (a : Int)) ∧ a < j ∧ ix (ix s.states x).next a = (y : Int) := by
  unfold preds1 at h
  obtain ⟨a, ha, rfl⟩ := List.mem_map.1 h
  obtain ⟨h1, h2⟩ := List.mem_filter.1 ha
  exact ⟨a, rfl, List.mem_range.1 h1, by simpa using h2⟩
theorem preds_mem {s : SSpec} {k y : Nat} {p : Int × Int} (h : p ∈ preds s k y) : ∃ x a : Nat, p = ((x : Int), (a : Int)) ∧ x < k ∧ a < (ix s.states x).next.length ∧ ix (ix s.states x).next a = (y : Int) := by
  unfold preds at h
  obtain ⟨x, hx, hp⟩ := List.mem_flatMap.1 h
  obtain ⟨a, h1, h2, h3⟩ := preds1_mem hp
  exact ⟨x, a, h1, List.mem_range.1 hx, h2, h3⟩
theorem preds_has {s : SSpec} {k y x a : Nat} (hx : x < k) (ha : a < (ix s.states x).next.length) (h : ix (ix s.states x).next a = (y : Int)) : ((x : Int), (a : Int)) ∈ preds s k y := by
  unfold preds
  refine List.mem_flatMap.2 ⟨x, List.mem_range.2 hx, List.mem_map.2 ⟨a, List.mem_filter.2 ⟨List.mem_range.2 ha, by simpa using h⟩, rfl⟩⟩
theorem preds_ok {s : SSpec} {y : Nat} (hy : Hol s y) : ∀ p ∈ preds s s.states.length y, okP s p := fun p hp => by
  obtain ⟨x, a, rfl, hx, ha, h⟩ := preds_mem hp
  exact ⟨x, a, rfl, hx, ha, by omega, by rw [h]; simpa using hy⟩
theorem init_inv (s : SSpec) : LInv s (init s s.states.length) := by
  have hl : ∀ x, x < s.states.length → ix (init s s.states.length).left x = ((ix s.states x).accept.length : Int) := fun x hx => by
    show ix ((List.range _).map _) x = _
    rw [ix_get (by simpa using hx)]; simp [hx]
  have hd : ∀ x, x < s.states.length → ix (init s s.states.length).dead x = List.replicate (ix s.states x).accept.length false := fun x hx => by
    show ix ((List.range _).map _) x = _
    rw [ix_get (by simpa using hx)]; simp [hx]
  have hm : ∀ y : Int, y ∈ (init s s.states.length).out ↔ ∃ x : Nat, x < s.states.length ∧ (ix s.states x).accept.length = 0 ∧ (x : Int) = y := fun y => by
    show y ∈ ((List.range _).filter _).map _ ↔ _
    simp [and_assoc]
  refine ⟨by simp [init], by simp [init], fun x hx => by rw [hd x hx]; simp, fun x hx => by rw [hd x hx, hl x hx]; simp, fun y hy => ?_, ?_, fun x hx => ?_, fun x hx i hi h => ?_⟩
  · obtain ⟨x, h1, h2, rfl⟩ := (hm y).1 hy; omega
  · show (((List.range _).filter _).map _).Nodup
    refine List.Pairwise.map _ (fun a b h e => h (by omega)) ((List.nodup_range).filter _)
  · rw [hm, hl x hx]
    constructor
    · rintro ⟨z, h1, h2, h3⟩
      have : z = x := by omega
      subst this; omega
    · exact fun h => ⟨x, hx, by omega, rfl⟩
  · rw [hd x hx, ix_get (by simpa using hi)] at h
    simp at h
theorem rq_inv (s : SSpec) : ∀ i, LInv s (rq s i)
  | 0 => init_inv s
  | i + 1 => by
    have ih := rq_inv s i
    unfold rq
    split
    · next hi => exact (procs_inv (preds_ok (ih.outHol (ix_mem hi)).2.2) ih).1
    · exact ih
theorem rq_step (s : SSpec) (i : Nat) : Le (rq s i) (rq s (i + 1)) := by
  have ih := rq_inv s i
  show Le _ (if _ then _ else _)
  split
  · next hi => exact (procs_inv (preds_ok (ih.outHol (ix_mem hi)).2.2) ih).2.1
  · exact Le.refl _
theorem rq_stable {s : SSpec} {i : Nat} (h : (rq s i).out.length ≤ i) : ∀ j, rq s (i + j) = rq s i
  | 0 => rfl
  | j + 1 => by
    have ih := rq_stable h j
    show (if i + j < (rq s (i + j)).out.length then procs s (preds s s.states.length (ix (rq s (i + j)).out (i + j)).toNat) (rq s (i + j)) else rq s (i + j)) = _
    rw [ih, if_neg (by omega)]
theorem rungs_of {s : SSpec} {i : Nat} (h : (rq s i).out.length ≤ i) : (rq s i).out = rungs s := by
  unfold rungs
  have hn := (rq_inv s s.states.length).len
  rcases Nat.le_total i s.states.length with h1 | h1
  · have := rq_stable h (s.states.length - i)
    rw [show i + (s.states.length - i) = s.states.length by omega] at this
    rw [this]
  · have := rq_stable hn (i - s.states.length)
    rw [show s.states.length + (i - s.states.length) = i by omega] at this
    rw [this]
theorem ix_prefix {l m : List Int} (h : l <+: m) {j : Nat} (hj : j < l.length) : ix m j = ix l j := by
  obtain ⟨q, rfl⟩ := h
  unfold ix
  rw [List.getD_eq_getElem?_getD, List.getD_eq_getElem?_getD, List.getElem?_append_left hj]
theorem rq_done (s : SSpec) : ∀ i, ∀ j, j < i → j < (rq s i).out.length → ∀ p ∈ preds s s.states.length (ix (rq s i).out j).toNat, doneP s p (rq s i)
  | 0, j, hj, _, p, _ => by omega
  | i + 1, j, hj, hl, p, hp => by
    have ih := rq_inv s i
    have hs := rq_step s i
    by_cases hi : i < (rq s i).out.length
    · have e : rq s (i + 1) = procs s (preds s s.states.length (ix (rq s i).out i).toNat) (rq s i) := by
        show (if _ then _ else _) = _
        rw [if_pos hi]
      rw [ix_prefix hs.1 (by omega)] at hp
      by_cases ej : j = i
      · subst ej
        rw [e]
        exact (procs_inv (preds_ok (ih.outHol (ix_mem hi)).2.2) ih).2.2 p hp
      · exact (rq_done s i j (by omega) (by omega) p hp).le hs
    · have e : rq s (i + 1) = rq s i := by
        show (if _ then _ else _) = _
        rw [if_neg hi]
      rw [e] at hl hp ⊢
      exact rq_done s i j (by omega) hl p hp
theorem rungs_iff {s : SSpec} (hs : okSpec s) {x : Nat} (hx : x < s.states.length) : (x : Int) ∈ rungs s ↔ Hol s x := by
  have hI := rq_inv s s.states.length
  constructor
  · intro h
    have := (hI.outHol h).2.2
    simpa using this
  · intro h
    refine h (fun x => x < s.states.length → (x : Int) ∈ rungs s) (fun x hx hc _ => ?_) hx
    refine (hI.mem x hx).2 ?_
    have h1 := hI.cnt x hx
    have h2 : (ix (rq s s.states.length).dead x).count false = 0 := by
      rw [List.count_eq_zero]
      intro hf
      obtain ⟨i, hi, e⟩ := List.mem_iff_getElem.1 hf
      have hil : i < (ix s.states x).accept.length := by rw [← hI.dx x hx]; exact hi
      obtain ⟨a, ha, h0, hh, hm⟩ := hc i hil
      by_cases hb : (ix (ix s.states x).next a).toNat < s.states.length
      · have hm := hm hb
        obtain ⟨j, hj, ej⟩ := mem_ix hm
        have hlen := hI.len
        have hd := rq_done s s.states.length j (by show j < s.states.length; exact Nat.lt_of_lt_of_le hj hlen) hj ((x : Int), (a : Int)) (by
          have ej : ix (rq s s.states.length).out j = _ := ej
          rw [ej]
          exact preds_has hx ha (by omega))
        have := hd i (by simpa using hil) (by simpa using hh)
        rw [Int.toNat_natCast, ix_get hi, e] at this
        cases this
      · have hk := hs.st x hx
        have := hk.nx a (by rw [← hk.len]; exact ha)
        omega
    omega
theorem hollow_rungs {s : SSpec} (hs : okSpec s) : marks s.states.length (rungs s) = hollow s := by
  unfold marks hollow
  refine List.map_congr_left (fun x hx => ?_)
  have := rungs_iff hs (List.mem_range.1 hx)
  by_cases h : Hol s x
  · simp [h, this.2 h]
  · simp [h]
    exact fun hm => h (this.1 hm)
theorem map_upd {α : Type} [Inhabited α] {f g : Nat → α} {n t : Nat} {v : α} (ht : t < n) (hv : g t = v) (ho : ∀ y, y < n → y ≠ t → g y = f y) : ((List.range n).map f).set t v = (List.range n).map g := by
  apply List.ext_getElem?
  intro j
  by_cases e : t = j
  · subst e; rw [List.getElem?_set_self (by simpa using ht), List.getElem?_map, List.getElem?_range ht, ← hv]; rfl
  · rw [List.getElem?_set_ne e, List.getElem?_map, List.getElem?_map]
    by_cases hj : j < n
    · rw [List.getElem?_range hj]; simp [ho j hj (Ne.symm e)]
    · rw [List.getElem?_eq_none (by simpa using hj)]; rfl
theorem init_zero (s : SSpec) : init s 0 = ⟨List.replicate s.states.length 0, List.replicate s.states.length [], []⟩ := by
  unfold init
  simp [List.map_const']
theorem init_succ {s : SSpec} {k : Nat} (hk : k < s.states.length) : init s (k + 1) = ⟨(init s k).left.set k ((ix s.states k).accept.length : Int), (init s k).dead.set k (List.replicate (ix s.states k).accept.length false), if ((ix s.states k).accept.length : Int) = 0 then (init s k).out ++ [(k : Int)] else (init s k).out⟩ := by
  have h1 : (init s k).left.set k ((ix s.states k).accept.length : Int) = (init s (k + 1)).left := map_upd hk (by rw [if_pos (by omega)]) (fun y hy hne => by
    by_cases h : y < k
    · rw [if_pos h, if_pos (by omega)]
    · rw [if_neg h, if_neg (by omega)])
  have h2 : (init s k).dead.set k (List.replicate (ix s.states k).accept.length false) = (init s (k + 1)).dead := map_upd hk (by rw [if_pos (by omega)]) (fun y hy hne => by
    by_cases h : y < k
    · rw [if_pos h, if_pos (by omega)]
    · rw [if_neg h, if_neg (by omega)])
  rw [h1, h2]
  have h3 : (if ((ix s.states k).accept.length : Int) = 0 then (init s k).out ++ [(k : Int)] else (init s k).out) = (init s (k + 1)).out := by
    unfold init
    simp only [List.range_succ, List.filter_append, List.map_append]
    by_cases h : (ix s.states k).accept.length = 0
    · rw [if_pos (by omega)]
      congr 1
      rw [List.filter_cons, if_pos (by simpa using h)]; rfl
    · rw [if_neg (by omega), List.filter_cons, if_neg (by simpa using h)]
      simp
  rw [h3]
theorem init_out_le (s : SSpec) (k : Nat) : (init s k).out.length ≤ k := by
  unfold init
  simp only [List.length_map]
  have := List.length_filter_le (fun x => decide ((ix s.states x).accept.length = 0)) (List.range k)
  simpa using this
theorem preds_succ (s : SSpec) (k y : Nat) : preds s (k + 1) y = preds s k y ++ preds1 s k y (ix s.states k).next.length := by
  unfold preds
  rw [List.range_succ, List.flatMap_append]; simp
theorem preds1_succ (s : SSpec) (k y j : Nat) : preds1 s k y (j + 1) = preds1 s k y j ++ if ix (ix s.states k).next j = (y : Int) then [((k : Int), (j : Int))] else [] := by
  unfold preds1
  rw [List.range_succ, List.filter_append, List.map_append]
  congr 1
  by_cases h : ix (ix s.states k).next j = (y : Int) <;> simp [h]
theorem preds1_put {s : SSpec} {k j n t : Nat} {F : Nat → List (Int × Int)} (ht : ix (ix s.states k).next j = (t : Int)) (hn : t < n) : ((List.range n).map fun y => F y ++ preds1 s k y j).set t (F t ++ preds1 s k t j ++ [((k : Int), (j : Int))]) = (List.range n).map fun y => F y ++ preds1 s k y (j + 1) :=
  map_upd hn (by rw [preds1_succ, if_pos ht, List.append_assoc]) (fun y hy hne => by rw [preds1_succ, if_neg (fun h => hne (by omega)), List.append_nil])
theorem preds1_none {s : SSpec} {k j n : Nat} {F : Nat → List (Int × Int)} (ht : ix (ix s.states k).next j < 0) : ((List.range n).map fun y => F y ++ preds1 s k y j) = (List.range n).map fun y => F y ++ preds1 s k y (j + 1) :=
  List.map_congr_left (fun y _ => by rw [preds1_succ, if_neg (by omega), List.append_nil])
theorem ix_memS {α : Type} [Inhabited α] {l : List α} {i : Nat} (h : i < l.length) : ix l i ∈ l := by rw [ix_get h]; exact List.getElem_mem h
theorem preds1_le (s : SSpec) (x y j : Nat) : (preds1 s x y j).length ≤ j := by
  unfold preds1
  rw [List.length_map]
  have := List.length_filter_le (fun a => decide (ix (ix s.states x).next a = (y : Int))) (List.range j)
  simpa using this
theorem preds_le {s : SSpec} {y : Nat} {m : Nat} : ∀ k, (∀ x, x < k → (ix s.states x).next.length ≤ m) → (preds s k y).length ≤ k * m
  | 0, _ => by simp [preds]
  | k + 1, h => by
    have ih := preds_le (s := s) (y := y) (m := m) k (fun x hx => h x (by omega))
    have h1 := preds1_le s k y (ix s.states k).next.length
    have h2 := h k (by omega)
    rw [preds_succ, List.length_append, Nat.succ_mul]
    omega
theorem preds_zero (s : SSpec) : (List.range s.states.length).map (preds s 0) = List.replicate s.states.length [] := by
  rw [show preds s 0 = fun _ => [] from rfl]; simp [List.map_const']
end Rungs
end Go.Proofs.YtolpjmllmlahfaaDoor
