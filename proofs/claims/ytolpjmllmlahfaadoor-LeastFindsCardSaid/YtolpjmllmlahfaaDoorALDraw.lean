/- The abstract logic, part 8: regions that draw their order. Under no conditions: general lemmas. -/
import Derived.Test.YtolpjmllmlahfaaDoorALSt
import Derived.OrdersIn
set_option linter.unusedVariables false
namespace AL
open Go

/-- Operation i waits for operation j. -/
def wf (ops : Array Oper) (i j : Nat) : Bool :=
  match ops[i]? with
  | some o => o.after.any fun e => Region.binds .any e && Nat.beq e.on j
  | none => false
theorem wf_spec {ops : Array Oper} {i j : Nat} {o : Oper} (ho : ops[i]? = some o) (h : wf ops i j = true) : ∃ e ∈ o.after, Region.binds .any e = true ∧ e.on = j := by
  unfold wf at h
  rw [ho] at h
  obtain ⟨e, he, hb⟩ := Array.any_eq_true'.1 h
  simp only [Bool.and_eq_true] at hb
  exact ⟨e, he, hb.1, by simpa using hb.2⟩

/-- Operation i waits for operation j, through others. -/
inductive Path (ops : Array Oper) : Nat → Nat → Prop
  | one {i j : Nat} (h : wf ops i j = true) : Path ops i j
  | more {i m j : Nat} (h : wf ops i m = true) (k : Path ops m j) : Path ops i j
def mkOne (ms : List Nat) (o : Oper) : Nat := o.after.toList.foldl (fun m e => bif Region.binds .any e then Nat.lor (Nat.lor m (Nat.shiftLeft 1 e.on)) (ms.getD e.on 0) else m) 0
/-- ms: for each operation a set of those that it waits for. -/
def masksOk (ops : Array Oper) (ms : List Nat) : Bool := (List.range ops.size).all fun i => match ops[i]? with
  | none => true
  | some o => Nat.beq (Nat.lor (ms.getD i 0) (mkOne ms o)) (mkOne ms o)
theorem mkOne_spec {ms : List Nat} {j : Nat} : ∀ (l : List Edge) (m0 : Nat), Nat.testBit (l.foldl (fun m e => bif Region.binds .any e then Nat.lor (Nat.lor m (Nat.shiftLeft 1 e.on)) (ms.getD e.on 0) else m) m0) j = true →
    Nat.testBit m0 j = true ∨ ∃ e ∈ l, Region.binds .any e = true ∧ (e.on = j ∨ Nat.testBit (ms.getD e.on 0) j = true)
  | [], m0, h => .inl h
  | e :: l, m0, h => by
    rcases mkOne_spec l _ h with h1 | ⟨e', he, h1, h2⟩
    · dsimp only at h1
      cases hb : Region.binds .any e with
      | false => rw [hb] at h1; exact .inl h1
      | true =>
        rw [hb] at h1
        have h1 : Nat.testBit (m0 ||| (1 <<< e.on) ||| ms.getD e.on 0) j = true := h1
        rw [Nat.testBit_or, Nat.testBit_or] at h1
        simp only [Bool.or_eq_true] at h1
        rcases h1 with (h2 | h2) | h2
        · exact .inl h2
        · refine .inr ⟨e, by simp, hb, .inl ?_⟩
          rw [Nat.one_shiftLeft, Nat.testBit_two_pow] at h2
          simpa using h2
        · exact .inr ⟨e, by simp, hb, .inr h2⟩
    · exact .inr ⟨e', List.mem_cons_of_mem _ he, h1, h2⟩
theorem masks_path {ops : Array Oper} {ms : List Nat} (hm : masksOk ops ms = true) (hback : ∀ (i : Nat) (o : Oper), ops[i]? = some o → ∀ e ∈ o.after, Region.binds .any e = true → e.on < i) : ∀ (i : Nat), i < ops.size → ∀ j, Nat.testBit (ms.getD i 0) j = true → Path ops i j := by
  intro i
  induction i using Nat.strongRecOn with
  | _ i ih =>
    intro hi j hj
    have ho : ops[i]? = some ops[i] := by simp [hi]
    have h1 := (List.all_eq_true.1 hm) i (List.mem_range.2 hi)
    rw [ho] at h1
    have h1 : (ms.getD i 0) ||| (mkOne ms ops[i]) = mkOne ms ops[i] := by simpa using h1
    have h2 : Nat.testBit (mkOne ms ops[i]) j = true := by rw [← h1, Nat.testBit_or, hj]; rfl
    rcases mkOne_spec _ _ h2 with h3 | ⟨e, he, hb, h3⟩
    · simp at h3
    · have he' : e ∈ ops[i].after := by simpa using he
      have hw : wf ops i e.on = true := by
        unfold wf
        rw [ho]
        exact Array.any_eq_true'.2 ⟨e, he', by simp [hb]⟩
      have hlt := hback i _ ho e he' hb
      rcases h3 with rfl | h3
      · exact .one hw
      · exact .more hw (ih e.on hlt (by omega) j h3)

/-- What is asked of a region: the first nh operations go in whatever order, the others behind all that stand before them. -/
def drawB (ops : Array Oper) (nh : Nat) (ms : List Nat) : Bool :=
  masksOk ops ms && Nat.ble nh ops.size &&
  (List.range ops.size).all fun i => match ops[i]? with
    | none => true
    | some oi =>
      (oi.after.all fun e => !Region.binds .any e || Nat.blt e.on i) &&
      (Nat.blt i nh || (List.range i).all fun j => Nat.testBit (ms.getD i 0) j) &&
      (!Nat.blt i nh || (List.range ops.size).all fun j => match ops[j]? with
        | none => true
        | some oj => match oj.dst with
          | none => true
          | some d => (!(oi.looksAt ops).contains d || (Nat.blt j i && wf ops i j) || (Nat.blt i j && wf ops j i)) && (Nat.beq i j || !Nat.blt j nh || oi.dst != some d))

structure DrawOK (ops : Array Oper) (nh : Nat) : Prop where
  le : nh ≤ ops.size
  back : ∀ (i : Nat) (o : Oper), ops[i]? = some o → ∀ e ∈ o.after, Region.binds .any e = true → e.on < i
  tail : ∀ (i : Nat) (o : Oper), ops[i]? = some o → nh ≤ i → ∀ j, j < i → Path ops i j
  dep : ∀ (i j : Nat) (oi oj : Oper) (d : Nat), ops[i]? = some oi → ops[j]? = some oj → i < nh → oj.dst = some d → d ∈ oi.looksAt ops → (j < i ∧ wf ops i j = true) ∨ (i < j ∧ wf ops j i = true)
  dst : ∀ (i j : Nat) (oi oj : Oper) (d : Nat), ops[i]? = some oi → ops[j]? = some oj → i < nh → j < nh → i ≠ j → oj.dst = some d → oi.dst ≠ some d

theorem drawOK_of {ops : Array Oper} {nh : Nat} {ms : List Nat} (h : drawB ops nh ms = true) : DrawOK ops nh := by
  unfold drawB at h
  simp only [Bool.and_eq_true] at h
  obtain ⟨⟨h0, h1⟩, h2⟩ := h
  rw [List.all_eq_true] at h2
  have key : ∀ (i : Nat) (o : Oper), ops[i]? = some o → _ := fun i o ho => by
    have := h2 i (List.mem_range.2 (Array.getElem?_eq_some_iff.1 ho).1)
    rw [ho] at this
    simp only [Bool.and_eq_true] at this
    exact this
  have hback : ∀ (i : Nat) (o : Oper), ops[i]? = some o → ∀ e ∈ o.after, Region.binds .any e = true → e.on < i := fun i o ho e he hb => by
    have := (key i o ho).1.1
    have := (Array.all_eq_true_iff_forall_mem.1 this) e he
    simp only [hb, Bool.not_true, Bool.false_or] at this
    simpa using this
  refine ⟨by simpa using h1, hback, fun i o ho hi j hj => ?_, fun i j oi oj d hi hj hin hd hm => ?_, fun i j oi oj d hi hj hin hjn hne hd => ?_⟩
  · have := (key i o ho).1.2
    simp only [Bool.or_eq_true] at this
    rcases this with h3 | h3
    · have : i < nh := by simpa using h3
      omega
    · exact masks_path h0 hback i (Array.getElem?_eq_some_iff.1 ho).1 j ((List.all_eq_true.1 h3) j (List.mem_range.2 hj))
  · have := (key i oi hi).2
    simp only [Bool.or_eq_true] at this
    rcases this with h3 | h3
    · have hb : Nat.blt i nh = true := by simpa using hin
      rw [hb] at h3; cases h3
    · have := (List.all_eq_true.1 h3) j (List.mem_range.2 (Array.getElem?_eq_some_iff.1 hj).1)
      rw [hj] at this
      simp only [hd, Bool.and_eq_true, Bool.or_eq_true] at this
      rcases this.1 with (h4 | h4) | h4
      · simp [hm] at h4
      · exact .inl ⟨by simpa using h4.1, h4.2⟩
      · exact .inr ⟨by simpa using h4.1, h4.2⟩
  · have := (key i oi hi).2
    simp only [Bool.or_eq_true] at this
    rcases this with h3 | h3
    · have hb : Nat.blt i nh = true := by simpa using hin
      rw [hb] at h3; cases h3
    · have := (List.all_eq_true.1 h3) j (List.mem_range.2 (Array.getElem?_eq_some_iff.1 hj).1)
      rw [hj] at this
      simp only [hd, Bool.and_eq_true, Bool.or_eq_true] at this
      rcases this.2 with (h4 | h4) | h4
      · exact absurd (by simpa using h4) hne
      · have hb : Nat.blt j nh = true := by simpa using hjn
        rw [hb] at h4; cases h4
      · intro e; rw [e] at h4; simp at h4

section
variable {P : Program} {r : Option Nat} {ops : Array Oper} {Q : Exit → Act → World → Prop} {B : Base} {E : Env} {H : Hp}

def Agr (E' E : Env) : List Nat → Prop
  | [] => True
  | x :: r => lk x E' = lk x E ∧ Agr E' E r
theorem agr_of {E' E : Env} : ∀ {l : List Nat}, (∀ x ∈ l, lk x E' = lk x E) → Agr E' E l
  | [], _ => trivial
  | x :: r, h => ⟨h x (by simp), agr_of (fun y hy => h y (List.mem_cons_of_mem _ hy))⟩

/-- One operation, wherever what it looks at reads as here. -/
def Step (r : Option Nat) (P : Program) (ops : Array Oper) (B : Base) (H : Hp) (o : Oper) (E : Env) (d : Nat) (φ : AV) : Prop :=
  o.dst = some d ∧ ∀ (Q : Exit → Act → World → Prop) (E' : Env) (rest : List Oper), (∀ x ∈ o.looksAt ops, lk x E' = lk x E) → St r P ops Q B ((d, φ) :: E') H rest → St r P ops Q B E' H (o :: rest)

inductive Pl (r : Option Nat) (P : Program) (ops : Array Oper) (B : Base) (H : Hp) : Env → List Oper → Env → Prop
  | nil (E : Env) : Pl r P ops B H E [] E
  | cons {E E' : Env} {o : Oper} {l : List Oper} {d : Nat} {φ : AV} (h : Step r P ops B H o E d φ) (k : Pl r P ops B H ((d, φ) :: E) l E') : Pl r P ops B H E (o :: l) E'

theorem Pl.list {l : List Oper} {Ef : Env} (h : Pl r P ops B H E l Ef) : ∃ ps : List (Nat × AV), ps.length = l.length ∧ Ef = ps.reverse ++ E ∧ ∀ (i : Nat) (o : Oper), l[i]? = some o → ∃ d φ, ps[i]? = some (d, φ) ∧ Step r P ops B H o ((ps.take i).reverse ++ E) d φ := by
  induction h with
  | nil E => exact ⟨[], rfl, rfl, fun i o h => by simp at h⟩
  | cons hs _ ih =>
    rename_i E E' o l d φ _
    obtain ⟨ps, h1, h2, h3⟩ := ih
    refine ⟨(d, φ) :: ps, by simp [h1], by simp [h2], fun i o' hi => ?_⟩
    cases i with
    | zero => simp at hi; subst hi; exact ⟨d, φ, rfl, by simpa using hs⟩
    | succ i =>
      obtain ⟨d', φ', h4, h5⟩ := h3 i o' (by simpa using hi)
      exact ⟨d', φ', by simpa using h4, by simpa using h5⟩

/-- What a list of knowledge reads at a slot. -/
theorem lk_rev (x : Nat) : ∀ (ps : List (Nat × AV)) (E : Env), (∀ y ∈ ps, y.1 ≠ x) → lk x (ps.reverse ++ E) = lk x E
  | [], E, _ => rfl
  | (d, φ) :: ps, E, h => by
    have ih := lk_rev x ps ((d, φ) :: E) (fun y hy => h y (List.mem_cons_of_mem _ hy))
    simp only [List.reverse_cons, List.append_assoc, List.singleton_append] at ih ⊢
    rw [ih]; exact lk_other _ _ (h (d, φ) (by simp))

theorem lk_rev_at {x : Nat} {φ : AV} : ∀ (ps : List (Nat × AV)) (E : Env) (j : Nat), ps[j]? = some (x, φ) → (∀ (i : Nat) (y : Nat × AV), ps[i]? = some y → y.1 = x → i = j) → lk x (ps.reverse ++ E) = φ
  | [], _, _, h, _ => by simp at h
  | (d, ψ) :: ps, E, j, h, hu => by
    simp only [List.reverse_cons, List.append_assoc, List.singleton_append]
    cases j with
    | zero =>
      simp at h
      obtain ⟨rfl, rfl⟩ := h
      rw [lk_rev d ps _ (fun y hy e => by
        obtain ⟨i, hi⟩ := List.getElem?_of_mem hy
        have := hu (i + 1) y (by simpa using hi) e
        omega)]
      exact lk_same _ _ _
    | succ j =>
      exact lk_rev_at ps _ j (by simpa using h) (fun i y hi e => by
        have := hu (i + 1) y (by simpa using hi) e
        omega)

theorem wpIn_other {o : Oper} {a : Act} {w : World} {K : Act → World → Prop} {Q' : Exit → Act → World → Prop} (hq : ∀ e a w, e ≠ .normal → Q' e a w → Q e a w) (h : o.wpIn (FW r) 0 P a w K Q') : o.wpIn (FW r) 0 P a w K Q := by
  unfold Oper.wpIn at *
  refine ⟨h.1, ?_⟩
  have hh := h.2
  generalize (o.semAt (FW r).round a.eval).run P w = z at *
  have hL : LetsOut Q' → LetsOut Q := fun ⟨a, w, h⟩ => ⟨a, w, hq _ _ _ (by simp) h⟩
  cases z with
  | ok x w' =>
    cases x <;> simp only [Oper.uponIn] at hh ⊢ <;>
      first
        | exact hh
        | exact ⟨hh.1, CallsIn.mono hh.2 (fun e w'' he => by cases e <;> first | exact he | exact hq _ _ _ (by simp) he | exact hL he)⟩
        | exact ⟨hh.1, RoundIn.mono hh.2 (fun e w'' he => by cases e <;> first | exact he | exact hq _ _ _ (by simp) he | exact hL he)⟩
  | halt x w' => cases x <;> simp only [Oper.uponIn] at hh ⊢ <;> first | exact hh | exact hq _ _ _ (by simp) hh

theorem countP_set_true : ∀ (l : List Bool) (i : Nat), l[i]? = some false → (l.set i true).countP (· == true) = l.countP (· == true) + 1
  | [], _, h => by simp at h
  | b :: l, 0, h => by simp at h; subst h; simp
  | b :: l, i + 1, h => by
    have ih := countP_set_true l i (by simpa using h)
    simp only [List.set_cons_succ, List.countP_cons, ih]; omega

/-- An operation by itself. -/
theorem op_alone {o : Oper} {a : Act} {w : World} {K : Act → World → Prop} {i : Nat} (ho : ops[i]? = some o) (h : ∀ Q' : Exit → Act → World → Prop, (∀ a w, K a w → Q' .normal a w) → wl r P ops Q' [o] a w) :
    wpOpIn (FW r) 0 P ops Q i K a w := by
  have h1 := h (fun e a w => match e with | .normal => K a w | e => Q e a w) (fun _ _ h => h)
  unfold wpOpIn
  rw [ho]
  simp only [wl, wpListIn] at h1
  simp only []
  split
  · next hw =>
    rw [if_pos hw] at h1
    exact wpIn_other (fun e a w he hq => by cases e <;> first | exact absurd rfl he | exact hq) h1
  · next hw =>
    rw [if_neg hw] at h1
    exact h1

theorem path_listed {ops : Array Oper} {listed : Array Bool} (hcl : ∀ (j : Nat) (o : Oper), ops[j]? = some o → listed.getD j false = true → ∀ e ∈ o.after, Region.binds .any e = true → listed.getD e.on false = true) {i j : Nat} (h : Path ops i j) :
    ∀ (o : Oper), ops[i]? = some o → (∀ e ∈ o.after, Region.binds .any e = true → listed.getD e.on false = true) → listed.getD j false = true := by
  induction h with
  | one hw =>
    intro o ho hall
    obtain ⟨e, he, hb, heq⟩ := wf_spec ho hw
    exact heq ▸ hall e he hb
  | more hw _ ih =>
    intro o ho hall
    obtain ⟨e, he, hb, heq⟩ := wf_spec ho hw
    have hl := hall e he hb
    rename_i i m j _
    cases hm : ops[m]? with
    | none =>
      rename_i hp
      cases hp with
      | one h' => unfold wf at h'; rw [hm] at h'; cases h'
      | more h' _ => unfold wf at h'; rw [hm] at h'; cases h'
    | some om => exact ih om hm (hcl m om hm (heq ▸ hl))

/-- The operations that stand behind all others, in the text's order. -/
theorem tail_phase {nh : Nat} (hB : DrawOK ops nh) : ∀ (fuel t : Nat) (listed : Array Bool) (a : Act) (w : World), nh ≤ t → fuel + t = ops.size → listed.size = ops.size → (∀ j, j < t → listed.getD j false = true) → (∀ j, t ≤ j → j < ops.size → listed.getD j true = false) →
    wl r P ops Q (ops.toList.drop t) a w → wpAnyIn (FW r) 0 P .any ops Q fuel listed a w
  | 0, t, listed, a, w, hn, hf, hsz, hl, hu, h => by
    have ht : t = ops.size := by omega
    subst ht
    refine ⟨?_, by rw [List.drop_of_length_le (by simp)] at h; exact h⟩
    apply List.eq_nil_iff_forall_not_mem.2
    intro j hj
    obtain ⟨h1, o, ho, _⟩ := mem_ready.1 hj
    have hlt := (Array.getElem?_eq_some_iff.1 ho).1
    have h2 := hl j hlt
    simp [hsz, hlt] at h1 h2
    rw [h1] at h2; cases h2
  | fuel + 1, t, listed, a, w, hn, hf, hsz, hl, hu, h => by
    have ht : t < ops.size := by omega
    have ho : ops[t]? = some ops[t] := by simp [ht]
    have hl' : ∀ (i : Nat) (o : Oper), ops[i]? = some o → listed.getD i false = true → ∀ e ∈ o.after, Region.binds .any e = true → listed.getD e.on false = true := fun i o ho hli e he hb => by
      have hlt : i < t := by
        rcases Nat.lt_or_ge i t with h | h
        · exact h
        · have hi := (Array.getElem?_eq_some_iff.1 ho).1
          have h3 := hu i h hi
          simp [hsz, hi] at hli h3
          rw [hli] at h3; cases h3
      exact hl e.on (Nat.lt_trans (hB.back i o ho e he hb) hlt)
    have hready : ∀ j, j ∈ Region.ready .any ops listed → j = t := fun j hj => by
      obtain ⟨h1, o, ho', hall⟩ := mem_ready.1 hj
      have hlt := (Array.getElem?_eq_some_iff.1 ho').1
      rcases Nat.lt_trichotomy j t with hlt' | e | hgt
      · have h2 := hl j hlt'
        simp [hsz, hlt] at h1 h2
        rw [h1] at h2; cases h2
      · exact e
      · have h2 : listed.getD t false = true := path_listed (fun i o ho hl e he hb => hl' i o ho hl e he hb) (hB.tail j o ho' (by omega) t hgt) o ho' hall
        have h3 := hu t (Nat.le_refl _) ht
        simp [hsz, ht] at h2 h3
        rw [h2] at h3; cases h3
    refine ⟨fun h0 => ?_, fun j hj => ?_⟩
    · have : t ∈ Region.ready .any ops listed := mem_ready.2 ⟨hu t (Nat.le_refl _) ht, _, ho, fun e he hb => hl _ (hB.back t _ ho e he hb)⟩
      rw [h0] at this; cases this
    · have := hready j hj
      subst this
      have hd : ops.toList.drop j = ops[j] :: ops.toList.drop (j + 1) := by rw [List.drop_eq_getElem_cons (by simpa using ht)]; simp
      rw [hd] at h
      unfold wpOpIn
      rw [ho]
      simp only [wl, wpListIn] at h
      have ih : ∀ a w, wpListIn (FW r) 0 P ops Q (ops.toList.drop (j + 1)) a w → wpAnyIn (FW r) 0 P .any ops Q fuel (listed.setIfInBounds j true) a w := fun a w hw =>
        tail_phase hB fuel (j + 1) _ a w (by omega) (by omega) (by simpa using hsz) (fun i hi => by
          by_cases e : i = j
          · subst e; simp [hsz, ht]
          · rw [getD_set_ne _ (Ne.symm e)]; exact hl i (by omega)) (fun i hi hi' => by rw [getD_set_ne _ (by omega)]; exact hu i (by omega) hi') hw
      simp only []
      split
      · next hw => rw [if_pos hw] at h; exact Oper.wpIn_mono ih h
      · next hw => rw [if_neg hw] at h; exact ⟨h.1, ih _ _ h.2⟩

theorem any_plan {nh : Nat} (hB : DrawOK ops nh) {ps : List (Nat × AV)} (hlen : ps.length = nh) (hps : ∀ (i : Nat) (o : Oper), i < nh → ops[i]? = some o → ∃ d φ, ps[i]? = some (d, φ) ∧ Step r P ops B H o ((ps.take i).reverse ++ E) d φ)
    (ht : St r P ops Q B (ps.reverse ++ E) H (ops.toList.drop nh)) : ∀ (fuel c : Nat) (listed : Array Bool) (E' : Env) (a : Act) (w : World), listed.size = ops.size → fuel + c = ops.size → (listed.toList.countP (· == true) = c) →
    (∀ (j : Nat) (o : Oper), ops[j]? = some o → listed.getD j false = true → ∀ e ∈ o.after, Region.binds .any e = true → listed.getD e.on false = true) → (∀ j, nh ≤ j → j < ops.size → listed.getD j true = false) →
    (∀ (i d : Nat) (φ : AV), listed.getD i false = true → ps[i]? = some (d, φ) → lk d E' = φ) → (∀ (x : Nat), (∀ (i d : Nat) (φ : AV), listed.getD i false = true → ps[i]? = some (d, φ) → d ≠ x) → lk x E' = lk x E) → Sim B E' H a w →
    wpAnyIn (FW r) 0 P .any ops Q fuel listed a w := by
  have hdst : ∀ (i : Nat) (d : Nat) (φ : AV), ps[i]? = some (d, φ) → ∃ o, ops[i]? = some o ∧ o.dst = some d := fun i d φ hi => by
    have hlt : i < nh := by rw [← hlen]; exact (List.getElem?_eq_some_iff.1 hi).1
    have hlt' : i < ops.size := Nat.lt_of_lt_of_le hlt hB.le
    obtain ⟨d', φ', h1, h2⟩ := hps i ops[i] hlt (by simp [hlt'])
    rw [hi] at h1; simp at h1
    exact ⟨ops[i], by simp [hlt'], by rw [h1.1]; exact h2.1⟩
  have huniq : ∀ (i j : Nat) (d : Nat) (φ ψ : AV), ps[i]? = some (d, φ) → ps[j]? = some (d, ψ) → i = j := fun i j d φ ψ hi hj => by
    obtain ⟨oi, h1, h2⟩ := hdst i d φ hi
    obtain ⟨oj, h3, h4⟩ := hdst j d ψ hj
    have hli : i < nh := by rw [← hlen]; exact (List.getElem?_eq_some_iff.1 hi).1
    have hlj : j < nh := by rw [← hlen]; exact (List.getElem?_eq_some_iff.1 hj).1
    refine Classical.byContradiction fun hne => ?_
    exact hB.dst i j oi oj d h1 h3 hli hlj hne h4 h2
  intro fuel
  induction fuel with
  | zero =>
    intro c listed E' a w hsz hf hc hcl hut h1 h2 hs
    -- all are listed
    have hall : ∀ j, j < ops.size → listed.getD j false = true := fun j hj => by
      have hl0 : listed.toList.length = ops.size := by simpa using hsz
      have : listed.toList.countP (· == true) = listed.toList.length := by rw [hc]; omega
      have := List.countP_eq_length.1 this (listed[j]'(by omega)) (by simp)
      simp [hsz, hj] at this ⊢; exact this
    have hnh : nh = ops.size := by
      rcases Nat.lt_or_ge nh ops.size with h | h
      · have h3 := hut nh (Nat.le_refl _) h
        have h4 := hall nh h
        simp [hsz, h] at h3 h4
        rw [h3] at h4; cases h4
      · have := hB.le; omega
    refine tail_phase hB 0 nh listed a w (Nat.le_refl _) (by omega) hsz (fun j hj => hall j (by omega)) hut (ht a w (hs.less (fun x {w F v} hp => ?_) (subH_refl H)))
    have : lk x E' = lk x (ps.reverse ++ E) := by
      by_cases hx : ∃ (i : Nat) (φ : AV), ps[i]? = some (x, φ)
      · obtain ⟨i, φ, hi⟩ := hx
        have hlt : i < nh := by rw [← hlen]; exact (List.getElem?_eq_some_iff.1 hi).1
        rw [h1 i x φ (hall i (by omega)) hi, lk_rev_at ps E i hi (fun i' y hy e => by obtain ⟨y1, y2⟩ := y; simp at e; subst e; exact huniq i' i _ _ _ hy hi)]
      · rw [h2 x (fun i d φ _ hi e => hx ⟨i, φ, e ▸ hi⟩), lk_rev x ps E (fun y hy e => by
          obtain ⟨i, hi⟩ := List.getElem?_of_mem hy
          exact hx ⟨i, y.2, by rw [hi, ← e]⟩)]
    rw [← this]; exact hp
  | succ fuel ih =>
    intro c listed E' a w hsz hf hc hcl hut h1 h2 hs
    by_cases hall : ∀ j, j < nh → listed.getD j false = true
    · -- the head is through
      have hcnt : c = nh := by
        have hle := hB.le
        rw [← hc, ← List.take_append_drop nh listed.toList, List.countP_append]
        have e1 : (listed.toList.take nh).countP (· == true) = nh := by
          have : (listed.toList.take nh).length = nh := by simp; omega
          rw [List.countP_eq_length.2, this]
          intro b hb
          obtain ⟨i, hi⟩ := List.getElem?_of_mem hb
          rw [List.getElem?_take] at hi
          split at hi
          · next hlt =>
            have h3 := hall i hlt
            have : i < listed.size := by omega
            simp [this] at hi h3
            rw [← hi, h3]; rfl
          · cases hi
        have e2 : (listed.toList.drop nh).countP (· == true) = 0 := by
          rw [List.countP_eq_zero]
          intro b hb
          obtain ⟨i, hi⟩ := List.getElem?_of_mem hb
          rw [List.getElem?_drop] at hi
          have hlt : nh + i < listed.size := by have := (List.getElem?_eq_some_iff.1 hi).1; simpa using this
          have h3 := hut (nh + i) (by omega) (by omega)
          simp [hlt] at hi h3
          rw [← hi, h3]; simp
        omega
      refine tail_phase hB (fuel + 1) nh listed a w (Nat.le_refl _) (by omega) hsz hall hut (ht a w (hs.less (fun x {w F v} hp => ?_) (subH_refl H)))
      have : lk x E' = lk x (ps.reverse ++ E) := by
        by_cases hx : ∃ (i : Nat) (φ : AV), ps[i]? = some (x, φ)
        · obtain ⟨i, φ, hi⟩ := hx
          have hlt : i < nh := by rw [← hlen]; exact (List.getElem?_eq_some_iff.1 hi).1
          rw [h1 i x φ (hall i hlt) hi, lk_rev_at ps E i hi (fun i' y hy e => by obtain ⟨y1, y2⟩ := y; simp at e; subst e; exact huniq i' i _ _ _ hy hi)]
        · rw [h2 x (fun i d φ _ hi e => hx ⟨i, φ, e ▸ hi⟩), lk_rev x ps E (fun y hy e => by
            obtain ⟨i, hi⟩ := List.getElem?_of_mem hy
            exact hx ⟨i, y.2, by rw [hi, ← e]⟩)]
      rw [← this]; exact hp
    · -- some of the head is not yet through
      have hex : ∃ j, (j < nh ∧ listed.getD j false = false) ∧ ∀ m, (m < nh ∧ listed.getD m false = false) → j ≤ m := by
        refine exists_least (Classical.byContradiction fun hno => hall (fun j hj => ?_))
        cases hg : listed.getD j false
        · exact absurd ⟨j, hj, hg⟩ hno
        · rfl
      obtain ⟨j0, ⟨hj0, hj0f⟩, hmin⟩ := hex
      have hnt : ∀ i, listed.getD i false = false → i < ops.size → listed.getD i true = false := fun i hi hlt => by
        simp [hsz, hlt] at hi ⊢; exact hi
      have hj0s : j0 < ops.size := Nat.lt_of_lt_of_le hj0 hB.le
      have hr0 : j0 ∈ Region.ready .any ops listed := mem_ready.2 ⟨hnt j0 hj0f hj0s, ops[j0], by simp [hj0s], fun e he hb => by
        have hlt := hB.back j0 ops[j0] (by simp [hj0s]) e he hb
        cases hg : listed.getD e.on false
        · have := hmin e.on ⟨by omega, hg⟩; omega
        · rfl⟩
      refine ⟨fun h0 => (by rw [h0] at hr0; cases hr0), fun i hi => ?_⟩
      obtain ⟨hun, oi, hoi, hafter⟩ := mem_ready.1 hi
      have his : i < ops.size := (Array.getElem?_eq_some_iff.1 hoi).1
      have hinh : i < nh := by
        rcases Nat.lt_or_ge i nh with h | h
        · exact h
        · have := path_listed hcl (hB.tail i oi hoi h j0 (by omega)) oi hoi hafter
          rw [hj0f] at this; cases this
      have hunf : listed.getD i false = false := by simp [hsz, his] at hun ⊢; exact hun
      obtain ⟨d, φ, hpi, hstep⟩ := hps i oi hinh hoi
      have hlook : ∀ x ∈ oi.looksAt ops, lk x E' = lk x ((ps.take i).reverse ++ E) := fun x hx => by
        by_cases hex : ∃ (j : Nat) (ψ : AV), ps[j]? = some (x, ψ)
        · obtain ⟨j, ψ, hj⟩ := hex
          obtain ⟨oj, hoj, hdj⟩ := hdst j x ψ hj
          rcases hB.dep i j oi oj x hoi hoj hinh hdj hx with ⟨hlt, hw⟩ | ⟨hlt, hw⟩
          · obtain ⟨e, he, hb, heq⟩ := wf_spec hoi hw
            have hl : listed.getD j false = true := heq ▸ hafter e he hb
            rw [h1 j x ψ hl hj]
            have hjt : (ps.take i)[j]? = some (x, ψ) := by rw [List.getElem?_take, if_pos hlt]; exact hj
            exact (lk_rev_at (ps.take i) E j hjt (fun i' y hy e => by
              obtain ⟨y1, y2⟩ := y; simp at e; subst e
              rw [List.getElem?_take] at hy
              split at hy
              · exact huniq i' j _ _ _ hy hj
              · cases hy)).symm
          · have hjn : listed.getD j false = false := by
              cases hg : listed.getD j false
              · rfl
              · obtain ⟨e, he, hb, heq⟩ := wf_spec hoj hw
                have := hcl j oj hoj hg e he hb
                rw [heq, hunf] at this; cases this
            rw [h2 x (fun k d' φ' hk hpk e => by
              subst e
              have := huniq k j _ _ _ hpk hj
              subst this; rw [hjn] at hk; cases hk)]
            exact (lk_rev x (ps.take i) E (fun y hy e => by
              obtain ⟨k, hk⟩ := List.getElem?_of_mem hy
              rw [List.getElem?_take] at hk
              split at hk
              · next hki =>
                obtain ⟨y1, y2⟩ := y; simp at e; subst e
                have := huniq k j _ _ _ hk hj
                omega
              · cases hk)).symm
        · rw [h2 x (fun k d' φ' _ hpk e => hex ⟨k, φ', e ▸ hpk⟩)]
          exact (lk_rev x (ps.take i) E (fun y hy e => by
            obtain ⟨k, hk⟩ := List.getElem?_of_mem hy
            rw [List.getElem?_take] at hk
            split at hk
            · exact hex ⟨k, y.2, by rw [hk, ← e]⟩
            · cases hk)).symm
      refine op_alone hoi (fun Q' hQ' => hstep.2 Q' E' [] hlook (fun a' w' hs' => hQ' a' w' ?_) a w hs)
      refine ih (c + 1) (listed.setIfInBounds i true) ((d, φ) :: E') a' w' (by simpa using hsz) (by omega) ?_ (fun j o ho hl e he hb => ?_) (fun j hj hj' => by rw [getD_set_ne _ (by omega)]; exact hut j hj hj') (fun k d' φ' hk hpk => ?_) (fun x hx => ?_) hs'
      · rw [Array.toList_setIfInBounds]
        have hfi : listed.toList[i]? = some false := by
          have h9 : i < listed.size := by omega
          simp [h9] at hunf ⊢; exact hunf
        rw [countP_set_true _ _ hfi, hc]
      · by_cases e' : i = j
        · subst e'
          have : o = oi := Option.some.inj (ho.symm.trans hoi)
          subst this
          exact getD_set_true (hafter e he hb)
        · rw [getD_set_ne _ e'] at hl
          exact getD_set_true (hcl j o ho hl e he hb)
      · by_cases e' : i = k
        · subst e'
          rw [hpi] at hpk; simp at hpk
          rw [hpk.1, hpk.2]; exact lk_same _ _ _
        · rw [getD_set_ne _ e'] at hk
          have hne : d ≠ d' := fun e => e' (huniq i k d φ φ' hpi (e ▸ hpk))
          rw [lk_other _ _ hne]; exact h1 k d' φ' hk hpk
      · have hne : d ≠ x := hx i d φ (by simp [hsz, his]) hpi
        rw [lk_other _ _ hne]
        refine h2 x (fun k d' φ' hk hpk => hx k d' φ' ?_ hpk)
        exact getD_set_true hk

theorem getD_replicate_false' (m j : Nat) : (Array.replicate m false).getD j false = false := by
  rcases Nat.lt_or_ge j m with h | h
  · simp [h]
  · simp [h]

def PlC (r : Option Nat) (P : Program) (ops : Array Oper) (B : Base) (H : Hp) (E : Env) (l : List Oper) (K : Env → Prop) : Prop := ∃ Ef, Pl r P ops B H E l Ef ∧ K Ef
theorem pn {K : Env → Prop} (k : K E) : PlC r P ops B H E [] K := ⟨E, .nil E, k⟩
theorem st_ {o : Oper} {d : Nat} {φ : AV} {l : List Oper} {K : Env → Prop} (hd : o.dst = some d) (h : ∀ (Q : Exit → Act → World → Prop) (E' : Env) (rest : List Oper), Agr E' E (o.looksAt ops) → St r P ops Q B ((d, φ) :: E') H rest → St r P ops Q B E' H (o :: rest))
    (k : PlC r P ops B H ((d, φ) :: E) l K) : PlC r P ops B H E (o :: l) K := ⟨k.choose, .cons ⟨hd, fun Q E' rest hx => h Q E' rest (agr_of hx)⟩ k.choose_spec.1, k.choose_spec.2⟩
def gif (c : Bool) (φ : AV) : AV := bif c then φ else eqv undef
theorem gif_t {c b : Bool} {φ : AV} (h : c = b) : gif (c == b) φ = φ := by subst h; simp [gif]
theorem pk_and {x y z : Operand} {c e : Bool} (hc : lkO x E = bl c) (hy : lkO y E = gif (c == true) (bl e)) (hz : lkO z E = bl false) : lkO (if c then y else z) E = bl (c && e) := by
  cases c
  · exact hz
  · exact hy.trans (gif_t rfl)
theorem pk_or {x y z : Operand} {c e : Bool} (hc : lkO x E = bl c) (hz : lkO z E = gif (c == false) (bl e)) (hy : lkO y E = bl true) : lkO (if c then y else z) E = bl (c || e) := by
  cases c
  · exact hz.trans (gif_t rfl)
  · exact hy
/-- A guarded operation in such a region. -/
theorem sg_ {oo : Op} {ty : Nat} {pos : String} {af : Array Edge} {d i t : Nat} {φ : AV} {b c : Bool} {l : List Oper} {K : Env → Prop} (hdn : Nat.blt d B.nt = true) (hi : (ops[i]?).bind (·.dst) = some t) (hn : Nat.blt t B.nt = true) (hb : lk t E = bl c)
    (hl : t ∈ ({ dst := some d, op := oo, type := ty, pos := pos, after := af, guard := some (i, b) } : Oper).looksAt ops)
    (h : c = b → ∀ (Q : Exit → Act → World → Prop) (E' : Env) (rest : List Oper), Agr E' E (({ dst := some d, op := oo, type := ty, pos := pos, after := af, guard := some (i, b) } : Oper).looksAt ops) → St r P ops Q B ((d, φ) :: E') H rest → St r P ops Q B E' H ({ dst := some d, op := oo, type := ty, pos := pos, after := af, guard := none } :: rest))
    (k : PlC r P ops B H ((d, gif (c == b) φ) :: E) l K) : PlC r P ops B H E ({ dst := some d, op := oo, type := ty, pos := pos, after := af, guard := some (i, b) } :: l) K := ⟨k.choose, .cons ⟨rfl, fun Q E' rest hx kk => by
  have hb' : lk t E' = bl c := (hx t hl).trans hb
  by_cases hcb : c = b
  · subst hcb
    exact gy hi hn hb' rfl (h rfl Q E' rest (agr_of hx) (by simpa [gif] using kk))
  · have hc : c = !b := by cases b <;> cases c <;> simp_all
    have h2 : (c == b) = false := by simp [hcb]
    refine gn hi hn hb' hc rfl hdn ?_
    rw [h2] at kk
    exact kk⟩ k.choose_spec.1, k.choose_spec.2⟩

theorem gif_t2 {c b c' b' : Bool} {φ : AV} (h : c = b) (h' : c' = b') : gif ((c == b) && (c' == b')) φ = φ := by subst h; subst h'; simp [gif]
theorem gif_and {c b g : Bool} {φ : AV} (h : c = b) : gif ((c == b) && g) φ = gif g φ := by subst h; cases c <;> rfl
/-- A guard within a guard. -/
theorem sg2_ {oo : Op} {ty : Nat} {pos : String} {af : Array Edge} {d i t : Nat} {φ : AV} {b c b1 c1 : Bool} {l : List Oper} {K : Env → Prop} (hdn : Nat.blt d B.nt = true) (hi : (ops[i]?).bind (·.dst) = some t) (hn : Nat.blt t B.nt = true) (hb : lk t E = gif (c1 == b1) (bl c))
    (hl : t ∈ ({ dst := some d, op := oo, type := ty, pos := pos, after := af, guard := some (i, b) } : Oper).looksAt ops)
    (h : c1 = b1 → c = b → ∀ (Q : Exit → Act → World → Prop) (E' : Env) (rest : List Oper), Agr E' E (({ dst := some d, op := oo, type := ty, pos := pos, after := af, guard := some (i, b) } : Oper).looksAt ops) → St r P ops Q B ((d, φ) :: E') H rest → St r P ops Q B E' H ({ dst := some d, op := oo, type := ty, pos := pos, after := af, guard := none } :: rest))
    (k : PlC r P ops B H ((d, gif ((c1 == b1) && (c == b)) φ) :: E) l K) : PlC r P ops B H E ({ dst := some d, op := oo, type := ty, pos := pos, after := af, guard := some (i, b) } :: l) K := ⟨k.choose, .cons ⟨rfl, fun Q E' rest hx kk => by
  have hb' : lk t E' = gif (c1 == b1) (bl c) := (hx t hl).trans hb
  by_cases h1 : c1 = b1
  · subst h1
    simp only [beq_self_eq_true, Bool.true_and] at kk
    have hb2 : lk t E' = bl c := hb'.trans (gif_t rfl)
    by_cases hcb : c = b
    · subst hcb
      exact gy hi hn hb2 rfl (h rfl rfl Q E' rest (agr_of hx) (by simpa [gif] using kk))
    · have hc : c = !b := by revert hcb; cases b <;> cases c <;> simp
      have h2 : (c == b) = false := by simp [hcb]
      refine gn hi hn hb2 hc rfl hdn ?_
      rw [h2] at kk
      exact kk
  · have h2 : (c1 == b1) = false := by simp [h1]
    rw [h2] at hb' kk
    exact gu hi hn hb' rfl hdn kk⟩ k.choose_spec.1, k.choose_spec.2⟩

/-- A REGION THAT DRAWS ITS ORDER. -/
theorem dr {id nh : Nat} (ms : List Nat) {l : List Oper} (hm : P.follows .mixedOrders = true) (hB : drawB l.toArray nh ms = true) (hpt : PlC r P l.toArray B H E (l.take nh) (fun Ef => St r P l.toArray Q B Ef H (l.drop nh))) : Ct r P Q B E H (.region id l.toArray true) := fun a w hs => by
  obtain ⟨Ef, hp, ht⟩ := hpt
  have hok := drawOK_of hB
  obtain ⟨ps, h1, h2, h3⟩ := hp.list
  have hnl : nh ≤ l.length := by simpa using hok.le
  refine wpIn_region_any hm ?_
  have hlen : ps.length = nh := by rw [h1]; simp; omega
  refine any_plan hok hlen (fun i o hi ho => h3 i o (by rw [List.getElem?_take, if_pos hi]; simpa using ho)) (by rw [← h2]; simpa using ht) l.toArray.size 0 _ E a _ (by simp) (by simp) ?_ (fun j o ho hl => ?_) (fun j hj hj' => ?_) (fun i d φ hl => ?_) (fun x _ => rfl) (hs.drew _)
  · simp [List.countP_replicate]
  · rw [getD_replicate_false'] at hl; cases hl
  · simp at hj'; simp [hj']
  · rw [getD_replicate_false'] at hl; cases hl
end
end AL
