/- The abstract logic, part 11d: own slices held by own slices. Under no conditions: general lemmas. -/
import Derived.Test.YtolpjmllmlahfaaDoorALOps9
set_option linter.unusedVariables false
namespace AL
open Go
attribute [local semireducible] any eqv agg tup fp ptr sl exi andp above emp cell own obj osl eptr clo pf mp mpv

/-- Own slices, one for each value of a list; 'hole': the one that is out. -/
def bigown {α : Type} (us : List Value) (e n : Nat) (enc : α → List AV) (xss : List (List α)) (hole : Option Nat) : HA :=
  ⟨fun b => ∃ i u, us[i]? = some u ∧ hole ≠ some i ∧ ownB u b,
   fun w F => us.length = xss.length ∧ (∀ (i : Nat) (u : Value) (xs : List α), us[i]? = some u → xss[i]? = some xs → hole ≠ some i → (own u e n enc xs).p w F) ∧
     ∀ (i j : Nat) (u v : Value), i ≠ j → us[i]? = some u → us[j]? = some v → hole ≠ some i → hole ≠ some j → ∀ b, ownB u b → ¬ ownB v b,
   fun hF hw ⟨h1, h2, h3⟩ => ⟨h1, fun i u xs hu hx hh => HA.st _ hF (fun b hb => hw b (hb.imp id (fun ho => ⟨i, u, hu, hh, ho⟩))) (h2 i u xs hu hx hh), h3⟩⟩

section
variable {B : Base} {E : Env} {H : Hp} {a : Act} {w : World}
/-- One own slice taken out. -/
theorem Sim.takeB {α : Type} {us : List Value} {e n : Nat} {enc : α → List AV} {xss : List (List α)} {u : Value} {xs : List α} (hs : Sim B E H a w) (key key' i : Nat) (hk : lkH key H = bigown us e n enc xss none) (hk' : lkH key' H = emp) (hne : key' ≠ key)
    (hu : us[i]? = some u) (hx : xss[i]? = some xs) : Sim B E ((key', own u e n enc xs) :: (key, bigown us e n enc xss (some i)) :: H) a w := by
  obtain ⟨F, Ds, h⟩ := hs
  have l1 : lkH key' ((key', own u e n enc xs) :: (key, bigown us e n enc xss (some i)) :: H) = own u e n enc xs := lkH_same _ _ _
  have l2 : lkH key ((key', own u e n enc xs) :: (key, bigown us e n enc xss (some i)) :: H) = bigown us e n enc xss (some i) := by rw [lkH_other _ _ hne, lkH_same]
  have l3 : ∀ k, k ≠ key' → k ≠ key → lkH k ((key', own u e n enc xs) :: (key, bigown us e n enc xss (some i)) :: H) = lkH k H := fun k h1 h2 => by rw [lkH_other _ _ (Ne.symm h1), lkH_other _ _ (Ne.symm h2)]
  have hp0 := h.hp key
  rw [hk] at hp0
  obtain ⟨g1, g2, g3⟩ := hp0
  have f1 : ∀ b, ownB u b → (lkH key H).foot b := fun b hb => by rw [hk]; exact ⟨i, u, hu, by simp, hb⟩
  have f2 : ∀ b, (bigown us e n enc xss (some i)).foot b → (lkH key H).foot b := fun b ⟨j, v, hj, _, hb⟩ => by rw [hk]; exact ⟨j, v, hj, by simp, hb⟩
  have f0 : ∀ k b, (lkH k ((key', own u e n enc xs) :: (key, bigown us e n enc xss (some i)) :: H)).foot b → ∃ k0, (lkH k0 H).foot b ∧ (k ≠ key' → k ≠ key → k0 = k) ∧ (k = key' ∨ k = key → k0 = key) := fun k b hb => by
    by_cases e1 : k = key'
    · subst e1; rw [l1] at hb; exact ⟨key, f1 b hb, fun h => absurd rfl h, fun _ => rfl⟩
    · by_cases e2 : k = key
      · subst e2; rw [l2] at hb; exact ⟨k, f2 b hb, fun _ _ => rfl, fun _ => rfl⟩
      · rw [l3 k e1 e2] at hb; exact ⟨k, hb, fun _ _ => rfl, fun h => h.elim (fun h => absurd h e1) (fun h => absurd h e2)⟩
  have hdis : ∀ b, ownB u b → ¬ (bigown us e n enc xss (some i)).foot b := fun b hb ⟨j, v, hj, hh, hb'⟩ => g3 i j u v (fun e => hh (by rw [e])) hu hj (by simp) (by simp) b hb hb'
  refine ⟨F, Ds, { h with
    hp := fun k => ?_
    hF := fun k b hb => by obtain ⟨k0, h0, _⟩ := f0 k b hb; exact h.hF k0 b h0
    hd := fun k k2 b hkk hb hb2 => ?_
    hN := fun k b hb => by obtain ⟨k0, h0, _⟩ := f0 k b hb; exact h.hN k0 b h0
    dD := fun D hD => ?_ }⟩
  · by_cases e1 : k = key'
    · subst e1; rw [l1]; exact g2 i u xs hu hx (by simp)
    · by_cases e2 : k = key
      · subst e2; rw [l2]; exact ⟨g1, fun j v ys hj hy _ => g2 j v ys hj hy (by simp), fun j j' v v' hjj hj hj' _ _ => g3 j j' v v' hjj hj hj' (by simp) (by simp)⟩
      · rw [l3 k e1 e2]; exact h.hp k
  · obtain ⟨k0, h0, p1, p2⟩ := f0 k b hb
    obtain ⟨k1, h1, q1, q2⟩ := f0 k2 b hb2
    by_cases e : k0 = k1
    · -- both in the big one
      by_cases a1 : k = key'
      · subst a1; rw [l1] at hb
        by_cases b2 : k2 = key
        · subst b2; rw [l2] at hb2; exact hdis b hb hb2
        · have := q1 (Ne.symm hkk) b2
          have h5 := p2 (.inl rfl)
          exact b2 (by omega)
      · by_cases a2 : k = key
        · subst a2; rw [l2] at hb
          by_cases b1 : k2 = key'
          · subst b1; rw [l1] at hb2; exact hdis b hb2 hb
          · have := q1 b1 (Ne.symm hkk)
            have h5 := p2 (.inr rfl)
            omega
        · have h5 := p1 a1 a2
          by_cases b1 : k2 = key' ∨ k2 = key
          · have := q2 b1; omega
          · have := q1 (fun h => b1 (.inl h)) (fun h => b1 (.inr h)); omega
    · exact h.hd k0 k1 b e h0 h1
  · obtain ⟨d1, d2, d3, d4⟩ := h.dD D hD
    exact ⟨d1, d2, d3, fun k hk0 => by obtain ⟨k0, h0, _⟩ := f0 k D hk0; exact d4 k0 h0⟩
/-- An own slice given back. -/
theorem Sim.giveB {α : Type} {us : List Value} {e n : Nat} {enc : α → List AV} {xss : List (List α)} {u : Value} {xs : List α} (hs : Sim B E H a w) (key key' i : Nat) (hk : lkH key H = bigown us e n enc xss (some i)) (hk' : lkH key' H = own u e n enc xs) (hne : key' ≠ key) (hi : i < us.length) :
    Sim B E ((key', emp) :: (key, bigown (us.set i u) e n enc (xss.set i xs) none) :: H) a w := by
  obtain ⟨F, Ds, h⟩ := hs
  have l1 : lkH key' ((key', emp) :: (key, bigown (us.set i u) e n enc (xss.set i xs) none) :: H) = emp := lkH_same _ _ _
  have l2 : lkH key ((key', emp) :: (key, bigown (us.set i u) e n enc (xss.set i xs) none) :: H) = bigown (us.set i u) e n enc (xss.set i xs) none := by rw [lkH_other _ _ hne, lkH_same]
  have l3 : ∀ k, k ≠ key' → k ≠ key → lkH k ((key', emp) :: (key, bigown (us.set i u) e n enc (xss.set i xs) none) :: H) = lkH k H := fun k h1 h2 => by rw [lkH_other _ _ (Ne.symm h1), lkH_other _ _ (Ne.symm h2)]
  have hp0 := h.hp key
  rw [hk] at hp0
  obtain ⟨g1, g2, g3⟩ := hp0
  have hp1 := h.hp key'
  rw [hk'] at hp1
  have at_ : ∀ (j : Nat) (v : Value), (us.set i u)[j]? = some v → (j = i ∧ v = u) ∨ (j ≠ i ∧ us[j]? = some v) := fun j v hj => by
    by_cases e1 : i = j
    · subst e1; rw [List.getElem?_set_self hi] at hj; exact .inl ⟨rfl, (Option.some.inj hj).symm⟩
    · rw [List.getElem?_set_ne e1] at hj; exact .inr ⟨Ne.symm e1, hj⟩
  have fo : ∀ (j : Nat) (v : Value) (b : Nat), j ≠ i → us[j]? = some v → ownB v b → (lkH key H).foot b := fun j v b hj hv hb => by rw [hk]; exact ⟨j, v, hv, fun e => hj (Option.some.inj e).symm, hb⟩
  have f2 : ∀ b, (bigown (us.set i u) e n enc (xss.set i xs) none).foot b → (lkH key' H).foot b ∨ (lkH key H).foot b := fun b ⟨j, v, hj, _, hb⟩ => by
    rcases at_ j v hj with ⟨_, rfl⟩ | ⟨h1, h2⟩
    · left; rw [hk']; exact hb
    · right; exact fo j v b h1 h2 hb
  have f0 : ∀ k b, (lkH k ((key', emp) :: (key, bigown (us.set i u) e n enc (xss.set i xs) none) :: H)).foot b → ∃ k0, (lkH k0 H).foot b ∧ k ≠ key' ∧ (k ≠ key → k0 = k) ∧ (k = key → k0 = key ∨ k0 = key') := fun k b hb => by
    by_cases e1 : k = key'
    · subst e1; rw [l1] at hb; exact hb.elim
    · by_cases e2 : k = key
      · subst e2; rw [l2] at hb
        rcases f2 b hb with h1 | h1
        · exact ⟨key', h1, e1, fun h => absurd rfl h, fun _ => .inr rfl⟩
        · exact ⟨k, h1, e1, fun _ => rfl, fun _ => .inl rfl⟩
      · rw [l3 k e1 e2] at hb; exact ⟨k, hb, e1, fun _ => rfl, fun h => absurd h e2⟩
  refine ⟨F, Ds, { h with
    hp := fun k => ?_
    hF := fun k b hb => by obtain ⟨k0, h0, _⟩ := f0 k b hb; exact h.hF k0 b h0
    hd := fun k k2 b hkk hb hb2 => ?_
    hN := fun k b hb => by obtain ⟨k0, h0, _⟩ := f0 k b hb; exact h.hN k0 b h0
    dD := fun D hD => ?_ }⟩
  · by_cases e1 : k = key'
    · subst e1; rw [l1]; trivial
    · by_cases e2 : k = key
      · subst e2; rw [l2]
        refine ⟨by simpa using g1, fun j v ys hj hy _ => ?_, fun j j' v v' hjj hj hj' _ _ b hb hb' => ?_⟩
        · rcases at_ j v hj with ⟨rfl, rfl⟩ | ⟨h1, h2⟩
          · rw [List.getElem?_set_self (by omega)] at hy
            have : xs = ys := Option.some.inj hy
            subst this; exact hp1
          · rw [List.getElem?_set_ne (Ne.symm h1)] at hy
            exact g2 j v ys h2 hy (fun e => h1 (Option.some.inj e).symm)
        · rcases at_ j v hj with ⟨rfl, rfl⟩ | ⟨h1, h2⟩
          · rcases at_ j' v' hj' with ⟨rfl, _⟩ | ⟨h3, h4⟩
            · exact hjj rfl
            · exact h.hd key' k b hne (by rw [hk']; exact hb) (fo j' v' b h3 h4 hb')
          · rcases at_ j' v' hj' with ⟨rfl, rfl⟩ | ⟨h3, h4⟩
            · exact h.hd key' k b hne (by rw [hk']; exact hb') (fo j v b h1 h2 hb)
            · exact g3 j j' v v' hjj h2 h4 (fun e => h1 (Option.some.inj e).symm) (fun e => h3 (Option.some.inj e).symm) b hb hb'
      · rw [l3 k e1 e2]; exact h.hp k
  · obtain ⟨k0, h0, a1, p1, p2⟩ := f0 k b hb
    obtain ⟨k1, h1, b1, q1, q2⟩ := f0 k2 b hb2
    by_cases e : k0 = k1
    · by_cases a2 : k = key
      · have := q1 (fun h => hkk (a2.trans h.symm))
        rcases p2 a2 with h5 | h5 <;> omega
      · have h5 := p1 a2
        by_cases b2 : k2 = key
        · rcases q2 b2 with h6 | h6 <;> omega
        · have := q1 b2; omega
    · exact h.hd k0 k1 b e h0 h1
  · obtain ⟨d1, d2, d3, d4⟩ := h.dD D hD
    exact ⟨d1, d2, d3, fun k hk0 => by obtain ⟨k0, h0, _⟩ := f0 k D hk0; exact d4 k0 h0⟩
/-- Nil slices are own ones. -/
theorem Sim.nilsB {α : Type} (h : Sim B E H a w) (key m e n : Nat) (enc : α → List AV) : Sim B E ((key, bigown (List.replicate m (.slice none 0 0)) e n enc (List.replicate m []) none) :: H) a w := by
  obtain ⟨F, Ds, h⟩ := h
  have hu : ∀ (i : Nat) (u : Value), (List.replicate m (Value.slice none 0 0))[i]? = some u → u = .slice none 0 0 := fun i u hi => by
    rw [List.getElem?_replicate] at hi
    split at hi
    · exact (Option.some.inj hi).symm
    · cases hi
  refine ⟨F, Ds, h.upd key _ (Nat.le_refl _) rfl rfl rfl (fun _ _ _ => rfl) (fun b hb => ?_) ⟨by simp, fun i u xs hi hx _ => ?_, fun i j u v _ hi _ _ _ b hb => ?_⟩⟩
  · obtain ⟨i, u, hi, _, hb⟩ := hb
    have := hu i u hi
    subst this; exact hb.elim
  · have := hu i u hi
    subst this
    have : xs = [] := by
      rw [List.getElem?_replicate] at hx
      split at hx
      · exact (Option.some.inj hx).symm
      · cases hx
    subst this
    exact ⟨Nat.zero_le _, [], ⟨by simp, .inl ⟨rfl, rfl⟩⟩, Els.nil _ _ _ _⟩
  · have := hu i u hi
    subst this; exact hb.elim
abbrev eqvE : Value → List AV := fun u => [eqv u]
/-- Own slices held by an own slice, no more written. -/
theorem Sim.freezeB {α : Type} {us : List Value} {e n e' : Nat} {enc : α → List AV} {xss : List (List α)} {v : Value} (h : Sim B E H a w) (key keyO : Nat) (hk : lkH key H = bigown us e n enc xss none) (hO : lkH keyO H = own v e' 1 eqvE us) (hne : keyO ≠ key) :
    Sim B E ((keyO, own v e' 1 (fun xs => [sl n enc xs]) xss) :: (key, emp) :: H) a w := by
  obtain ⟨F, Ds, h⟩ := h
  have h0 := h.freeze key
  have hl : lkH keyO ((key, emp) :: H) = own v e' 1 eqvE us := by rw [lkH_other _ _ (Ne.symm hne)]; exact hO
  have hb := h.hp key
  rw [hk] at hb
  obtain ⟨g1, g2, _⟩ := hb
  refine ⟨_, Ds, h0.upd keyO _ (Nat.le_refl _) rfl rfl rfl (fun _ _ _ => rfl) (fun x hx => ⟨.inl (by rw [hl]; exact hx), ?_⟩) ?_⟩
  · exact (h0.hN keyO x (by rw [hl]; exact hx)).1
  · have h1 := h0.hp keyO
    rw [hl] at h1
    obtain ⟨hm, vs, hr, he⟩ := h1
    rw [g1] at hm hr
    refine ⟨hm, vs, hr, by rw [he.len, g1], fun i xs hi => ?_⟩
    have hil : i < us.length := by rw [g1]; exact (List.getElem?_eq_some_iff.1 hi).1
    obtain ⟨u, hu⟩ : ∃ u, us[i]? = some u := ⟨us[i], List.getElem?_eq_getElem hil⟩
    have h2 := he.el i u hu
    have h3 := own_sl (g2 i u xs hu hi (by simp))
    have h3 : (sl n enc xs).p w (fun b => F b ∨ (lkH key H).foot b) u := (sl n enc xs).st (fun b hb => hb.imp id (fun hb => by rw [hk]; exact ⟨i, u, hu, by simp, hb⟩)) (fun _ _ => rfl) h3
    match hv : (vs.drop (i * 1)).take 1, h2 with
    | [z], h2 =>
      have h4 : z = u := h2.1
      subst h4
      exact ⟨h3, trivial⟩
end
end AL
