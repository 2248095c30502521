/- The abstract logic. Own texts of this claim, packed: ALTab. -/
import Derived.Test.YtolpjmllmlahfaaDoorX02
/- The abstract logic, part 8c: what is known of the world itself, carried in a slot that nothing writes. Under no conditions: general lemmas. -/

set_option linter.unusedVariables false
namespace AL
open Go
attribute [local semireducible] emp osl

/-- Both. -/
def both (φ ψ : AV) : AV := ⟨fun w F v => φ.p w F v ∧ ψ.p w F v, fun hF hw h => ⟨φ.st hF hw h.1, ψ.st hF hw h.2⟩⟩
/-- Says nothing of the value. -/
class Amb (ψ : AV) : Prop where
  amb : ∀ {w F v} (u : Value), ψ.p w F v → ψ.p w F u
section
variable {P : Program} {r : Option Nat} {ops : Array Oper} {Q : Exit → Act → World → Prop} {rest : List Oper} {B : Base} {E : Env} {H : Hp} {ψ : AV} [hA : Amb ψ]
theorem Sim.tbI {a : Act} {w : World} {φ : AV} (h : Sim B E H a w) (t t' : Nat) (hx : lk t E = both φ ψ) : Sim B ((t, φ) :: (t', ψ) :: E) H a w := by
  obtain ⟨F, Ds, hs⟩ := h
  have h1 := hs.env t
  rw [hx] at h1
  refine ⟨F, Ds, { hs with env := fun s => ?_ }⟩
  by_cases e : t = s
  · subst e; rw [lk_same]; exact h1.1
  · rw [lk_other _ _ e]
    by_cases e' : t' = s
    · subst e'; rw [lk_same]; exact hA.amb _ h1.2
    · rw [lk_other _ _ e']; exact hs.env s
theorem Sim.tbU {a : Act} {w : World} {φ : AV} (h : Sim B E H a w) (t t' : Nat) (hx : lk t E = φ) (ht : lk t' E = ψ) : Sim B ((t, both φ ψ) :: E) H a w := by
  obtain ⟨F, Ds, hs⟩ := h
  have h1 := hs.env t
  have h2 := hs.env t'
  rw [hx] at h1
  rw [ht] at h2
  refine ⟨F, Ds, { hs with env := fun s => ?_ }⟩
  by_cases e : t = s
  · subst e; rw [lk_same]; exact ⟨h1, hA.amb _ h2⟩
  · rw [lk_other _ _ e]; exact hs.env s
theorem tbI {φ : AV} {c : Code} (t t' : Nat) (hx : lk t E = both φ ψ) (k : Ct r P Q B ((t, φ) :: (t', ψ) :: E) H c) : Ct r P Q B E H c := fun a w hs => k a w (hs.tbI t t' hx)
theorem tbU {φ : AV} (t t' : Nat) (hx : lk t E = φ) (ht : lk t' E = ψ) (k : St r P ops Q B ((t, both φ ψ) :: E) H rest) : St r P ops Q B E H rest := fun a w hs => k a w (hs.tbU t t' hx ht)
theorem nwA {α : Type} {x : Exit} (key e n : Nat) (enc : α → List AV) (k : At Q x B E ((key, own (.slice none 0 0) e n enc []) :: H)) : At Q x B E H := fun a w hs => k a w (hs.newNil key e n enc)
end
/-- What is known of the world, among what is owned: nothing is owned by it. -/
def ambH (ψ : AV) : HA := ⟨fun _ => False, fun w F => ψ.p w F undef, fun hF hw h => ψ.st hF (fun b hb => hw b (.inl hb)) h⟩
section
variable {P : Program} {r : Option Nat} {ops : Array Oper} {Q : Exit → Act → World → Prop} {rest : List Oper} {B : Base} {E : Env} {H : Hp} {ψ : AV} [hA : Amb ψ]
variable {d ty : Nat} {pos : String} {af : Array Edge}
theorem tbH {c : Code} (t key : Nat) (hk : lkH key H = ambH ψ) (k : Ct r P Q B ((t, ψ) :: E) H c) : Ct r P Q B E H c := fun a w ⟨F, Ds, hs⟩ => by
  have h1 := hs.hp key
  rw [hk] at h1
  refine k a w ⟨F, Ds, { hs with env := fun s => ?_ }⟩
  by_cases e : t = s
  · subst e; rw [lk_same]; exact hA.amb _ h1
  · rw [lk_other _ _ e]; exact hs.env s
/-- A call of a function that wants to know of the world, and has no argument to tell it. -/
theorem calT {f : FuncId} {xs : List Operand} {φs : List AV} {φ : AV} {ts : Array TypeId} (hx : OpdsIs E xs φs) (hf : Fn P f φs [(998, ambH ψ)] (ι := Unit) (fun _ _ => φ) (fun _ => [])) (he : Ent P f) (t : Nat) (ht : lk t E = ψ) (hk : lkH 998 H = emp)
    (k : St r P ops Q B ((d, φ) :: E) H rest) (hn : Nat.blt d B.nt = true := by rfl) :
    St r P ops Q B E H ({ dst := some d, op := .call { callee := .value (.func f), args := xs.toArray, argTypes := ts }, type := ty, pos := pos, after := af, guard := none } :: rest) := fun a w hs => by
  obtain ⟨F, Ds, hs⟩ := hs
  have h1 := hs.env t
  rw [ht] at h1
  have hs2 : Sim B E ((998, ambH ψ) :: H) a w := ⟨F, Ds, hs.upd 998 (ambH ψ) (Nat.le_refl _) rfl rfl rfl (fun _ _ _ => rfl) (fun b hb => hb.elim) (hA.amb _ h1)⟩
  refine cal (Hi := [(998, ambH ψ)]) hx hf he ⟨by rw [lkH_same]; exact ⟨rfl, id⟩, trivial⟩ (fun N _ => ?_) hn a w hs2
  intro a w hs3
  refine k a w (hs3.less (fun _ _ _ _ h => h) (fun j => ?_))
  show (∀ b, (lkH j H).foot b → _) ∧ _
  by_cases e : 998 = j
  · subst e; rw [hk]; exact ⟨fun b h => h.elim, fun _ => trivial⟩
  · have : lkH j (outH [] [(998, ambH ψ)] ((998, ambH ψ) :: H)) = lkH j H := by
      show lkH j ((998, emp) :: (998, ambH ψ) :: H) = _
      rw [lkH_other _ _ e, lkH_other _ _ e]
    rw [this]; exact ⟨fun _ h => h, fun h => h⟩
end
/-- A contract that hands over an own slice, under another key. -/
theorem rekey {α : Type} {P : Program} {f : FuncId} {args : List AV} {a e n : Nat} {enc : α → List AV} {xs : List α} (b : Nat) (h : Fn P f args [] (fun _ v => osl a v) (fun v => [(a, own v e n enc xs)])) : Fn P f args [] (fun _ v => osl b v) (fun v => [(b, own v e n enc xs)]) :=
  fun w F vs h1 h2 h3 => (h w F vs h1 h2 h3).mono (fun en w' hq => by
    obtain ⟨i, v, F', he, hl⟩ := hq
    have hlk : ∀ (c k : Nat), lkH k [(c, own i e n enc xs)] = if c = k then own i e n enc xs else emp := fun c k => by
      by_cases hc : c = k
      · subst hc; rw [lkH_same, if_pos rfl]
      · rw [lkH_other _ _ hc, if_neg hc]; rfl
    have hemp : ∀ (x : Nat), ¬ emp.foot x := fun x hx => hx.elim
    have hft : ∀ c x, footH [(c, own i e n enc xs)] x ↔ (own i e n enc xs).foot x := fun c x => by
      constructor
      · rintro ⟨k, hk⟩
        rw [hlk] at hk
        split at hk
        · exact hk
        · exact absurd hk (hemp x)
      · intro hx
        exact ⟨c, by rw [hlk, if_pos rfl]; exact hx⟩
    have hpa := hl.ok.hp a
    have hFa := hl.ok.hF a
    have hNa := hl.ok.hN a
    rw [hlk, if_pos rfl] at hpa hFa hNa
    refine ⟨i, v, F', he, { hl with
      res := hl.res
      ok := ⟨fun k => ?_, fun k x hx => ?_, fun k k' x hne hx hx' => ?_, fun k x hx => ?_⟩
      foot := fun x hx => hl.foot x ((hft a x).2 ((hft b x).1 hx)) }⟩
    · rw [hlk]; split
      · exact hpa
      · trivial
    · rw [hlk] at hx; split at hx
      · exact hFa x hx
      · exact absurd hx (hemp x)
    · rw [hlk] at hx hx'
      split at hx
      · next e1 =>
        split at hx'
        · next e2 => exact hne (e1.symm.trans e2)
        · exact absurd hx' (hemp x)
      · exact absurd hx (hemp x)
    · rw [hlk] at hx; split at hx
      · exact hNa x hx
      · exact absurd hx (hemp x))
instance (φ ψ : AV) [h : One φ] : One (both φ ψ) := ⟨fun hp => h.one hp.1⟩
end AL
