/- The abstract logic, part 11e: arrays. Under no conditions: general lemmas. -/
import Derived.Test.YtolpjmllmlahfaaDoorALOps7
set_option linter.unusedVariables false
namespace AL
open Go
attribute [local semireducible] any eqv agg tup fp ptr sl exi andp above emp cell own obj osl eptr clo pf mp mpv

theorem fill_mono {p q : Nat → Option (Nat × Nat)} (h : ∀ i x, p i = some x → q i = some x) : ∀ (parts : List (Nat × Value)) (cells r : Array Value), Instr.fill p cells parts = some r → Instr.fill q cells parts = some r
  | [], _, _, hf => hf
  | (i, v) :: rest, cells, r, hf => by
    unfold Instr.fill at hf ⊢
    cases hp : p i with
    | none => rw [hp] at hf; cases hf
    | some x =>
      rw [hp] at hf; rw [h i x hp]
      obtain ⟨o, s⟩ := x
      dsimp only at hf ⊢
      split
      · next hc => rw [if_pos hc] at hf; cases hf
      · next hc => rw [if_neg hc] at hf; exact fill_mono h rest _ r hf
def arrB (P : Program) (T : Nat) (pl : List (Nat × Nat)) : Bool :=
  match P.underlying T with
  | some (.array _ e) => match P.info? e with
    | some i => (List.range pl.length).all fun j => match pl[j]? with
      | some (o, s) => Nat.beq o (j * i.size) && Nat.beq s i.size
      | none => false
    | none => false
  | _ => false
theorem arrT_of {P : Program} {T : Nat} {pl : List (Nat × Nat)} {z : List Value} (h : arrB P T pl = true) (hz : (P.info? T).map (fun i => i.zero.map (fun v => v.cells)) = some (some z.toArray)) : StructT P T pl z := by
  refine ⟨fun w parts cells hf => ?_⟩
  obtain ⟨zv, hzv, hzc⟩ := (zeroIs_of hz).z
  unfold arrB at h
  cases hu : P.underlying T with
  | none => simp [hu] at h
  | some D =>
    rw [hu] at h
    cases D <;> simp at h
    case array n e =>
    cases hi : P.info? e with
    | none => simp [hi] at h
    | some i =>
      rw [hi] at h
      dsimp only at h
      have hsz : (Go.sizeOf e).run P w = .ok i.size w := by simp [Go.sizeOf, typeInfo, program, Sem.run, hi]
      have hf' := fill_mono (q := fun j => some (j * i.size, i.size)) (fun j x hx => by
        have hj : j < pl.length := (List.getElem?_eq_some_iff.1 hx).1
        have h1 := (List.all_eq_true.1 h) j (List.mem_range.2 hj)
        rw [hx] at h1
        obtain ⟨o, s⟩ := x
        simp at h1
        simp [h1.1, h1.2]) _ _ _ hf
      simp only [Instr.build, Sem.run_bind, hzv, Result.andThen_ok, run_underlying hu, hzc, hsz, hf']
      rfl
section
variable {P : Program} {r : Option Nat} {ops : Array Oper} {Q : Exit → Act → World → Prop} {rest : List Oper} {B : Base} {E : Env} {H : Hp} {a : Act} {w : World}
variable {d ty : Nat} {pos : String} {af : Array Edge} {ι : Type}
theorem o_iPA {T m e key b o j : Nat} {x i : Operand} (h : Sim B E H a w) (hx : lkO x E = ptr key b o) (hi : lkO i E = int (j : Int)) (hT : P.underlying T = some (.array m e)) (he : IsOne P e) (hj : Nat.blt j m = true)
    (k : ∀ a w, Sim B ((d, ptr key b (o + j)) :: E) H a w → wl r P ops Q rest a w) (hn : Nat.blt d B.nt = true := by rfl) :
    wl r P ops Q ({ dst := some d, op := .indexAddr T x i, type := ty, pos := pos, after := af, guard := none } :: rest) a w :=
  op_val h rfl rfl hn (fun _ => nofun) (fun F Ds hs => by
    have h1 := hs.opd x
    have h2 := hs.opd i
    rw [hx] at h1
    rw [hi] at h2
    have h1 : a.eval x = .pointer (some ⟨b, o, none⟩) := h1
    have h2 : a.eval i = .int .i64 (j : Int) := h2
    have hlt : (j : Int) < (m : Int) := by
      have : j < m := by simpa using hj
      omega
    refine ⟨.pointer (some ⟨b, o + j, none⟩), ?_, rfl⟩
    have hsz := he.size w
    have hjm : j < m := by omega
    by_cases ht : m ≤ 1 <;> simp [execOp, h1, h2, Instr.indexAt, asIntOf, run_underlying hT, hjm, Instr.sureAddr, add_mk, hsz, ht]) k
/-- An own slice put into an own slice. -/
theorem o_sOO {α β : Type} {T n key i j et k2 e2 n2 : Nat} {v u : Value} {enc : α → List AV} {xs : List α} {enc2 : β → List AV} {xs2 : List β} {x z : Operand} {y y' : α} (h : Sim B E H a w) (hx : lkO x E = eptr key v n i j) (hk : lkH key H = own v et n enc xs)
    (hz : lkO z E = eqv u) (hk2 : lkH k2 H = own u e2 n2 enc2 xs2) (ht : IsOne P T) (hy : xs[i]? = some y) (hj : Nat.blt j n = true) (he : enc y' = (enc y).take j ++ [eqv u] ++ (enc y).drop (j + 1))
    (k : ∀ a w, Sim B E ((key, own v et n enc (xs.set i y')) :: H) a w → wl r P ops Q rest a w) :
    wl r P ops Q ({ dst := none, op := .store T x z, type := ty, pos := pos, after := af, guard := none } :: rest) a w := by
  obtain ⟨F, Ds, hs⟩ := h
  have h1 : u.oneCell' = true := by
    have h := hs.hp k2
    rw [hk2] at h
    exact own_one h
  exact o_storeO (h1 := ⟨fun {w F u'} hu => by have hu : u' = u := hu; subst hu; exact h1⟩) ⟨F, Ds, hs⟩ hx hk hz ht hy hj he k
end
end AL
