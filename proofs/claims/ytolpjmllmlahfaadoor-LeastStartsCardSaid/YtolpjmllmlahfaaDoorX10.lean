/- The abstract logic. Own texts of this claim, packed: ALPair. -/
import Derived.Test.YtolpjmllmlahfaaDoorX06
/- The abstract logic, part 12: own slices in the last cell of an own slice's elements. Under no conditions: general lemmas. -/

set_option linter.unusedVariables false
namespace AL
open Go
attribute [local semireducible] any eqv agg tup fp ptr sl exi andp above emp cell own obj osl eptr clo pf mp mpv
section
variable {P : Program} {r : Option Nat} {ops : Array Oper} {Q : Exit → Act → World → Prop} {rest : List Oper} {B : Base} {E : Env} {H : Hp} {a : Act} {w : World}
variable {d ty : Nat} {pos : String} {af : Array Edge}
/-- The second part, as a slice. -/
def sv2 {β : Type} (p : β × Value) : Value := sv p.2
theorem zip_parts {α β : Type} : ∀ (l : List (α × β)), (l.map Prod.fst).zip (l.map Prod.snd) = l
  | [] => rfl
  | p :: l => by simp [zip_parts l]
/-- What a key holds, shadowed. -/
theorem Sim.noShadow {key : Nat} {x y : HA} (h : Sim B E ((key, x) :: (key, y) :: H) a w) : Sim B E ((key, x) :: H) a w :=
  h.less (fun _ _ _ _ h => h) (fun t => by
    by_cases e : key = t
    · subst e; rw [lkH_same, lkH_same]; exact ⟨fun _ h => h, fun h => h⟩
    · rw [lkH_other _ _ e, lkH_other _ _ e, lkH_other _ _ e]; exact ⟨fun _ h => h, fun h => h⟩)
/-- The slot set last, known otherwise. -/
theorem kd {φ φ' : AV} (h : ∀ {w F v}, φ.p w F v → φ'.p w F v) (k : St r P ops Q B ((d, φ') :: E) H rest) : St r P ops Q B ((d, φ) :: E) H rest := fun a w hs => k a w (hs.less (fun t _ _ _ hv => by
  by_cases e : d = t
  · subst e; rw [lk_same] at hv ⊢; exact h hv
  · rw [lk_other _ _ e] at hv ⊢; exact hv) (fun t => ⟨fun _ h => h, fun h => h⟩))
/-- append to nil: a new slice of the activation's own. -/
theorem apO {α β : Type} {T e n by_ : Nat} {z : List Value} {enc : α → List AV} {enc' : β → List AV} {zs : List α} {ys : List β} {x : Operand} (key : Nat)
    (hx : lkO x E = sl n enc' ys) (hz : ys.map enc' = zs.map enc) (hT : MakeT P T e n by_ z) [h1 : ∀ y, OneAll (enc y)] (hm : ys.length ≤ maxL) (hby : ys.length * by_ ≤ maxL)
    (k : ∀ v, St r P ops Q B ((d, osl key v) :: E) ((key, own v e n enc zs) :: H) rest) (hn : Nat.blt d B.nt = true := by rfl) :
    St r P ops Q B E H ({ dst := some d, op := .call { callee := .builtin .append, args := #[.const (.slice none 0 0), x], argTypes := #[T, T] }, type := ty, pos := pos, after := af, guard := none } :: rest) :=
  nw key e n enc (ap (key := key) (xs := []) (zs := zs) (v := .slice none 0 0) (fun h => h) (lkH_same _ _ _) hx hz hT (by simpa using hm) (by simpa using hby) (fun v a w hs => k v a w hs.noShadow) hn)
theorem sv_sv (v : Value) : sv (sv v) = sv v := by
  cases v <;> rfl
theorem osl_sv {key : Nat} {x v : Value} {w : World} {F : Fz} (h : (osl key (sv x)).p w F v) : (eqv (sv (sv x))).p w F v := by
  rw [sv_sv]; exact h
/-- A call of a closure that only computes. -/
theorem calC0 {f : FuncId} {cs : List AV} {x : Operand} {xs : List Operand} {φs : List AV} {φ : AV} {ts : Array TypeId} (hc : lkO x E = clo f cs) (hx : OpdsIs E xs φs) (hf : Fn0 P f (φs ++ cs) φ) (he : Ent P f)
    (k : St r P ops Q B ((d, φ) :: E) H rest) (hn : Nat.blt d B.nt = true := by rfl) :
    St r P ops Q B E H ({ dst := some d, op := .call { callee := .value x, args := xs.toArray, argTypes := ts }, type := ty, pos := pos, after := af, guard := none } :: rest) :=
  callC (Hi := []) (ι := Unit) (res := fun _ _ => φ) (Ho := fun _ => []) hc (by rw [hx.eq]; exact hf) he trivial (fun _ _ => k) hn
theorem svI {α : Type} (key : Nat) {v : Value} {e n : Nat} {enc : α → List AV} {xs : List α} (hk : lkH key H = own v e n enc xs) : ∀ a w, Sim B E H a w → sv v = v := fun a w ⟨F, Ds, hs⟩ => by
  have := hs.hp key
  rw [hk] at this
  exact sv_of this
theorem bgI {α : Type} (key : Nat) {us : List Value} {e n : Nat} {enc : α → List AV} {xss : List (List α)} {o : Option Nat} (hk : lkH key H = bigown us e n enc xss o) : ∀ a w, Sim B E H a w → us.length = xss.length := fun a w ⟨F, Ds, hs⟩ => by
  have := hs.hp key
  rw [hk] at this
  exact this.1
theorem psQ {α β : Type} {ps : List (β × Value)} {e n : Nat} {enc : α → List AV} {xss : List (List α)} {u : Value} {xs : List α} (x : β) (key key' : Nat) (hk : lkH key H = bigown (ps.map sv2) e n enc xss none) (hk' : lkH key' H = own u e n enc xs) (hne : key' ≠ key)
    (k : St r P ops Q B E ((key', emp) :: (key, bigown ((ps ++ [(x, u)]).map sv2) e n enc (xss ++ [xs]) none) :: H) rest) : St r P ops Q B E H rest := fun a w hs => k a w (by
  have h := hs.pushB key key' hk hk' hne
  have hp := svI key' hk' a w hs
  rw [List.map_append, List.map_cons, List.map_nil, show sv2 (x, u) = sv u from rfl, hp]; exact h)
theorem getQ {β : Type} [Inhabited β] {ps : List (β × Value)} {i : Nat} (h : i < ps.length) : (ps.map sv2)[i]? = some (sv (ix ps i).2) := by
  rw [List.getElem?_map, List.getElem?_eq_getElem h]
  show some (sv ps[i].2) = _
  rw [show ps[i] = ix ps i from (ix_get h).symm]
theorem tkQ {α β : Type} [Inhabited β] {ps : List (β × Value)} {e n : Nat} {enc : α → List AV} {xss : List (List α)} {xs : List α} (key key' i : Nat) (hk : lkH key H = bigown (ps.map sv2) e n enc xss none) (hk' : lkH key' H = emp) (hne : key' ≠ key)
    (hu : i < ps.length) (hx : xss[i]? = some xs) (k : St r P ops Q B E ((key', own (sv (ix ps i).2) e n enc xs) :: (key, bigown (ps.map sv2) e n enc xss (some i)) :: H) rest) : St r P ops Q B E H rest :=
  fun a w hs => k a w (hs.takeB key key' i hk hk' hne (getQ hu) hx)
theorem gvQ {α β : Type} [Inhabited β] {ps : List (β × Value)} {e n : Nat} {enc : α → List AV} {xss : List (List α)} {xs : List α} (key key' i : Nat) (hk : lkH key H = bigown (ps.map sv2) e n enc xss (some i)) (hk' : lkH key' H = own (sv (ix ps i).2) e n enc xs) (hne : key' ≠ key) (hu : i < ps.length)
    (k : St r P ops Q B E ((key', emp) :: (key, bigown (ps.map sv2) e n enc (xss.set i xs) none) :: H) rest) : St r P ops Q B E H rest := gvU key key' i hk hk' hne (getQ hu) k
theorem swQ {α β : Type} [Inhabited β] {ps : List (β × Value)} {e n : Nat} {enc : α → List AV} {xss : List (List α)} (key i j : Nat) (hk : lkH key H = bigown (ps.map sv2) e n enc xss none) (hi : i < ps.length) (hj : j < ps.length) (hl : xss.length = ps.length)
    (k : St r P ops Q B E ((key, bigown (((ps.set i (ix ps j)).set j (ix ps i)).map sv2) e n enc ((xss.set i (ix xss j)).set j (ix xss i)) none) :: H) rest) : St r P ops Q B E H rest := fun a w hs => k a w (by
  have h := hs.swapB key i j hk (getQ hi) (getQ hj) (show xss[i]? = some (ix xss i) by rw [ix_get (by omega)]; exact List.getElem?_eq_getElem _) (show xss[j]? = some (ix xss j) by rw [ix_get (by omega)]; exact List.getElem?_eq_getElem _)
  rw [List.map_set, List.map_set]; exact h)
theorem fzQ {α β : Type} {ps : List (β × Value)} {e n e' m : Nat} {enc : α → List AV} {xss : List (List α)} {v : Value} {pre : β → List AV} (key keyO : Nat) (hk : lkH key H = bigown (ps.map sv2) e n enc xss none)
    (hO : lkH keyO H = own v e' (m + 1) (fun p : β × Value => pre p.1 ++ [eqv (sv p.2)]) ps) (hne : keyO ≠ key)
    (k : St r P ops Q B E ((keyO, own v e' (m + 1) (fun p : β × List α => pre p.1 ++ [sl n enc p.2]) ((ps.map Prod.fst).zip xss)) :: (key, emp) :: H) rest) : St r P ops Q B E H rest :=
  fzP (us := ps.map Prod.snd) (bs := ps.map Prod.fst) key keyO (by rw [hk, List.map_map]; rfl) (by rw [zip_parts]; exact hO) (by simp) hne k
end
end AL
