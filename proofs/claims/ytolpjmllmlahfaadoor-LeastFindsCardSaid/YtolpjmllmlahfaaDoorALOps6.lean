/- The abstract logic, part 11b: copies by append, calls with their lookups spelled, calls that read own memory. Under no conditions: general lemmas. -/
import Derived.Test.YtolpjmllmlahfaaDoorALMap
set_option linter.unusedVariables false
namespace AL
open Go
attribute [local semireducible] any eqv agg tup fp ptr sl exi andp above emp cell own obj osl eptr clo pf mp mpv

section
variable {P : Program} {r : Option Nat} {ops : Array Oper} {Q : Exit → Act → World → Prop} {rest : List Oper} {B : Base} {E : Env} {H : Hp} {a : Act} {w : World}
variable {d ty : Nat} {pos : String} {af : Array Edge}

/-- 'append' to nil: a frozen copy. -/
theorem o_appendF {α : Type} {T e n by_ : Nat} {z : List Value} {enc : α → List AV} {ys : List α} {s x : Operand} (h : Sim B E H a w) (hs : lkO s E = eqv (.slice none 0 0))
    (hx : lkO x E = sl n enc ys) (hT : MakeT P T e n by_ z) [h1 : ∀ y, OneAll (enc y)] (hby : ys.length * by_ ≤ maxL)
    (k : ∀ a w, Sim B ((d, sl n enc ys) :: E) H a w → wl r P ops Q rest a w) (hn : Nat.blt d B.nt = true := by rfl) :
    wl r P ops Q ({ dst := some d, op := .call { callee := .builtin .append, args := #[s, x], argTypes := #[T, T] }, type := ty, pos := pos, after := af, guard := none } :: rest) a w :=
  op_gen (ι := Unit) (E' := fun _ => (d, sl n enc ys) :: E) (H' := fun _ => H) h rfl (fun _ => nofun) (fun F Ds hS => by
    have hv1 := hS.opd s
    rw [hs] at hv1
    have hv1 : a.eval s = .slice none 0 0 := hv1
    have hv2 := hS.opd x
    rw [hx] at hv2
    obtain ⟨A, cap, hv2, hcap, hm, hA⟩ := hv2
    have hown : w.ownsRow 0 e n (.slice none 0 0) 0 [] := ⟨by simp, .inl ⟨rfl, rfl⟩⟩
    by_cases hy : ys = []
    · subst hy
      refine ⟨.slice none 0 0, w, ?_, (), F, Ds, hS.put (by simpa using hn) ⟨none, 0, rfl, Nat.le_refl _, hm, fun h => absurd rfl h⟩⟩
      have := append_none (P := P) (ty := ty) hT hown A cap
      simp only [execOp, resolve, Sem.run_bind, Sem.run_pure, Result.andThen_ok, invoke, builtin, List.map_toArray, List.map_cons, List.map_nil, hv1, hv2, List.length_nil, this]
    · obtain ⟨b, off, us, rfl, hb, hr, hu⟩ := hA hy
      have hone : ∀ u ∈ us, u.oneCell' = true := fun u hu' => by
        obtain ⟨t, ht⟩ := List.getElem?_of_mem hu'
        have hlu := hu.len
        have htl : t < us.length := (List.getElem?_eq_some_iff.1 ht).1
        have hn0 := hT.pos
        have hq : t / n < ys.length := by rw [Nat.div_lt_iff_lt_mul hn0, ← hlu]; exact htl
        have he := hu.el (t / n) ys[t / n] (by simp [hq])
        refine (h1 _).all he u ?_
        refine List.mem_of_getElem? (i := t % n) ?_
        rw [List.getElem?_take, if_pos (Nat.mod_lt _ hn0), List.getElem?_drop, Nat.mul_comm, Nat.div_add_mod]
        exact ht
      obtain ⟨v', w', hrun, hown', hg, hfr⟩ := append_own (P := P) (ty := ty) (c := cap) hT hown (ad := ⟨b, off, none⟩) (m := ys.length) hu.len (fun j u hj => by rw [add_mk]; exact hr.cell hj) hone (by omega) (by simpa using hby)
      have hold : ∀ b, b < w.heap.size → w'.heap[b]? = w.heap[b]? := fun b hb => hg.block b hb (by simp [Value.ownBlock])
      have hnew : ∀ b, ownB v' b → w.heap.size ≤ b ∧ b < w'.heap.size := fun b hb => ⟨(hfr b hb).elim (fun h => h.elim) id, ownsRow_lt hown' hb⟩
      have hS' := hS.grow (w' := w') (F' := fun b => F b ∨ ownB v' b) hg.size hg.os hg.tape hg.output hold (fun _ h => .inl h) (fun b hb => hb.imp id (hnew b))
      have hp : (own v' e n enc ys).p w' F := ⟨hm, us, by simpa using hown', hu.st (fun _ h => h) (fun b hb => hold b (hS.Fb b hb).1)⟩
      refine ⟨v', w', ?_, (), _, Ds, hS'.put (by simpa using hn) (own_sl hp)⟩
      simp only [execOp, resolve, Sem.run_bind, Sem.run_pure, Result.andThen_ok, invoke, builtin, List.map_toArray, List.map_cons, List.map_nil, hv1, hv2, hrun]) (fun _ => k)

/-- What operands are known to be, one by one. -/
def OpdsIs (E : Env) : List Operand → List AV → Prop
  | [], [] => True
  | x :: xs, φ :: φs => lkO x E = φ ∧ OpdsIs E xs φs
  | _, _ => False
theorem OpdsIs.eq : ∀ {xs : List Operand} {φs : List AV}, OpdsIs E xs φs → opds xs E = φs
  | [], [], _ => rfl
  | _ :: _, _ :: _, h => by show _ :: _ = _; rw [h.1, OpdsIs.eq h.2]
  | [], _ :: _, h => h.elim
  | _ :: _, [], h => h.elim

theorem o_cal0 {f : FuncId} {xs : List Operand} {φs : List AV} {φ : AV} {ts : Array TypeId} (h : Sim B E H a w) (hx : OpdsIs E xs φs) (hf : Fn0 P f φs φ) (he : Ent P f)
    (k : ∀ a w, Sim B ((d, φ) :: E) H a w → wl r P ops Q rest a w) (hn : Nat.blt d B.nt = true := by rfl) :
    wl r P ops Q ({ dst := some d, op := .call { callee := .value (.func f), args := xs.toArray, argTypes := ts }, type := ty, pos := pos, after := af, guard := none } :: rest) a w :=
  o_call0 h (by rw [hx.eq]; exact hf) he k hn
theorem o_cal {ι : Type} {f : FuncId} {xs : List Operand} {φs : List AV} {Hi : Hp} {res : Nat → ι → AV} {Ho : ι → Hp} {ts : Array TypeId} (h : Sim B E H a w) (hx : OpdsIs E xs φs) (hf : Fn P f φs Hi res Ho) (he : Ent P f) (hHi : SubH Hi H)
    (k : ∀ N i a w, Sim B ((d, res N i) :: E) (outH (Ho i) Hi H) a w → wl r P ops Q rest a w) (hn : Nat.blt d B.nt = true := by rfl) :
    wl r P ops Q ({ dst := some d, op := .call { callee := .value (.func f), args := xs.toArray, argTypes := ts }, type := ty, pos := pos, after := af, guard := none } :: rest) a w :=
  o_call h (by rw [hx.eq]; exact hf) he hHi k hn

/-- An operand, with own slices read as frozen ones. -/
inductive Bor (E : Env) (H : Hp) (x : Operand) : AV → Prop
  | here {φ : AV} (h : lkO x E = φ) : Bor E H x φ
  | own {α : Type} (key : Nat) {v : Value} {e n : Nat} {enc : α → List AV} {xs : List α} (h : lkO x E = osl key v) (hk : lkH key H = own v e n enc xs) : Bor E H x (sl n enc xs)
def BorIs (E : Env) (H : Hp) : List Operand → List AV → Prop
  | [], [] => True
  | x :: xs, φ :: φs => Bor E H x φ ∧ BorIs E H xs φs
  | _, _ => False
theorem BorIs.all {F : Fz} {Ds : List Nat} (h : SimF B E H a w F Ds) : ∀ {xs : List Operand} {φs : List AV}, BorIs E H xs φs → All2 w (fun b => F b ∨ footH H b) φs (xs.map a.eval)
  | [], [], _ => trivial
  | x :: _, _ :: _, hb => by
    refine ⟨?_, BorIs.all h hb.2⟩
    have h0 := h.opd x
    rcases hb.1 with hφ | ⟨key, hφ, hk⟩
    · rw [hφ] at h0; exact AV.st _ (fun _ h => .inl h) (fun _ _ => rfl) h0
    · rw [hφ] at h0
      have h0 : a.eval x = _ := h0
      have hp := h.hp key
      rw [hk] at hp
      rw [h0]
      exact AV.st _ (fun b hb => hb.imp id (fun hf => ⟨key, by rw [hk]; exact hf⟩)) (fun _ _ => rfl) (own_sl hp)
  | [], _ :: _, h => h.elim
  | _ :: _, [], h => h.elim

/-- A call that reads own memory, and gives a plain value. -/
theorem o_calB {f : FuncId} {xs : List Operand} {φs : List AV} {y : Value} {ts : Array TypeId} (h : Sim B E H a w) (hx : BorIs E H xs φs) (hf : Fn0 P f φs (eqv y)) (he : Ent P f)
    (k : ∀ a w, Sim B ((d, eqv y) :: E) H a w → wl r P ops Q rest a w) (hn : Nat.blt d B.nt = true := by rfl) :
    wl r P ops Q ({ dst := some d, op := .call { callee := .value (.func f), args := xs.toArray, argTypes := ts }, type := ty, pos := pos, after := af, guard := none } :: rest) a w := by
  obtain ⟨F, Ds, hs⟩ := h
  refine wl_enter (f := f) (args := (xs.map a.eval).toArray) rfl (fun _ => nofun) ?_ (hf w _ _ (hx.all hs) (fun b hb => hb.elim (fun h => (hs.Fb b h).1) (fun ⟨k, h⟩ => (hs.hN k b h).1)) ⟨fun _ => trivial, fun _ _ h => h.elim, fun _ _ _ _ h => h.elim, fun _ _ h => h.elim⟩) (fun e w' hR => ?_)
  · simp [execOp, resolve, Act.eval, Deferred.ofValue, invoke, he.run]
  · obtain ⟨i, v, F', rfl, hl⟩ := hR
    have hv : v = y := hl.res
    subst hv
    have hnf : ∀ b, ¬ footH [] b := fun b ⟨k, h⟩ => h
    exact ⟨v, rfl, k _ _ ⟨F, Ds, (hs.grow (w' := w') hl.size hl.os hl.tape hl.out (fun b hb => hl.old b hb (hnf b)) (fun _ h => h) (fun _ h => .inl h)).put (by simpa using hn) rfl⟩⟩
/-- An own slice put into an own variable. -/
theorem o_storePO {α : Type} {T key b o k2 e n : Nat} {cs : List AV} {v : Value} {enc : α → List AV} {xs : List α} {x y : Operand} (h : Sim B E H a w) (hx : lkO x E = ptr key b o) (hk : lkH key H = cell b cs) (hy : lkO y E = osl k2 v) (hk2 : lkH k2 H = own v e n enc xs) (ht : IsOne P T) (ho : Nat.blt o cs.length = true)
    (k : ∀ a w, Sim B E ((key, cell b (cs.set o (osl k2 v))) :: H) a w → wl r P ops Q rest a w) :
    wl r P ops Q ({ dst := none, op := .store T x y, type := ty, pos := pos, after := af, guard := none } :: rest) a w := by
  obtain ⟨F, Ds, hs⟩ := h
  have h1 : v.oneCell' = true := by
    have h := hs.hp k2
    rw [hk2] at h
    exact own_one h
  exact o_storeP (h1 := ⟨fun {w F u} hu => by have hu : u = v := hu; subst hu; exact h1⟩) ⟨F, Ds, hs⟩ hx hk hy ht ho k

/-- Elements spelled. -/
theorem sl_id {α : Type} {n : Nat} {enc : α → List AV} {xs : List α} {css : List (List AV)} (he : xs.map enc = css) {w : World} {F : Fz} {v : Value} (h : (sl n id css).p w F v) : (sl n enc xs).p w F v := by
  subst he
  obtain ⟨A, cap, hv, hc, hm, h⟩ := h
  rw [List.length_map] at hv hc hm
  refine ⟨A, cap, hv, hc, hm, fun hx => ?_⟩
  obtain ⟨b, off, vs, hA, hb, hr, hl, he⟩ := h (by simpa using hx)
  exact ⟨b, off, vs, hA, hb, hr, by simpa using hl, fun i x hi => he i (enc x) (by simp [hi])⟩
theorem o_bsE {α : Type} {T e n by_ len : Nat} {z : List Value} {ps : List (Nat × Operand)} {css : List (List AV)} {enc : α → List AV} {xs : List α} (h : Sim B E H a w) (hT : MakeT P T e n by_ z) (hp : Parts E n 0 ps css) (hl : Nat.beq css.length len = true) (h0 : Nat.blt 0 len = true) (hm : Nat.ble (len * n) 1000 = true) (he : xs.map enc = css)
    (k : ∀ a w, Sim B ((d, sl n enc xs) :: E) H a w → wl r P ops Q rest a w) (hn : Nat.blt d B.nt = true := by rfl) :
    wl r P ops Q ({ dst := some d, op := .buildSlice T len ps.toArray, type := ty, pos := pos, after := af, guard := none } :: rest) a w :=
  o_bs h hT hp hl h0 hm (fun a w ⟨F, Ds, hs⟩ => by
    refine k a w ⟨F, Ds, { hs with env := fun s => ?_ }⟩
    by_cases e : d = s
    · subst e; rw [lk_same]; have := hs.env d; rw [lk_same] at this; exact sl_id he this
    · rw [lk_other _ _ e]; have := hs.env s; rw [lk_other _ _ e] at this; exact this) hn
/-- A literal of a slice, an own one. -/
theorem o_bsO {α : Type} {T e n by_ len : Nat} {z : List Value} {ps : List (Nat × Operand)} {css : List (List AV)} {enc : α → List AV} {xs : List α} (key : Nat) (h : Sim B E H a w) (hT : MakeT P T e n by_ z) (hp : Parts E n 0 ps css) (hl : Nat.beq css.length len = true) (h0 : Nat.blt 0 len = true) (hm : Nat.ble (len * n) 1000 = true) (he : xs.map enc = css)
    (k : ∀ v a w, Sim B ((d, osl key v) :: E) ((key, own v e n enc xs) :: H) a w → wl r P ops Q rest a w) (hn : Nat.blt d B.nt = true := by rfl) :
    wl r P ops Q ({ dst := some d, op := .buildSlice T len ps.toArray, type := ty, pos := pos, after := af, guard := none } :: rest) a w :=
  op_gen (E' := fun v => (d, osl key v) :: E) (H' := fun v => (key, own v e n enc xs) :: H) h rfl (fun _ => nofun) (fun F Ds hs => by
    obtain ⟨i, hi, hsz, hb, zv, hz, hcells, hzs⟩ := hT.info
    obtain ⟨vs, h1, h2, h3, h4, h5⟩ := parts_vals hs hp
    have hl : css.length = len := by simpa using hl
    have h0 : 0 < len := by simpa using h0
    have hm : len * n ≤ 1000 := by simpa using hm
    have hpos := hT.pos
    have hfill := Great.fill_whole hpos vs ((Array.range (len * i.size)).map (zv.cells[· % zv.cells.size]!)) h3 (by simp [h2, hl, hsz])
    have hne : ¬ len * i.size = 0 := by rw [hsz]; exact Nat.ne_of_gt (Nat.mul_pos h0 hpos)
    have hrun := run_buildSlice (P := P) w T e len (ps.toArray.map fun (i, x) => (i, a.eval x)) (vs.flatMap fun v => v.cells.toList).toArray i zv hT.und hi hz (by rw [hsz]; omega) hne (by
      have : (ps.toArray.map fun (i, x) => (i, a.eval x)).toList = ((vs.zipIdx 0).map fun x => (x.2, x.1)) := by simpa using h1
      rw [this, hsz]; rw [hsz] at hfill; exact hfill)
    have hlen : len ≤ 1000 := by have : len * 1 ≤ len * n := Nat.mul_le_mul_left _ hpos; omega
    have hxl : xs.length = len := by rw [← hl, ← he, List.length_map]
    refine ⟨_, _, by simp only [execOp, Sem.run_bind, hrun]; rfl, .slice (some ⟨w.heap.size, 0, none⟩) len len, F, Ds,
      (hs.alloc key (own (.slice (some ⟨w.heap.size, 0, none⟩) len len) e n enc xs) (.cells (vs.flatMap fun v => v.cells.toList).toArray e (0, 0)) (fun b hb => hb) ?_).put (by simpa using hn) rfl⟩
    refine ⟨by unfold maxL; omega, vs.flatMap fun v => v.cells.toList, ?_, ?_⟩
    · have hfl := h5.len
      refine ⟨by rw [hfl, hl, hxl], .inr ⟨w.heap.size, len, _, by rw [hxl], Nat.zero_le _, heap_new _ _, by omega, by unfold maxLen; omega, by simp [hfl, hl], List.take_of_length_le (by rw [hfl, hl, hxl]; exact Nat.le_refl _)⟩⟩
    · have h6 := h5.st (w' := w.alloc (.cells (vs.flatMap fun v => v.cells.toList).toArray e (0, 0))) (F' := F) (fun _ h => h) (fun b hb => heap_alloc w _ (hs.Fb b hb).1)
      exact ⟨by rw [h6.len, hl, hxl], fun i x hi => h6.el i (enc x) (by rw [← he]; simp [hi])⟩) (fun v => k v)
end
end AL
