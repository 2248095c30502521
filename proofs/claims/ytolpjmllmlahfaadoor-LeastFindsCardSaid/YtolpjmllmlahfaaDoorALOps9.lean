/- The abstract logic, part 11f: numbers without sign, conversions, copy. Under no conditions: general lemmas. -/
import Derived.Test.YtolpjmllmlahfaaDoorALOps8
import Derived.Laws.CopyRow
import Derived.Laws.IdiomCopy
set_option linter.unusedVariables false
set_option linter.unusedSimpArgs false
namespace AL
open Go
attribute [local semireducible] any eqv agg tup fp ptr sl exi andp above emp cell own obj osl eptr clo pf mp mpv

abbrev u64 (n : Int) : AV := eqv (.int .u64 n)
def U64 (n : Int) : Prop := 0 ≤ n ∧ n < 18446744073709551616
theorem wrap_U64 {n : Int} (h : U64 n) : IntKind.u64.wrap n = n := by
  obtain ⟨h0, h1⟩ := h
  have e : (2 : Int) ^ IntKind.u64.bits = 18446744073709551616 := rfl
  have s : IntKind.u64.signed = false := rfl
  simp only [IntKind.wrap, e, s]
  simp; omega
section
variable {P : Program} {T : TypeId} {x y : Operand} {m n : Int}
theorem b_addU (h : U64 (m + n)) : binRun P .add T x y (.int .u64 m) (.int .u64 n) (.int .u64 (m + n)) := fun w => by
  simp [eqGuard, binOp, Op.intArith, wrap_U64 h]
theorem b_mulU (h : U64 (m * n)) : binRun P .mul T x y (.int .u64 m) (.int .u64 n) (.int .u64 (m * n)) := fun w => by
  simp [eqGuard, binOp, Op.intArith, wrap_U64 h]
theorem bv_natU {m : Nat} (h : m < 2 ^ 64) : (BitVec.ofInt 64 (m : Int)).toNat = m := by
  rw [BitVec.toNat_ofInt]
  omega
theorem b_and32U (h0 : 0 ≤ m) (h : m < 4294967296) : binRun P .and T x y (.int .u64 m) (.int .u64 4294967295) (.int .u64 m) := fun w => by
  obtain ⟨k, rfl⟩ := Int.eq_ofNat_of_zero_le h0
  simp only [eqGuard, binOp, Op.intBits, Sem.run_bind]
  have e : (BitVec.ofInt IntKind.u64.bits (k : Int) &&& BitVec.ofInt IntKind.u64.bits (4294967295 : Int)).toNat = k := by
    show (BitVec.ofInt 64 (k : Int) &&& BitVec.ofInt 64 ((4294967295 : Nat) : Int)).toNat = _
    rw [BitVec.toNat_and, bv_natU (by omega), bv_natU (by omega)]
    have := Nat.and_two_pow_sub_one_eq_mod k 32
    rw [show (2 ^ 32 - 1 : Nat) = 4294967295 from rfl] at this
    rw [this]; omega
  simp only [e, wrap_U64 (n := (k : Int)) ⟨by omega, by omega⟩]
  simp
theorem b_shr32U (h0 : 0 ≤ m) (h : m < 4294967296) : binRun P .shr T x y (.int .u64 m) (.int .u64 32) (.int .u64 0) := fun w => by
  obtain ⟨k, rfl⟩ := Int.eq_ofNat_of_zero_le h0
  have e : k / 4294967296 = 0 := Nat.div_eq_of_lt (by omega)
  have h1 : ¬ ((32 : Int) < 0) := by omega
  have h3 : (k : Int).fdiv (2 ^ 32) = 0 := by
    rw [Int.fdiv_eq_ediv_of_nonneg _ (by decide)]
    omega
  simp only [eqGuard, binOp, Op.shift, Sem.run_bind]
  rw [if_neg h1]
  have h4 : (k : Int).fdiv 4294967296 = 0 := h3
  simp [IntKind.bits, h4, IntKind.wrap]
end
section
variable {P : Program} {r : Option Nat} {ops : Array Oper} {Q : Exit → Act → World → Prop} {rest : List Oper} {B : Base} {E : Env} {H : Hp} {a : Act} {w : World}
variable {d ty : Nat} {pos : String} {af : Array Edge} {ι : Type}
theorem o_cv {T T' : Nat} {x : Operand} {k1 k2 : IntKind} {m : Int} (h : Sim B E H a w) (hx : lkO x E = eqv (.int k1 m)) (hT : P.underlying T = some (.int k1)) (hT' : P.underlying T' = some (.int k2)) (hw : k2.wrap m = m)
    (k : ∀ a w, Sim B ((d, eqv (.int k2 m)) :: E) H a w → wl r P ops Q rest a w) (hn : Nat.blt d B.nt = true := by rfl) :
    wl r P ops Q ({ dst := some d, op := .convert T T' x, type := ty, pos := pos, after := af, guard := none } :: rest) a w :=
  op_val h rfl rfl hn (fun _ => nofun) (fun F Ds hs => by
    have h1 := hs.opd x
    rw [hx] at h1
    have h1 : a.eval x = .int k1 m := h1
    refine ⟨.int k2 m, ?_, rfl⟩
    simp [execOp, h1, convert, run_underlying hT, run_underlying hT', Conv.intToInt, hw]) k
/-- A part of an own slice, as an address. -/
theorem o_sliceV {T e n l m cap key b : Nat} {x : Operand} {lo hi : Option Operand} (h : Sim B E H a w) (hx : lkO x E = osl key (.slice (some ⟨b, 0, none⟩) n cap)) (hT : IsSlice P T e 1) (hlo : BdIs E lo 0 l) (hhi : BdIs E hi n m) (h1 : l ≤ m) (h2 : m ≤ n) (h3 : n ≤ cap) (h4 : l < cap ∨ l = 0)
    (k : ∀ a w, Sim B ((d, eqv (.slice (some ⟨b, l, none⟩) (m - l) (cap - l))) :: E) H a w → wl r P ops Q rest a w) (hn : Nat.blt d B.nt = true := by rfl) :
    wl r P ops Q ({ dst := some d, op := .slice T x lo hi none, type := ty, pos := pos, after := af, guard := none } :: rest) a w :=
  op_val h rfl rfl hn (fun _ => nofun) (fun F Ds hs => by
    have hv := hs.opd x
    rw [hx] at hv
    have hv : a.eval x = .slice (some ⟨b, 0, none⟩) n cap := hv
    refine ⟨_, ?_, rfl⟩
    have hb : (Instr.sliceBounds true n cap (lo.map a.eval) (hi.map a.eval) none).run P w = .ok (l, m, cap) w := by
      have e1 : ∀ (y : Operand) (j top : Nat) (c : BoundsCode), lkO y E = int (j : Int) → j ≤ top → (Instr.sliceBound (a.eval y) top c).run P w = .ok j w := fun y j top c hy hj => by
        have := hs.opd y
        rw [hy] at this
        have this : a.eval y = .int .i64 (j : Int) := this
        have hcond : (0 : Int) ≤ (j : Int) ∧ (j : Int) ≤ (top : Int) := by omega
        simp only [this, Instr.sliceBound, asIntOf, Sem.run_bind, Sem.run_pure, Result.andThen_ok]
        rw [if_pos hcond]
        simp
      cases lo with
      | none =>
        have hlo : l = 0 := hlo
        subst hlo
        cases hi with
        | none =>
          have hhi : m = n := hhi
          subst hhi
          simp [Instr.sliceBounds]
        | some y => simp [Instr.sliceBounds, e1 y m cap _ hhi (by omega)]
      | some z =>
        cases hi with
        | none =>
          have hhi : m = n := hhi
          subst hhi
          simp [Instr.sliceBounds, e1 z l m _ hlo h1]
        | some y => simp [Instr.sliceBounds, e1 y m cap _ hhi (by omega), e1 z l m _ hlo h1]
    simp only [execOp, hv, Instr.sliceAt, run_underlying hT.und, Instr.slice, Sem.run_bind, Result.andThen_ok, Option.map_none, hb, hT.size, Sem.run_pure]
    have : (if cap = l then (some ⟨b, 0, none⟩ : Option Addr) else (some ⟨b, 0, none⟩ : Option Addr).map (·.add (l * 1))) = some ⟨b, l, none⟩ := by
      split
      · next e => rcases h4 with h4 | h4
                  · omega
                  · subst h4; rfl
      · simp [add_mk]
    rw [this]) k
theorem own_copy {α : Type} {m cap et b : Nat} {enc : α → List AV} {xs ys : List α} {F : Fz} (h : (own (.slice (some ⟨b, 0, none⟩) m cap) et 1 enc xs).p w F) {i : Nat} {cs : List Value} (hc : Els w F 1 enc ys cs) (hfit : i + ys.length ≤ xs.length) (hF : ¬ F b) :
    ∃ cur : Array Value, w.heap[b]? = some (.cells cur et (0, 0)) ∧ i + cs.length ≤ cur.size ∧ cur.toList.take xs.length = cur.toList.take (xs.length * 1) ∧
      (own (.slice (some ⟨b, 0, none⟩) m cap) et 1 enc (xs.take i ++ ys ++ xs.drop (i + ys.length))).p (w.setRow b (cur.toList.take i ++ cs ++ cur.toList.drop (i + cs.length)).toArray) F := by
  obtain ⟨hm, vs, h, hels⟩ := h
  have hlen := hels.len
  have hcl := hc.len
  simp only [Nat.mul_one] at hlen hcl
  rcases h.2 with ⟨hv', hx⟩ | ⟨b', cap', cur, hv', h0, hcc, hcap, hmx, hsz, htake⟩
  · cases hv'
  · simp only [Value.slice.injEq, Option.some.injEq, Addr.mk.injEq, and_true] at hv'
    obtain ⟨rfl, rfl, rfl⟩ := hv'
    have hst : ∀ b', F b' → (w.setRow b (cur.toList.take i ++ cs ++ cur.toList.drop (i + cs.length)).toArray).heap[b']? = w.heap[b']? := fun b' hb => setRow_other w b b' _ (fun e => hF (e ▸ hb))
    have hels' := hels.st (fun _ h => h) hst
    have hc' := hc.st (fun _ h => h) hst
    have htot : (xs.take i ++ ys ++ xs.drop (i + ys.length)).length = xs.length := by simp; omega
    simp only [Nat.mul_one] at hsz htake
    refine ⟨cur, hcc, by omega, by rw [Nat.mul_one], by rw [htot]; exact hm, vs.take i ++ cs ++ vs.drop (i + cs.length), ⟨?_, .inr ⟨b, cap, _, ?_, h0, setRow_heap w b cur _ et _ hcc, by rw [htot]; exact hcap, hmx, ?_, ?_⟩⟩, ?_, ?_⟩
    · rw [htot]; simp; omega
    · rw [htot]
    · simp; omega
    · rw [htot, ← htake]
      apply List.ext_getElem?
      intro t
      have m1 : min i cur.size = i := by omega
      have m2 : min xs.length cur.size = xs.length := by omega
      have m3 : min i xs.length = i := by omega
      simp only [Nat.mul_one, List.getElem?_take, List.getElem?_append, List.length_append, List.length_take, List.getElem?_drop, Array.length_toList, m1, m2, m3]
      by_cases h1 : t < xs.length
      · rw [if_pos h1]
        by_cases h2 : t < i + cs.length
        · rw [if_pos h2, if_pos h2]
          by_cases h3 : t < i
          · rw [if_pos h3, if_pos h3, if_pos h3, if_pos h3, if_pos h1]
          · rw [if_neg h3, if_neg h3]
        · rw [if_neg h2, if_neg h2, if_pos (by omega)]
      · rw [if_neg h1, if_neg (by omega), if_neg (by omega)]
    · rw [htot]; simp; omega
    · intro t x ht
      simp only [Nat.mul_one]
      have hvl : (vs.take i ++ cs ++ vs.drop (i + cs.length)).length = xs.length := by simp; omega
      have htl : t < xs.length := by rw [← htot]; exact (List.getElem?_eq_some_iff.1 ht).1
      have e1 : ∀ (l : List Value) (t : Nat) , (l.drop t).take 1 = match l[t]? with | some v => [v] | none => [] := fun l t => by
        cases hl : l[t]? with
        | none => rw [List.drop_eq_nil_of_le (by simpa using hl)]; rfl
        | some v =>
          obtain ⟨hlt, rfl⟩ := List.getElem?_eq_some_iff.1 hl
          rw [List.drop_eq_getElem_cons hlt]; rfl
      rw [e1]
      have g1 := fun t x h => hels'.el t x h
      have g2 := fun t x h => hc'.el t x h
      simp only [Nat.mul_one, e1] at g1 g2
      have m3 : min i xs.length = i := by omega
      have m4 : min i vs.length = i := by omega
      simp only [List.getElem?_append, List.length_append, List.length_take, List.getElem?_take, List.getElem?_drop, m3, m4] at ht ⊢
      by_cases h2 : t < i + ys.length
      · rw [if_pos h2] at ht
        rw [if_pos (by omega)]
        by_cases h3 : t < i
        · rw [if_pos h3, if_pos h3] at ht
          rw [if_pos h3, if_pos h3]
          exact g1 t x ht
        · rw [if_neg h3] at ht
          rw [if_neg h3]
          exact g2 _ x ht
      · rw [if_neg h2] at ht
        rw [if_neg (by omega)]
        have := g1 _ x ht
        rw [show i + cs.length + (t - (i + cs.length)) = i + ys.length + (t - (i + ys.length)) by omega]
        exact this
/-- What a copy does to an own slice, the cells that go over being read. -/
theorem copy_core {α : Type} {T T' e by_ m cap l c l2 c2 et b i key : Nat} {z : List Value} {enc : α → List AV} {xs ys : List α} {F : Fz} {Ds : List Nat} (hs : SimF B E H a w F Ds) (hk : lkH key H = own (.slice (some ⟨b, 0, none⟩) m cap) et 1 enc xs) (hT : MakeT P T e 1 by_ z)
    {A : Option Addr} {cs : List Value} (hcs : Els w F 1 enc ys cs) (hn : ys.length = min l2 l) (hfit : i + ys.length ≤ xs.length) (hsrc : 0 < ys.length → ∃ a, A = some a ∧ ∀ j v, cs[j]? = some v → w.cell? (a.add j) = some v) (h1 : ∀ v ∈ cs, v.oneCell' = true) :
    ∃ w', (Builtin.copy_ #[T, T'] ty #[.slice (some ⟨b, i, none⟩) l c, .slice A l2 c2]).run P w = .ok (.int .i64 (ys.length : Int)) w' ∧ SimF B E ((key, own (.slice (some ⟨b, 0, none⟩) m cap) et 1 enc (xs.take i ++ ys ++ xs.drop (i + ys.length))) :: H) a w' F Ds := by
  obtain ⟨ti, hi, hsz, _⟩ := hT.info
  have hs1 : (P.info? e).map (·.size) = some 1 := by rw [hi]; simp [hsz]
  have hcl := hcs.len
  rw [Nat.mul_one] at hcl
  have hfoot : (lkH key H).foot b := by rw [hk]; rfl
  have h3 := hs.hp key
  rw [hk] at h3
  obtain ⟨cur, hcc, hl, _, hp⟩ := own_copy h3 hcs hfit (hs.hF key b hfoot)
  by_cases h0 : 0 < ys.length
  · obtain ⟨a', rfl, hrd⟩ := hsrc h0
    refine ⟨_, by rw [run_copy_row (P := P) w T T' ty e b i l c a' l2 c2 cur et cs hT.und hs1 hcc (by rw [hcl, hn]) hrd hl h1, hcl]; rfl, hs.row key _ _ hfoot (fun b' hb' => by rw [hk]; exact hb') hp⟩
  · have hy : ys = [] := List.eq_nil_of_length_eq_zero (by omega)
    subst hy
    refine ⟨w, by rw [run_copy_none (P := P) w T T' ty e _ A l c l2 c2 hT.und hs1 (show min l2 l = 0 by rw [← hn]; rfl)]; rfl, ?_⟩
    have e1 : xs.take i ++ [] ++ xs.drop (i + 0) = xs := by simp
    have e1 : xs.take i ++ [] ++ xs.drop (i + ([] : List α).length) = xs := e1
    rw [e1]
    have : own (.slice (some ⟨b, 0, none⟩) m cap) et 1 enc xs = lkH key H := hk.symm
    exact hs.upd key _ (Nat.le_refl _) rfl rfl rfl (fun _ _ _ => rfl) (fun b hb => ⟨.inl (by rw [hk]; exact hb), (hs.hN key b (by rw [hk]; exact hb)).1⟩) h3
/-- Copied into an own slice: out of a frozen one. -/
theorem o_cpF {α : Type} {T T' e by_ m cap l c et b i key n : Nat} {z : List Value} {enc : α → List AV} {xs ys : List α} {x y : Operand} (h : Sim B E H a w) (hx : lkO x E = eqv (.slice (some ⟨b, i, none⟩) l c)) (hk : lkH key H = own (.slice (some ⟨b, 0, none⟩) m cap) et 1 enc xs)
    (hy : lkO y E = sl 1 enc ys) (hT : MakeT P T e 1 by_ z) (hone : ∀ y : α, OneAll (enc y)) (hn : n = min ys.length l) (hfit : i + n ≤ xs.length)
    (k : ∀ a w, Sim B ((d, int (n : Int)) :: E) ((key, own (.slice (some ⟨b, 0, none⟩) m cap) et 1 enc (xs.take i ++ ys.take n ++ xs.drop (i + n))) :: H) a w → wl r P ops Q rest a w) (hd : Nat.blt d B.nt = true := by rfl) :
    wl r P ops Q ({ dst := some d, op := .call { callee := .builtin .copy, args := #[x, y], argTypes := #[T, T'] }, type := ty, pos := pos, after := af, guard := none } :: rest) a w :=
  op_gen (ι := Unit) (E' := fun _ => (d, int (n : Int)) :: E) (H' := fun _ => (key, own (.slice (some ⟨b, 0, none⟩) m cap) et 1 enc (xs.take i ++ ys.take n ++ xs.drop (i + n))) :: H) h rfl (fun _ => nofun) (fun F Ds hs => by
    have h1 := hs.opd x
    have h2 := hs.opd y
    rw [hx] at h1
    rw [hy] at h2
    have h1 : a.eval x = .slice (some ⟨b, i, none⟩) l c := h1
    obtain ⟨A, c2, hv, hc2, hmx, hA⟩ := h2
    have hlt : (ys.take n).length = n := by simp; omega
    by_cases h0 : ys = []
    · subst h0
      have hn0 : n = 0 := by simpa using hn
      subst hn0
      obtain ⟨w', hr, hs'⟩ := copy_core (P := P) (ty := ty) (T' := T') (l := l) (c := c) (l2 := 0) (c2 := c2) (A := A) (i := i) (ys := ([] : List α)) (cs := []) hs hk hT (Els.nil _ _ _ _) (by simp) (by simpa using hfit) (fun h => absurd h (by simp)) (by simp)
      refine ⟨_, w', ?_, (), F, Ds, hs'.put (by simpa using hd) rfl⟩
      simp only [List.length_nil] at hv
      simp only [execOp, resolve, Sem.run_bind, Sem.run_pure, Result.andThen_ok, invoke, builtin, List.map_toArray, List.map_cons, List.map_nil, h1, hv, hr]
      rfl
    · obtain ⟨b2, off, vs, rfl, hb2, hrd, hels⟩ := hA h0
      have hvl := hels.len
      have hE : Els w F 1 enc (ys.take n) (vs.take n) := ⟨by simp at hvl ⊢; omega, fun j x hj => by
        have hj' : j < n := by
          have := (List.getElem?_eq_some_iff.1 hj).1
          omega
        have h5 := hels.el j x (by rw [List.getElem?_take, if_pos hj'] at hj; exact hj)
        have e : ((vs.take n).drop (j * 1)).take 1 = (vs.drop (j * 1)).take 1 := by
          rw [List.drop_take, List.take_take]
          congr 1; omega
        rw [e]; exact h5⟩
      have hones : ∀ v ∈ vs.take n, v.oneCell' = true := fun v hv => by
        obtain ⟨j, hj, rfl⟩ := List.mem_iff_getElem.1 hv
        have hjn : j < n := by simp at hj; omega
        have hjy : j < ys.length := by omega
        have h5 := hels.el j ys[j] (List.getElem?_eq_getElem hjy)
        refine (hone ys[j]).all h5 _ ?_
        have : j < vs.length := by simp at hj; omega
        rw [Nat.mul_one, List.drop_eq_getElem_cons this, List.take_succ_cons, List.getElem_take]
        exact List.mem_cons_self
      obtain ⟨w', hr, hs'⟩ := copy_core (P := P) (ty := ty) (T' := T') (l := l) (c := c) (l2 := ys.length) (c2 := c2) (A := some ⟨b2, off, none⟩) (i := i) hs hk hT hE (by rw [hlt]; exact hn) (by rw [hlt]; exact hfit) (fun _ => ⟨_, rfl, fun j v hj => by
        rw [add_mk]; exact (hrd.take n).cell hj⟩) hones
      rw [hlt] at hr hs'
      refine ⟨_, w', ?_, (), F, Ds, hs'.put (by simpa using hd) rfl⟩
      simp only [execOp, resolve, Sem.run_bind, Sem.run_pure, Result.andThen_ok, invoke, builtin, List.map_toArray, List.map_cons, List.map_nil, h1, hv, hr]) (fun _ => k)
/-- Copied within an own slice. -/
theorem o_cpO {α : Type} {T T' e by_ m cap l c l2 c2 et b i key n : Nat} {z : List Value} {enc : α → List AV} {xs : List α} {x y : Operand} (h : Sim B E H a w) (hx : lkO x E = eqv (.slice (some ⟨b, i, none⟩) l c)) (hk : lkH key H = own (.slice (some ⟨b, 0, none⟩) m cap) et 1 enc xs)
    (hy : lkO y E = eqv (.slice (some ⟨b, 0, none⟩) l2 c2)) (hT : MakeT P T e 1 by_ z) (hone : ∀ y : α, OneAll (enc y)) (hn : n = min l2 l) (hl2 : l2 ≤ xs.length) (hfit : i + n ≤ xs.length)
    (k : ∀ a w, Sim B ((d, int (n : Int)) :: E) ((key, own (.slice (some ⟨b, 0, none⟩) m cap) et 1 enc (xs.take i ++ xs.take n ++ xs.drop (i + n))) :: H) a w → wl r P ops Q rest a w) (hd : Nat.blt d B.nt = true := by rfl) :
    wl r P ops Q ({ dst := some d, op := .call { callee := .builtin .copy, args := #[x, y], argTypes := #[T, T'] }, type := ty, pos := pos, after := af, guard := none } :: rest) a w :=
  op_gen (ι := Unit) (E' := fun _ => (d, int (n : Int)) :: E) (H' := fun _ => (key, own (.slice (some ⟨b, 0, none⟩) m cap) et 1 enc (xs.take i ++ xs.take n ++ xs.drop (i + n))) :: H) h rfl (fun _ => nofun) (fun F Ds hs => by
    have h1 := hs.opd x
    have hv := hs.opd y
    rw [hx] at h1
    rw [hy] at hv
    have h1 : a.eval x = .slice (some ⟨b, i, none⟩) l c := h1
    have hv : a.eval y = .slice (some ⟨b, 0, none⟩) l2 c2 := hv
    have h3 := hs.hp key
    rw [hk] at h3
    obtain ⟨hm, vs, ho, hels⟩ := h3
    have hvl := hels.len
    rw [Nat.mul_one] at hvl
    have hlt : (xs.take n).length = n := by simp; omega
    have hE : Els w F 1 enc (xs.take n) (vs.take n) := ⟨by simp; omega, fun j x hj => by
      have hj' : j < n := by
        have := (List.getElem?_eq_some_iff.1 hj).1
        omega
      have h5 := hels.el j x (by rw [List.getElem?_take, if_pos hj'] at hj; exact hj)
      have e : ((vs.take n).drop (j * 1)).take 1 = (vs.drop (j * 1)).take 1 := by
        rw [List.drop_take, List.take_take]
        congr 1; omega
      rw [e]; exact h5⟩
    have hones : ∀ v ∈ vs.take n, v.oneCell' = true := fun v hv => by
      obtain ⟨j, hj, rfl⟩ := List.mem_iff_getElem.1 hv
      have hjn : j < n := by simp at hj; omega
      have hjy : j < xs.length := by omega
      have h5 := hels.el j xs[j] (List.getElem?_eq_getElem hjy)
      refine (hone xs[j]).all h5 _ ?_
      have : j < vs.length := by simp at hj; omega
      rw [Nat.mul_one, List.drop_eq_getElem_cons this, List.take_succ_cons, List.getElem_take]
      exact List.mem_cons_self
    obtain ⟨w', hr, hs'⟩ := copy_core (P := P) (ty := ty) (T' := T') (l := l) (c := c) (l2 := l2) (c2 := c2) (A := some ⟨b, 0, none⟩) (i := i) hs hk hT hE (by rw [hlt]; exact hn) (by rw [hlt]; exact hfit) (fun _ => ⟨_, rfl, fun j v hj => by
      rcases ho.2 with ⟨hv', _⟩ | ⟨b', cap', cur, hv', _, hcc, _, _, _, htake⟩
      · cases hv'
      · simp only [Value.slice.injEq, Option.some.injEq, Addr.mk.injEq, and_true] at hv'
        obtain ⟨rfl, _, _⟩ := hv'
        rw [Nat.mul_one] at htake
        have hcur : cur[j]? = some v := by
          rw [← htake, List.getElem?_take] at hj
          split at hj
          · rw [List.getElem?_take] at hj
            split at hj
            · simpa using hj
            · cases hj
          · cases hj
        have : rdAt w b 0 [v] ∨ True := .inr trivial
        have hrd : rdAt w b j [v] := ⟨cur, et, (0, 0), hcc, fun t u ht => by
          cases t with
          | zero => simp at ht; subst ht; exact hcur
          | succ t => simp at ht⟩
        have := hrd.cell (j := 0) rfl
        rw [add_mk]
        simpa using this⟩) hones
    rw [hlt] at hr hs'
    refine ⟨_, w', ?_, (), F, Ds, hs'.put (by simpa using hd) rfl⟩
    simp only [execOp, resolve, Sem.run_bind, Sem.run_pure, Result.andThen_ok, invoke, builtin, List.map_toArray, List.map_cons, List.map_nil, h1, hv, hr]) (fun _ => k)
end
end AL
