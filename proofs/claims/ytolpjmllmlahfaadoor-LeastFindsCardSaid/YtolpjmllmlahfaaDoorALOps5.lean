/- The abstract logic, part 5b: literals of slices and structs, cuts of slices and strings, comparisons with nil. Under no conditions: general lemmas. -/
import Derived.Test.YtolpjmllmlahfaaDoorALCtl
import Derived.Great.FillDense
import Derived.Great.BuildSlice
set_option linter.unusedVariables false
namespace AL
open Go
attribute [local semireducible] any eqv agg tup fp ptr sl exi andp above emp cell own obj osl eptr

section
variable {P : Program} {r : Option Nat} {ops : Array Oper} {Q : Exit → Act → World → Prop} {rest : List Oper} {B : Base} {E : Env} {H : Hp} {a : Act} {w : World}
variable {d ty : Nat} {pos : String} {af : Array Edge}

theorem b_and1 {T : TypeId} {x y : Operand} {m : Nat} (hm : m < 2 ^ 63) : binRun P .and T x y (.int .i64 m) (.int .i64 1) (.int .i64 ((m &&& 1 : Nat) : Int)) := b_and (n := 1) hm (by decide)

/-! ### Bits, over numbers that are not negative -/
section
variable {P : Program} {T : TypeId} {x y : Operand} {m n : Int}
theorem b_shrI (hm : 0 ≤ m) (h0 : 0 ≤ n) (hn : n ≤ 64) : binRun P .shr T x y (.int .i64 m) (.int .i64 n) (.int .i64 ((m.toNat >>> n.toNat : Nat) : Int)) := by
  have h := b_shr (P := P) (T := T) (x := x) (y := y) (m := m.toNat) (n := n.toNat) (by omega)
  rwa [Int.toNat_of_nonneg hm, Int.toNat_of_nonneg h0] at h
theorem b_shlI (h0 : 0 ≤ n) (hn : n < 63) : binRun P .shl T x y (.int .i64 1) (.int .i64 n) (.int .i64 ((2 ^ n.toNat : Nat) : Int)) := by
  have h := b_shl1 (P := P) (T := T) (x := x) (y := y) (n := n.toNat) (by omega)
  rwa [Int.toNat_of_nonneg h0] at h
theorem b_andI (hm : 0 ≤ m) (hm' : m < 2 ^ 63) (hn : 0 ≤ n) (hn' : n < 2 ^ 63) : binRun P .and T x y (.int .i64 m) (.int .i64 n) (.int .i64 ((m.toNat &&& n.toNat : Nat) : Int)) := by
  have h := b_and (P := P) (T := T) (x := x) (y := y) (m := m.toNat) (n := n.toNat) (by omega) (by omega)
  rwa [Int.toNat_of_nonneg hm, Int.toNat_of_nonneg hn] at h
theorem b_orI (hm : 0 ≤ m) (hm' : m < 2 ^ 63) (hn : 0 ≤ n) (hn' : n < 2 ^ 63) : binRun P .or T x y (.int .i64 m) (.int .i64 n) (.int .i64 ((m.toNat ||| n.toNat : Nat) : Int)) := by
  have h := b_or (P := P) (T := T) (x := x) (y := y) (m := m.toNat) (n := n.toNat) (by omega) (by omega)
  rwa [Int.toNat_of_nonneg hm, Int.toNat_of_nonneg hn] at h
end

/-- An operand's cells. -/
def Part (E : Env) (x : Operand) (cs : List AV) : Prop := ∀ {w : World} {F : Fz} {v : Value}, (lkO x E).p w F v → ∃ vs : List Value, v.cells = vs.toArray ∧ All2 w F cs vs
theorem p1 {x : Operand} {φ : AV} [h1 : One φ] (hx : lkO x E = φ) : Part E x [φ] := fun {w F v} h => by
  rw [hx] at h
  exact ⟨[v], one_cells (h1.one h), h, trivial⟩
theorem pA {x : Operand} {cs : List AV} (hx : lkO x E = agg cs) : Part E x cs := fun {w F v} h => by
  rw [hx] at h
  obtain ⟨vs, rfl, ha⟩ := h
  exact ⟨vs, rfl, ha⟩
def Parts (E : Env) (n : Nat) : Nat → List (Nat × Operand) → List (List AV) → Prop
  | _, [], [] => True
  | k, (i, x) :: r, cs :: css => i = k ∧ cs.length = n ∧ Part E x cs ∧ Parts E n (k + 1) r css
  | _, _, _ => False

theorem parts_vals {F : Fz} {Ds : List Nat} (hs : SimF B E H a w F Ds) {n : Nat} : ∀ {k : Nat} {ps : List (Nat × Operand)} {css : List (List AV)}, Parts E n k ps css →
    ∃ vs : List Value, (ps.map fun (i, x) => (i, a.eval x)) = ((vs.zipIdx k).map fun x => (x.2, x.1)) ∧ vs.length = css.length ∧ (∀ v ∈ vs, v.cells.size = n) ∧ ps.length = css.length ∧ Els w F n id css (vs.flatMap fun v => v.cells.toList)
  | _, [], [], _ => ⟨[], rfl, rfl, by simp, rfl, Els.nil _ _ _ _⟩
  | k, (i, x) :: r, cs :: css, h => by
    obtain ⟨rfl, hl, hp, hr⟩ := h
    obtain ⟨vs, h1, h2, h3, h4, h5⟩ := parts_vals hs hr
    obtain ⟨us, hu, ha⟩ := hp (hs.opd x)
    have hul := ha.length
    refine ⟨a.eval x :: vs, by simp [h1], by simp [h2], ?_, by simp [h4], ?_⟩
    · intro v hv
      rcases List.mem_cons.1 hv with rfl | hv
      · rw [hu]; simp; omega
      · exact h3 v hv
    · have e : us.length = n := by omega
      have := (Els.one (w := w) (F := F) (enc := id) (x := cs) ha)
      rw [e] at this
      have h6 := this.append h5
      simpa [hu] using h6
  | _, [], _ :: _, h => h.elim
  | _, _ :: _, [], h => h.elim

/-- A literal of a slice: frozen. -/
theorem o_bs {T e n by_ len : Nat} {z : List Value} {ps : List (Nat × Operand)} {css : List (List AV)} (h : Sim B E H a w) (hT : MakeT P T e n by_ z) (hp : Parts E n 0 ps css) (hl : Nat.beq css.length len = true) (h0 : Nat.blt 0 len = true) (hm : Nat.ble (len * n) 1000 = true)
    (k : ∀ a w, Sim B ((d, sl n id css) :: E) H a w → wl r P ops Q rest a w) (hn : Nat.blt d B.nt = true := by rfl) :
    wl r P ops Q ({ dst := some d, op := .buildSlice T len ps.toArray, type := ty, pos := pos, after := af, guard := none } :: rest) a w :=
  op_gen (ι := Unit) (E' := fun _ => (d, sl n id css) :: E) (H' := fun _ => H) h rfl (fun _ => nofun) (fun F Ds hs => by
    obtain ⟨i, hi, hsz, hb, zv, hz, hcells, hzs⟩ := hT.info
    obtain ⟨vs, h1, h2, h3, h4, h5⟩ := parts_vals hs hp
    have hl : css.length = len := by simpa using hl
    have h0 : 0 < len := by simpa using h0
    have hm : len * n ≤ 1000 := by simpa using hm
    have hpos := hT.pos
    have hfill := Great.fill_whole hpos vs ((Array.range (len * i.size)).map (zv.cells[· % zv.cells.size]!)) h3 (by simp [h2, hl, hsz])
    have hne : ¬ len * i.size = 0 := by rw [hsz]; exact Nat.ne_of_gt (Nat.mul_pos h0 hpos)
    have hrun := run_buildSlice (P := P) w T e len (ps.toArray.map fun (i, x) => (i, a.eval x)) (vs.flatMap fun v => v.cells.toList).toArray i zv hT.und hi hz (by rw [hsz]; omega) hne (by
      have : (ps.toArray.map fun (i, x) => (i, a.eval x)).toList = ((vs.zipIdx 0).map fun x => (x.2, x.1)) := by simpa using h1
      rw [this, hsz]; rw [hsz] at hfill; exact hfill)
    have hlen : len ≤ maxL := by unfold maxL; have : len * 1 ≤ len * n := Nat.mul_le_mul_left _ hpos; omega
    have hg := hs.grow (w' := w.alloc (.cells (vs.flatMap fun v => v.cells.toList).toArray e)) (F' := fun b => F b ∨ b = w.heap.size) (by simp) rfl rfl rfl (fun b hb => heap_alloc w _ hb) (fun b hb => .inl hb) (fun b hb => hb.imp id (fun h => by subst h; simp))
    refine ⟨_, _, by simp only [execOp, Sem.run_bind, hrun]; rfl, (), _, Ds, hg.put (by simpa using hn) ?_⟩
    refine ⟨some ⟨w.heap.size, 0, none⟩, len, by rw [hl], by omega, by omega, fun _ => ⟨w.heap.size, 0, _, rfl, .inr rfl, ⟨_, e, (0, 0), heap_new _ _, fun j v hj => by simpa using hj⟩, ?_⟩⟩
    exact h5.st (fun _ h => .inl h) (fun b hb => heap_alloc w _ (hs.Fb b hb).1)) (fun _ => k)

/-- What a struct's literal is built of: its places and its zero value. -/
structure StructT (P : Program) (T : Nat) (pl : List (Nat × Nat)) (z : List Value) : Prop where
  run : ∀ (w : World) (parts : Array (Nat × Value)) (cells : Array Value), Instr.fill (fun i => pl[i]?) z.toArray parts.toList = some cells → (Instr.build T parts).run P w = .ok (.agg cells) w

def structB (P : Program) (T : Nat) (pl : List (Nat × Nat)) : Bool :=
  match P.underlying T with
  | some (.struct fs) => fs.size == pl.length && (List.range pl.length).all fun i => match fs[i]?, pl[i]? with
    | some f, some (o, s) => Nat.beq f.offset o && (match P.info? f.type with | some i => Nat.beq i.size s | none => false)
    | _, _ => false
  | _ => false

theorem run_mapM_places {P : Program} {w : World} : ∀ (fs : List Field) (pl : List (Nat × Nat)), fs.length = pl.length → (∀ (i : Nat) (f : Field) (o s : Nat), fs[i]? = some f → pl[i]? = some (o, s) → f.offset = o ∧ ∃ t, P.info? f.type = some t ∧ t.size = s) →
    (fs.mapM (fun f => do pure (f.offset, ← Go.sizeOf f.type) : Field → Sem (Nat × Nat))).run P w = .ok pl w
  | [], [], _, _ => rfl
  | f :: fs, (o, s) :: pl, hl, h => by
    obtain ⟨h1, t, h2, h3⟩ := h 0 f o s rfl rfl
    have ih := run_mapM_places (P := P) (w := w) fs pl (by simpa using hl) (fun i g o s hg hp => h (i + 1) g o s (by simpa using hg) (by simpa using hp))
    have hsz : (Go.sizeOf f.type).run P w = .ok s w := by simp [Go.sizeOf, typeInfo, program, Sem.run, h2, h3]
    simp only [List.mapM_cons, Sem.run_bind, hsz, Result.andThen_ok, Sem.run_pure, h1, ih]
  | [], _ :: _, hl, _ => by simp at hl
  | _ :: _, [], hl, _ => by simp at hl

theorem structT_of {T : Nat} {pl : List (Nat × Nat)} {z : List Value} (h : structB P T pl = true) (hz : (P.info? T).map (fun i => i.zero.map (fun v => v.cells)) = some (some z.toArray)) : StructT P T pl z := by
  refine ⟨fun w parts cells hf => ?_⟩
  obtain ⟨zv, hzv, hzc⟩ := (zeroIs_of hz).z
  unfold structB at h
  cases hu : P.underlying T with
  | none => simp [hu] at h
  | some D =>
    rw [hu] at h
    cases D <;> simp at h
    case struct fs =>
    obtain ⟨hl, hall⟩ := h
    have hm : (fs.mapM (fun f => do pure (f.offset, ← Go.sizeOf f.type) : Field → Sem (Nat × Nat))).run P w = .ok pl.toArray w := by
      have := run_mapM_places (P := P) (w := w) fs.toList pl (by simpa using hl) (fun i f o s hf' hp => by
        have hi : i < pl.length := (List.getElem?_eq_some_iff.1 hp).1
        have hc := hall i hi
        have hf'' : fs[i]? = some f := by simpa using hf'
        rw [hf'', hp] at hc
        simp at hc
        refine ⟨hc.1, ?_⟩
        cases hi' : P.info? f.type with
        | none => simp [hi'] at hc
        | some t => rw [hi'] at hc; exact ⟨t, rfl, by simpa using hc.2⟩)
      rw [← Array.toArray_toList (xs := fs), List.mapM_toArray]
      simp only [Sem.run_map, this, Result.andThen_ok]
    simp only [Instr.build, Sem.run_bind, hzv, Result.andThen_ok, run_underlying hu, hm, hzc]
    have : (fun (x : Nat) => pl.toArray[x]?) = fun (i : Nat) => pl[i]? := by funext i; simp
    simp only [this, hf]
    rfl

def fillA : List AV → List (Nat × List AV) → List AV
  | cs, [] => cs
  | cs, (o, x) :: r => fillA (cs.take o ++ x ++ cs.drop (o + x.length)) r
def PartsS (E : Env) (pl : List (Nat × Nat)) (tot : Nat) : List (Nat × Operand) → List (Nat × List AV) → Prop
  | [], [] => True
  | (i, x) :: r, (o, cs) :: css => pl[i]? = some (o, cs.length) ∧ Nat.ble (o + cs.length) tot = true ∧ Part E x cs ∧ PartsS E pl tot r css
  | _, _ => False

theorem fill_parts {F : Fz} {Ds : List Nat} (hs : SimF B E H a w F Ds) {pl : List (Nat × Nat)} {tot : Nat} : ∀ {ps : List (Nat × Operand)} {css : List (Nat × List AV)} {cs : List AV} {cells : List Value}, PartsS E pl tot ps css → All2 w F cs cells → cells.length = tot →
    ∃ us : List Value, Instr.fill (fun i => pl[i]?) cells.toArray (ps.map fun (i, x) => (i, a.eval x)) = some us.toArray ∧ All2 w F (fillA cs css) us
  | [], [], cs, cells, _, ha, _ => ⟨cells, rfl, ha⟩
  | (i, x) :: r, (o, xs) :: css, cs, cells, h, ha, hl => by
    obtain ⟨h1, h2, hp, hr⟩ := h
    obtain ⟨us, hu, hau⟩ := hp (hs.opd x)
    have hul := hau.length
    have h2 : o + xs.length ≤ tot := by simpa using h2
    have hcs := ha.length
    have e : ((us.zipIdx).foldl (fun cs (x : Value × Nat) => cs.setIfInBounds (o + x.2) x.1) cells.toArray) = (cells.take o ++ us ++ cells.drop (o + us.length)).toArray := by
      obtain ⟨g1, g2⟩ := Great.foldl_set o us 0 cells.toArray
      apply Array.ext_getElem?
      intro t
      rw [g2 t]
      simp only [Nat.add_zero, List.size_toArray, List.getElem?_toArray, List.getElem?_append, List.length_append, List.length_take, List.getElem?_take, List.getElem?_drop]
      have m1 : min o cells.length = o := by omega
      simp only [m1]
      by_cases c1 : t < o
      · rw [if_neg (by omega), if_pos (by omega), if_pos c1, if_pos c1]
      · by_cases c2 : t < o + us.length
        · rw [if_pos (by omega), if_pos c2, if_neg c1]
        · rw [if_neg (by omega), if_neg c2]
          congr 1; omega
    obtain ⟨us', hf, ha'⟩ := fill_parts hs (cells := cells.take o ++ us ++ cells.drop (o + us.length)) hr (ha.splice o hau) (by simp; omega)
    refine ⟨us', ?_, ha'⟩
    simp only [List.map_cons, Instr.fill, h1, hu]
    rw [if_neg (by simp; omega)]
    have e2 : us.toArray.zipIdx.foldl (fun cs (x : Value × Nat) => cs.setIfInBounds (o + x.2) x.1) cells.toArray = (cells.take o ++ us ++ cells.drop (o + us.length)).toArray := by
      rw [← e]; simp
    rw [e2]; exact hf
  | [], _ :: _, _, _, h, _, _ => h.elim
  | _ :: _, [], _, _, h, _, _ => h.elim

theorem o_bd {T : Nat} {pl : List (Nat × Nat)} {z : List Value} {zs : List AV} {ps : List (Nat × Operand)} {css : List (Nat × List AV)} (h : Sim B E H a w) (hT : StructT P T pl z) (hz : Exact zs z) (hp : PartsS E pl z.length ps css)
    (k : ∀ a w, Sim B ((d, agg (fillA zs css)) :: E) H a w → wl r P ops Q rest a w) (hn : Nat.blt d B.nt = true := by rfl) :
    wl r P ops Q ({ dst := some d, op := .build T ps.toArray, type := ty, pos := pos, after := af, guard := none } :: rest) a w :=
  op_val h rfl rfl hn (fun _ => nofun) (fun F Ds hs => by
    obtain ⟨us, hf, ha⟩ := fill_parts hs hp (hz w F) rfl
    refine ⟨.agg us.toArray, ?_, us, rfl, ha⟩
    have := hT.run w (ps.toArray.map fun (i, x) => (i, a.eval x)) us.toArray (by simpa using hf)
    simp only [execOp, Sem.run_bind, this]; rfl) k

/-- The byte at a place of a string. -/
def byteAt (s : ByteArray) (i : Nat) : Int := ((s.data.getD i 0).toNat : Int)
theorem byteAt_bd (s : ByteArray) (i : Nat) : 0 ≤ byteAt s i ∧ byteAt s i ≤ 255 := by
  unfold byteAt
  have := (s.data.getD i 0).toNat_lt
  omega

theorem o_idxS {T : Nat} {x i : Operand} {s : ByteArray} {m : Int} (h : Sim B E H a w) (hx : lkO x E = str s) (hi : lkO i E = int m) (hT : P.underlying T = some .string) (h0 : 0 ≤ m) (h1 : m < (s.size : Int))
    (k : ∀ a w, Sim B ((d, u8 (byteAt s m.toNat)) :: E) H a w → wl r P ops Q rest a w) (hn : Nat.blt d B.nt = true := by rfl) :
    wl r P ops Q ({ dst := some d, op := .index T x i, type := ty, pos := pos, after := af, guard := none } :: rest) a w :=
  op_val h rfl rfl hn (fun _ => nofun) (fun F Ds hs => by
    have h2 := hs.opd x
    have h3 := hs.opd i
    rw [hx] at h2
    rw [hi] at h3
    have h2 : a.eval x = .string s := h2
    have h3 : a.eval i = .int .i64 m := h3
    have hlt : m.toNat < s.size := by omega
    refine ⟨.int .u8 (byteAt s m.toNat), ?_, rfl⟩
    have e : s[m.toNat]? = some s[m.toNat] := by simp [hlt]
    have e2 : byteAt s m.toNat = (s[m.toNat].toNat : Int) := by
      unfold byteAt
      simp [Array.getD, hlt]
      rfl
    simp only [execOp, h2, h3, Sem.run_bind, Instr.index, asIntOf, Sem.run_pure, Result.andThen_ok, run_underlying hT]
    rw [if_pos h0, e, e2]
    rfl) k

theorem o_idxA {T e m : Nat} {x i : Operand} {cs : List AV} {j : Nat} {φ : AV} (h : Sim B E H a w) (hx : lkO x E = agg cs) (hi : lkO i E = int (j : Int)) (hT : P.underlying T = some (.array m e)) (he : IsOne P e) (hj : Nat.blt j m = true) (hc : cs[j]? = some φ)
    (k : ∀ a w, Sim B ((d, φ) :: E) H a w → wl r P ops Q rest a w) (hn : Nat.blt d B.nt = true := by rfl) :
    wl r P ops Q ({ dst := some d, op := .index T x i, type := ty, pos := pos, after := af, guard := none } :: rest) a w :=
  op_val h rfl rfl hn (fun _ => nofun) (fun F Ds hs => by
    have h2 := hs.opd x
    have h3 := hs.opd i
    rw [hx] at h2
    rw [hi] at h3
    obtain ⟨vs, h2, ha⟩ := h2
    have h3 : a.eval i = .int .i64 (j : Int) := h3
    obtain ⟨v, hv, hp⟩ := ha.get hc
    have hj' : j < m := by simpa using hj
    refine ⟨v, ?_, hp⟩
    simp only [execOp, h2, h3, Sem.run_bind, Instr.index, asIntOf, Sem.run_pure, Result.andThen_ok, run_underlying hT]
    have hcond : (0 : Int) ≤ (j : Int) ∧ (j : Int) < (m : Int) := by omega
    rw [if_pos hcond]
    simp [he.size, part, he.agg, hv]) k
end
end AL
