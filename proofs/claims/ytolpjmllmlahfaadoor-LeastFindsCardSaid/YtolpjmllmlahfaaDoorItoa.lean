/- The decimal numeral, as the shelf has it. -/
import Derived.Test.YtolpjmllmlahfaaDoorBase
import Derived.Test.YtolpjmllmlahfaaDoorALTab
import Derived.Shelf.LaysM
import Derived.Shelf.Strconv.Itoa3
import Derived.Lib.ItoaLen
namespace Go.Proofs.YtolpjmllmlahfaaDoor
open AL Go Go.Shelf
set_option maxRecDepth 100000
set_option linter.all false
namespace Itoa
def ren171 : Go.Shelf.Ren :=
{
  f := fun x =>
    match x with
    | 171 => 93
    | 243 => 114
    | 246 => 136
    | 283 => 150
    | 284 => 151
    | 285 => 152
    | 286 => 153
    | 129 => 134
    | 317 => 158
    | 318 => 159
    | 319 => 160
    | 320 => 161
    | 337 => 163
    | 338 => 164
    | n => n,
  t := fun x =>
    match x with
    | 3 => 3
    | 9 => 9
    | 2 => 2
    | 4 => 4
    | 171 => 197
    | 0 => 0
    | 53 => 168
    | 37 => 199
    | 5 => 5
    | 173 => 200
    | 212 => 208
    | 51 => 165
    | 20 => 20
    | 213 => 209
    | 46 => 143
    | 232 => 211
    | 233 => 212
    | n => n,
  g := fun x =>
    match x with
    | 17 => 0
    | 18 => 1
    | 19 => 2
    | n => n }
theorem lays171 : LaysM.n171 Tryd.prog ren171 :=
{ mixed := Eq.refl true, f129 := Eq.trans Tryd.func134 (congrArg some (Eq.refl (Body.n129 ren171))),
  f171 := Eq.trans Tryd.func93 (congrArg some (Eq.refl (Body.n171 ren171))),
  f243 := Eq.trans Tryd.func114 (congrArg some (Eq.refl (Body.n243 ren171))),
  f246 := Eq.trans Tryd.func136 (congrArg some (Eq.refl (Body.n246 ren171))),
  f283 := Eq.trans Tryd.func150 (congrArg some (Eq.refl (Body.n283 ren171))),
  f284 := Eq.trans Tryd.func151 (congrArg some (Eq.refl (Body.n284 ren171))),
  f285 := Eq.trans Tryd.func152 (congrArg some (Eq.refl (Body.n285 ren171))),
  f286 := Eq.trans Tryd.func153 (congrArg some (Eq.refl (Body.n286 ren171))),
  f317 := Eq.trans Tryd.func158 (congrArg some (Eq.refl (Body.n317 ren171))),
  f318 := Eq.trans Tryd.func159 (congrArg some (Eq.refl (Body.n318 ren171))),
  f319 := Eq.trans Tryd.func160 (congrArg some (Eq.refl (Body.n319 ren171))),
  f320 := Eq.trans Tryd.func161 (congrArg some (Eq.refl (Body.n320 ren171))),
  f337 := Eq.trans Tryd.func163 (congrArg some (Eq.refl (Body.n337 ren171))),
  f338 := Eq.trans Tryd.func164 (congrArg some (Eq.refl (Body.n338 ren171))), t0 := Tryd.underlying0,
  a0 := Tryd.isAgg0, z0 := Tryd.sizeOf0, v0 := Tryd.zeroValue0, t2 := Tryd.underlying2, a2 := Tryd.isAgg2,
  z2 := Tryd.sizeOf2, v2 := Tryd.zeroValue2, t3 := Tryd.underlying3, a3 := Tryd.isAgg3, z3 := Tryd.sizeOf3,
  v3 := Tryd.zeroValue3, t4 := Tryd.underlying4, a4 := Tryd.isAgg4, z4 := Tryd.sizeOf4, v4 := Tryd.zeroValue4,
  t5 := Tryd.underlying5, a5 := Tryd.isAgg5, z5 := Tryd.sizeOf5, v5 := Tryd.zeroValue5, t9 := Tryd.underlying9,
  a9 := Tryd.isAgg9, z9 := Tryd.sizeOf9, v9 := Tryd.zeroValue9, t20 := Tryd.underlying20, a20 := Tryd.isAgg20,
  z20 := Tryd.sizeOf20, v20 := Tryd.zeroValue20, t37 := Tryd.underlying199, a37 := Tryd.isAgg199, z37 := Tryd.sizeOf199,
  v37 := Tryd.zeroValue199, t46 := Tryd.underlying143, a46 := Tryd.isAgg143, z46 := Tryd.sizeOf143,
  v46 := Tryd.zeroValue143, t51 := Tryd.underlying165, a51 := Tryd.isAgg165, z51 := Tryd.sizeOf165,
  v51 := Tryd.zeroValue165, t53 := Tryd.underlying168, a53 := Tryd.isAgg168, z53 := Tryd.sizeOf168,
  v53 := Tryd.zeroValue168, t171 := Tryd.underlying197, a171 := Tryd.isAgg197, z171 := Tryd.sizeOf197,
  v171 := Tryd.zeroValue197, t173 := Tryd.underlying200, a173 := Tryd.isAgg200, z173 := Tryd.sizeOf200,
  v173 := Tryd.zeroValue200, t212 := Tryd.underlying208, a212 := Tryd.isAgg208, z212 := Tryd.sizeOf208,
  v212 := Tryd.zeroValue208, t213 := Tryd.underlying209, a213 := Tryd.isAgg209, z213 := Tryd.sizeOf209,
  t232 := Tryd.underlying211, a232 := Tryd.isAgg211, z232 := Tryd.sizeOf211, v232 := Tryd.zeroValue211,
  t233 := Tryd.underlying212, a233 := Tryd.isAgg212, z233 := Tryd.sizeOf212, v233 := Tryd.zeroValue212,
  g17 := by kernel_rfl, g18 := by kernel_rfl,
  g19 := by kernel_rfl, i0 := Eq.refl (some (some (Value.tuple #[]), 1, 0)),
  i2 := Eq.refl (some (some (Value.int IntKind.i64 0), 1, 8)),
  i3 := Eq.refl (some (some (Value.int IntKind.i64 0), 1, 8)), i4 := Eq.refl (some (some (Value.bool false), 1, 1)),
  i5 := Eq.refl (some (some (Value.int IntKind.u8 0), 1, 1)),
  i9 := Eq.refl (some (some (Value.string ⟨#[]⟩), 1, 16)), i20 := Eq.refl (some (some Value.nilIface, 1, 16)),
  i37 := Eq.refl (some (some (Value.slice none 0 0), 1, 24)),
  i46 := Eq.refl (some (some (Value.int IntKind.u64 0), 1, 8)),
  i51 := Eq.refl (some (some (Value.int IntKind.u32 0), 1, 4)),
  i53 := Eq.refl (some (some (Value.int IntKind.u64 0), 1, 8)),
  i171 :=
    Eq.refl
      (some
        (some
            (Value.agg
              #[Value.int IntKind.u8 0, Value.int IntKind.u8 0, Value.int IntKind.u8 0, Value.int IntKind.u8 0,
                Value.int IntKind.u8 0, Value.int IntKind.u8 0, Value.int IntKind.u8 0, Value.int IntKind.u8 0,
                Value.int IntKind.u8 0, Value.int IntKind.u8 0, Value.int IntKind.u8 0, Value.int IntKind.u8 0,
                Value.int IntKind.u8 0, Value.int IntKind.u8 0, Value.int IntKind.u8 0, Value.int IntKind.u8 0,
                Value.int IntKind.u8 0, Value.int IntKind.u8 0, Value.int IntKind.u8 0, Value.int IntKind.u8 0,
                Value.int IntKind.u8 0, Value.int IntKind.u8 0, Value.int IntKind.u8 0, Value.int IntKind.u8 0]),
          24, 24)),
  i173 := Eq.refl (some (some (Value.tuple #[Value.slice none 0 0, Value.string ⟨#[]⟩]), 1, 0)),
  i212 :=
    Eq.refl
      (some
        (some
            (Value.agg
              #[Value.int IntKind.u64 0, Value.int IntKind.u64 0, Value.int IntKind.u64 0, Value.int IntKind.u64 0,
                Value.int IntKind.u64 0, Value.int IntKind.u64 0, Value.int IntKind.u64 0, Value.int IntKind.u64 0,
                Value.int IntKind.u64 0, Value.int IntKind.u64 0, Value.int IntKind.u64 0, Value.int IntKind.u64 0,
                Value.int IntKind.u64 0, Value.int IntKind.u64 0, Value.int IntKind.u64 0, Value.int IntKind.u64 0,
                Value.int IntKind.u64 0, Value.int IntKind.u64 0, Value.int IntKind.u64 0, Value.int IntKind.u64 0]),
          20, 160)),
  i232 :=
    Eq.refl
      (some
        (some
            (Value.agg
              #[Value.int IntKind.u8 0, Value.int IntKind.u8 0, Value.int IntKind.u8 0, Value.int IntKind.u8 0,
                Value.int IntKind.u8 0, Value.int IntKind.u8 0, Value.int IntKind.u8 0, Value.int IntKind.u8 0,
                Value.int IntKind.u8 0, Value.int IntKind.u8 0, Value.int IntKind.u8 0, Value.int IntKind.u8 0,
                Value.int IntKind.u8 0, Value.int IntKind.u8 0, Value.int IntKind.u8 0, Value.int IntKind.u8 0,
                Value.int IntKind.u8 0, Value.int IntKind.u8 0, Value.int IntKind.u8 0, Value.int IntKind.u8 0,
                Value.int IntKind.u8 0, Value.int IntKind.u8 0, Value.int IntKind.u8 0, Value.int IntKind.u8 0,
                Value.int IntKind.u8 0, Value.int IntKind.u8 0, Value.int IntKind.u8 0, Value.int IntKind.u8 0,
                Value.int IntKind.u8 0, Value.int IntKind.u8 0, Value.int IntKind.u8 0, Value.int IntKind.u8 0]),
          32, 32)),
  i233 :=
    Eq.refl
      (some
        (some
            (Value.agg
              (let y :=
                  let y :=
                    let y :=
                      let y :=
                        [Value.int IntKind.u8 0, Value.int IntKind.u8 0, Value.int IntKind.u8 0,
                          Value.int IntKind.u8 0];
                      Value.int IntKind.u8 0 ::
                        Value.int IntKind.u8 0 :: Value.int IntKind.u8 0 :: Value.int IntKind.u8 0 :: y;
                    let y :=
                      Value.int IntKind.u8 0 ::
                        Value.int IntKind.u8 0 :: Value.int IntKind.u8 0 :: Value.int IntKind.u8 0 :: y;
                    Value.int IntKind.u8 0 ::
                      Value.int IntKind.u8 0 :: Value.int IntKind.u8 0 :: Value.int IntKind.u8 0 :: y;
                  let y :=
                    let y :=
                      Value.int IntKind.u8 0 ::
                        Value.int IntKind.u8 0 :: Value.int IntKind.u8 0 :: Value.int IntKind.u8 0 :: y;
                    Value.int IntKind.u8 0 ::
                      Value.int IntKind.u8 0 :: Value.int IntKind.u8 0 :: Value.int IntKind.u8 0 :: y;
                  let y :=
                    Value.int IntKind.u8 0 ::
                      Value.int IntKind.u8 0 :: Value.int IntKind.u8 0 :: Value.int IntKind.u8 0 :: y;
                  Value.int IntKind.u8 0 ::
                    Value.int IntKind.u8 0 :: Value.int IntKind.u8 0 :: Value.int IntKind.u8 0 :: y;
                let y :=
                  let y :=
                    let y :=
                      Value.int IntKind.u8 0 ::
                        Value.int IntKind.u8 0 :: Value.int IntKind.u8 0 :: Value.int IntKind.u8 0 :: y;
                    Value.int IntKind.u8 0 ::
                      Value.int IntKind.u8 0 :: Value.int IntKind.u8 0 :: Value.int IntKind.u8 0 :: y;
                  let y :=
                    Value.int IntKind.u8 0 ::
                      Value.int IntKind.u8 0 :: Value.int IntKind.u8 0 :: Value.int IntKind.u8 0 :: y;
                  Value.int IntKind.u8 0 ::
                    Value.int IntKind.u8 0 :: Value.int IntKind.u8 0 :: Value.int IntKind.u8 0 :: y;
                let y :=
                  let y :=
                    Value.int IntKind.u8 0 ::
                      Value.int IntKind.u8 0 :: Value.int IntKind.u8 0 :: Value.int IntKind.u8 0 :: y;
                  Value.int IntKind.u8 0 ::
                    Value.int IntKind.u8 0 :: Value.int IntKind.u8 0 :: Value.int IntKind.u8 0 :: y;
                let y :=
                  Value.int IntKind.u8 0 ::
                    Value.int IntKind.u8 0 :: Value.int IntKind.u8 0 :: Value.int IntKind.u8 0 :: y;
                Value.int IntKind.u8 0 ::
                  Value.int IntKind.u8 0 :: Value.int IntKind.u8 0 :: Value.int IntKind.u8 0 :: y).toArray),
          64, 64)),
  m17 := by kernel_rfl, m18 := by kernel_rfl,
  m19 := by kernel_rfl }
def tabName : String := "internal/strconv.uint64pow10"
/-- The library's table lies as its initialiser lays it, where nothing is written. -/
def tab : AV := ⟨fun w F _ => ∃ g, Tryd.prog.globalNamed tabName = some g ∧ F g ∧ Lib.TabIs Tryd.prog w tabName .u64 Lib.pow10Tab, fun {w F w' F' v} hF hw ⟨g, h1, h2, h3⟩ => ⟨g, h1, hF g h2, by
  unfold Lib.TabIs World.var? at h3 ⊢
  rw [h1] at h3 ⊢
  simp only [Option.bind_some] at h3 ⊢
  rw [hw g h2]; exact h3⟩⟩
instance : Amb tab := ⟨fun _ h => h⟩
abbrev tabbed (φ : AV) : AV := both φ tab
def itoaB (n : Int) : ByteArray := ⟨(Lib.itoa n).toArray⟩
theorem itoa_size {n : Int} (h0 : -9223372036854775808 ≤ n) (h1 : n ≤ 9223372036854775807) : (itoaB n).size ≤ 21 := by
  have := Lib.itoa_length_le n h0 h1
  show (Lib.itoa n).toArray.size ≤ 21
  simpa using this
attribute [local semireducible] eqv emp in
theorem Itoa_ok (n : Int) (h0 : -9223372036854775808 ≤ n) (h1 : n ≤ 9223372036854775807) : Fn0 Tryd.prog 93 [tabbed (int n)] (str (itoaB n)) := by
  intro w F vs hvs hb hH
  match vs, hvs with
  | [v], ⟨⟨hv, g, hg, hF, ht⟩, _⟩ =>
    have hv : v = .int .i64 n := hv
    subst hv
    refine (Any.strconv_Itoa lays171 n h0 h1 w ht).mono ?_
    rintro e w' ⟨rfl, k, os, rfl⟩
    refine ⟨(), _, F, rfl, ?_⟩
    have hheap : ∀ b, b < w.heap.size → (Sort.grow (w.drewN k) os).heap[b]? = w.heap[b]? := fun b hb => by
      show (w.heap ++ os)[b]? = _
      rw [Array.getElem?_append_left hb]
    exact { res := rfl, ok := hpOk_nil _ _, sub := fun _ h => h, new := fun b h => .inl h, foot := fun b h => by obtain ⟨k, h⟩ := h; exact (show False from h).elim, old := fun b hb _ => hheap b hb, size := by show _ ≤ (w.heap ++ os).size; simp, os := rfl, tape := rfl, out := rfl }
end Itoa
end Go.Proofs.YtolpjmllmlahfaaDoor
