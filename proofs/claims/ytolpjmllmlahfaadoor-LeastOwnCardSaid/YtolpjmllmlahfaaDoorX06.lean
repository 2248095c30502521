/- The walks of the functions and the plain laws. Own texts of this claim, packed: Itoa, Keys, prog10, RoundM, prog11, MergeM, prog12, prog13, RingM. -/
import Derived.Test.YtolpjmllmlahfaaDoorX03
import Derived.Test.YtolpjmllmlahfaaDoorX02
import Derived.Shelf.LaysM
import Derived.Shelf.Strconv.Itoa3
import Derived.Lib.ItoaLen
import Derived.Test.YtolpjmllmlahfaaDoorX05
import Derived.Test.YtolpjmllmlahfaaDoorX04
set_option linter.all false
/- The decimal numeral, as the shelf has it. -/





namespace Go.Proofs.YtolpjmllmlahfaaDoor
open AL Go Go.Shelf
set_option maxRecDepth 100000
set_option linter.all false
namespace Itoa
def ren171 : Go.Shelf.Ren :=
{
  f := fun x =>
    match x with
    | 171 => 93
    | 243 => 114
    | 246 => 136
    | 283 => 150
    | 284 => 151
    | 285 => 152
    | 286 => 153
    | 129 => 134
    | 317 => 158
    | 318 => 159
    | 319 => 160
    | 320 => 161
    | 337 => 163
    | 338 => 164
    | n => n,
  t := fun x =>
    match x with
    | 3 => 3
    | 9 => 9
    | 2 => 2
    | 4 => 4
    | 171 => 197
    | 0 => 0
    | 53 => 168
    | 37 => 199
    | 5 => 5
    | 173 => 200
    | 212 => 208
    | 51 => 165
    | 20 => 20
    | 213 => 209
    | 46 => 143
    | 232 => 211
    | 233 => 212
    | n => n,
  g := fun x =>
    match x with
    | 17 => 0
    | 18 => 1
    | 19 => 2
    | n => n }
theorem lays171 : LaysM.n171 Tryd.prog ren171 :=
{ mixed := Eq.refl true, f129 := Eq.trans Tryd.func134 (congrArg some (Eq.refl (Body.n129 ren171))),
  f171 := Eq.trans Tryd.func93 (congrArg some (Eq.refl (Body.n171 ren171))),
  f243 := Eq.trans Tryd.func114 (congrArg some (Eq.refl (Body.n243 ren171))),
  f246 := Eq.trans Tryd.func136 (congrArg some (Eq.refl (Body.n246 ren171))),
  f283 := Eq.trans Tryd.func150 (congrArg some (Eq.refl (Body.n283 ren171))),
  f284 := Eq.trans Tryd.func151 (congrArg some (Eq.refl (Body.n284 ren171))),
  f285 := Eq.trans Tryd.func152 (congrArg some (Eq.refl (Body.n285 ren171))),
  f286 := Eq.trans Tryd.func153 (congrArg some (Eq.refl (Body.n286 ren171))),
  f317 := Eq.trans Tryd.func158 (congrArg some (Eq.refl (Body.n317 ren171))),
  f318 := Eq.trans Tryd.func159 (congrArg some (Eq.refl (Body.n318 ren171))),
  f319 := Eq.trans Tryd.func160 (congrArg some (Eq.refl (Body.n319 ren171))),
  f320 := Eq.trans Tryd.func161 (congrArg some (Eq.refl (Body.n320 ren171))),
  f337 := Eq.trans Tryd.func163 (congrArg some (Eq.refl (Body.n337 ren171))),
  f338 := Eq.trans Tryd.func164 (congrArg some (Eq.refl (Body.n338 ren171))), t0 := Tryd.underlying0,
  a0 := Tryd.isAgg0, z0 := Tryd.sizeOf0, v0 := Tryd.zeroValue0, t2 := Tryd.underlying2, a2 := Tryd.isAgg2,
  z2 := Tryd.sizeOf2, v2 := Tryd.zeroValue2, t3 := Tryd.underlying3, a3 := Tryd.isAgg3, z3 := Tryd.sizeOf3,
  v3 := Tryd.zeroValue3, t4 := Tryd.underlying4, a4 := Tryd.isAgg4, z4 := Tryd.sizeOf4, v4 := Tryd.zeroValue4,
  t5 := Tryd.underlying5, a5 := Tryd.isAgg5, z5 := Tryd.sizeOf5, v5 := Tryd.zeroValue5, t9 := Tryd.underlying9,
  a9 := Tryd.isAgg9, z9 := Tryd.sizeOf9, v9 := Tryd.zeroValue9, t20 := Tryd.underlying20, a20 := Tryd.isAgg20,
  z20 := Tryd.sizeOf20, v20 := Tryd.zeroValue20, t37 := Tryd.underlying199, a37 := Tryd.isAgg199, z37 := Tryd.sizeOf199,
  v37 := Tryd.zeroValue199, t46 := Tryd.underlying143, a46 := Tryd.isAgg143, z46 := Tryd.sizeOf143,
  v46 := Tryd.zeroValue143, t51 := Tryd.underlying165, a51 := Tryd.isAgg165, z51 := Tryd.sizeOf165,
  v51 := Tryd.zeroValue165, t53 := Tryd.underlying168, a53 := Tryd.isAgg168, z53 := Tryd.sizeOf168,
  v53 := Tryd.zeroValue168, t171 := Tryd.underlying197, a171 := Tryd.isAgg197, z171 := Tryd.sizeOf197,
  v171 := Tryd.zeroValue197, t173 := Tryd.underlying200, a173 := Tryd.isAgg200, z173 := Tryd.sizeOf200,
  v173 := Tryd.zeroValue200, t212 := Tryd.underlying208, a212 := Tryd.isAgg208, z212 := Tryd.sizeOf208,
  v212 := Tryd.zeroValue208, t213 := Tryd.underlying209, a213 := Tryd.isAgg209, z213 := Tryd.sizeOf209,
  t232 := Tryd.underlying211, a232 := Tryd.isAgg211, z232 := Tryd.sizeOf211, v232 := Tryd.zeroValue211,
  t233 := Tryd.underlying212, a233 := Tryd.isAgg212, z233 := Tryd.sizeOf212, v233 := Tryd.zeroValue212,
  g17 := by kernel_rfl, g18 := by kernel_rfl,
  g19 := by kernel_rfl, i0 := Eq.refl (some (some (Value.tuple #[]), 1, 0)),
  i2 := Eq.refl (some (some (Value.int IntKind.i64 0), 1, 8)),
  i3 := Eq.refl (some (some (Value.int IntKind.i64 0), 1, 8)), i4 := Eq.refl (some (some (Value.bool false), 1, 1)),
  i5 := Eq.refl (some (some (Value.int IntKind.u8 0), 1, 1)),
  i9 := Eq.refl (some (some (Value.string ⟨#[]⟩), 1, 16)), i20 := Eq.refl (some (some Value.nilIface, 1, 16)),
  i37 := Eq.refl (some (some (Value.slice none 0 0), 1, 24)),
  i46 := Eq.refl (some (some (Value.int IntKind.u64 0), 1, 8)),
  i51 := Eq.refl (some (some (Value.int IntKind.u32 0), 1, 4)),
  i53 := Eq.refl (some (some (Value.int IntKind.u64 0), 1, 8)),
  i171 :=
    Eq.refl
      (some
        (some
            (Value.agg
              #[Value.int IntKind.u8 0, Value.int IntKind.u8 0, Value.int IntKind.u8 0, Value.int IntKind.u8 0,
                Value.int IntKind.u8 0, Value.int IntKind.u8 0, Value.int IntKind.u8 0, Value.int IntKind.u8 0,
                Value.int IntKind.u8 0, Value.int IntKind.u8 0, Value.int IntKind.u8 0, Value.int IntKind.u8 0,
                Value.int IntKind.u8 0, Value.int IntKind.u8 0, Value.int IntKind.u8 0, Value.int IntKind.u8 0,
                Value.int IntKind.u8 0, Value.int IntKind.u8 0, Value.int IntKind.u8 0, Value.int IntKind.u8 0,
                Value.int IntKind.u8 0, Value.int IntKind.u8 0, Value.int IntKind.u8 0, Value.int IntKind.u8 0]),
          24, 24)),
  i173 := Eq.refl (some (some (Value.tuple #[Value.slice none 0 0, Value.string ⟨#[]⟩]), 1, 0)),
  i212 :=
    Eq.refl
      (some
        (some
            (Value.agg
              #[Value.int IntKind.u64 0, Value.int IntKind.u64 0, Value.int IntKind.u64 0, Value.int IntKind.u64 0,
                Value.int IntKind.u64 0, Value.int IntKind.u64 0, Value.int IntKind.u64 0, Value.int IntKind.u64 0,
                Value.int IntKind.u64 0, Value.int IntKind.u64 0, Value.int IntKind.u64 0, Value.int IntKind.u64 0,
                Value.int IntKind.u64 0, Value.int IntKind.u64 0, Value.int IntKind.u64 0, Value.int IntKind.u64 0,
                Value.int IntKind.u64 0, Value.int IntKind.u64 0, Value.int IntKind.u64 0, Value.int IntKind.u64 0]),
          20, 160)),
  i232 :=
    Eq.refl
      (some
        (some
            (Value.agg
              #[Value.int IntKind.u8 0, Value.int IntKind.u8 0, Value.int IntKind.u8 0, Value.int IntKind.u8 0,
                Value.int IntKind.u8 0, Value.int IntKind.u8 0, Value.int IntKind.u8 0, Value.int IntKind.u8 0,
                Value.int IntKind.u8 0, Value.int IntKind.u8 0, Value.int IntKind.u8 0, Value.int IntKind.u8 0,
                Value.int IntKind.u8 0, Value.int IntKind.u8 0, Value.int IntKind.u8 0, Value.int IntKind.u8 0,
                Value.int IntKind.u8 0, Value.int IntKind.u8 0, Value.int IntKind.u8 0, Value.int IntKind.u8 0,
                Value.int IntKind.u8 0, Value.int IntKind.u8 0, Value.int IntKind.u8 0, Value.int IntKind.u8 0,
                Value.int IntKind.u8 0, Value.int IntKind.u8 0, Value.int IntKind.u8 0, Value.int IntKind.u8 0,
                Value.int IntKind.u8 0, Value.int IntKind.u8 0, Value.int IntKind.u8 0, Value.int IntKind.u8 0]),
          32, 32)),
  i233 :=
    Eq.refl
      (some
        (some
            (Value.agg
              (let y :=
                  let y :=
                    let y :=
                      let y :=
                        [Value.int IntKind.u8 0, Value.int IntKind.u8 0, Value.int IntKind.u8 0,
                          Value.int IntKind.u8 0];
                      Value.int IntKind.u8 0 ::
                        Value.int IntKind.u8 0 :: Value.int IntKind.u8 0 :: Value.int IntKind.u8 0 :: y;
                    let y :=
                      Value.int IntKind.u8 0 ::
                        Value.int IntKind.u8 0 :: Value.int IntKind.u8 0 :: Value.int IntKind.u8 0 :: y;
                    Value.int IntKind.u8 0 ::
                      Value.int IntKind.u8 0 :: Value.int IntKind.u8 0 :: Value.int IntKind.u8 0 :: y;
                  let y :=
                    let y :=
                      Value.int IntKind.u8 0 ::
                        Value.int IntKind.u8 0 :: Value.int IntKind.u8 0 :: Value.int IntKind.u8 0 :: y;
                    Value.int IntKind.u8 0 ::
                      Value.int IntKind.u8 0 :: Value.int IntKind.u8 0 :: Value.int IntKind.u8 0 :: y;
                  let y :=
                    Value.int IntKind.u8 0 ::
                      Value.int IntKind.u8 0 :: Value.int IntKind.u8 0 :: Value.int IntKind.u8 0 :: y;
                  Value.int IntKind.u8 0 ::
                    Value.int IntKind.u8 0 :: Value.int IntKind.u8 0 :: Value.int IntKind.u8 0 :: y;
                let y :=
                  let y :=
                    let y :=
                      Value.int IntKind.u8 0 ::
                        Value.int IntKind.u8 0 :: Value.int IntKind.u8 0 :: Value.int IntKind.u8 0 :: y;
                    Value.int IntKind.u8 0 ::
                      Value.int IntKind.u8 0 :: Value.int IntKind.u8 0 :: Value.int IntKind.u8 0 :: y;
                  let y :=
                    Value.int IntKind.u8 0 ::
                      Value.int IntKind.u8 0 :: Value.int IntKind.u8 0 :: Value.int IntKind.u8 0 :: y;
                  Value.int IntKind.u8 0 ::
                    Value.int IntKind.u8 0 :: Value.int IntKind.u8 0 :: Value.int IntKind.u8 0 :: y;
                let y :=
                  let y :=
                    Value.int IntKind.u8 0 ::
                      Value.int IntKind.u8 0 :: Value.int IntKind.u8 0 :: Value.int IntKind.u8 0 :: y;
                  Value.int IntKind.u8 0 ::
                    Value.int IntKind.u8 0 :: Value.int IntKind.u8 0 :: Value.int IntKind.u8 0 :: y;
                let y :=
                  Value.int IntKind.u8 0 ::
                    Value.int IntKind.u8 0 :: Value.int IntKind.u8 0 :: Value.int IntKind.u8 0 :: y;
                Value.int IntKind.u8 0 ::
                  Value.int IntKind.u8 0 :: Value.int IntKind.u8 0 :: Value.int IntKind.u8 0 :: y).toArray),
          64, 64)),
  m17 := by kernel_rfl, m18 := by kernel_rfl,
  m19 := by kernel_rfl }
def tabName : String := "internal/strconv.uint64pow10"
/-- The library's table lies as its initialiser lays it, where nothing is written. -/
def tab : AV := ⟨fun w F _ => ∃ g, Tryd.prog.globalNamed tabName = some g ∧ F g ∧ Lib.TabIs Tryd.prog w tabName .u64 Lib.pow10Tab, fun {w F w' F' v} hF hw ⟨g, h1, h2, h3⟩ => ⟨g, h1, hF g h2, by
  unfold Lib.TabIs World.var? at h3 ⊢
  rw [h1] at h3 ⊢
  simp only [Option.bind_some] at h3 ⊢
  rw [hw g h2]; exact h3⟩⟩
instance : Amb tab := ⟨fun _ h => h⟩
abbrev tabbed (φ : AV) : AV := both φ tab
def itoaB (n : Int) : ByteArray := ⟨(Lib.itoa n).toArray⟩
theorem itoa_size {n : Int} (h0 : -9223372036854775808 ≤ n) (h1 : n ≤ 9223372036854775807) : (itoaB n).size ≤ 21 := by
  have := Lib.itoa_length_le n h0 h1
  show (Lib.itoa n).toArray.size ≤ 21
  simpa using this
attribute [local semireducible] eqv emp in
theorem Itoa_ok (n : Int) (h0 : -9223372036854775808 ≤ n) (h1 : n ≤ 9223372036854775807) : Fn0 Tryd.prog 93 [tabbed (int n)] (str (itoaB n)) := by
  intro w F vs hvs hb hH
  match vs, hvs with
  | [v], ⟨⟨hv, g, hg, hF, ht⟩, _⟩ =>
    have hv : v = .int .i64 n := hv
    subst hv
    refine (Any.strconv_Itoa lays171 n h0 h1 w ht).mono ?_
    rintro e w' ⟨rfl, k, os, rfl⟩
    refine ⟨(), _, F, rfl, ?_⟩
    have hheap : ∀ b, b < w.heap.size → (Sort.grow (w.drewN k) os).heap[b]? = w.heap[b]? := fun b hb => by
      show (w.heap ++ os)[b]? = _
      rw [Array.getElem?_append_left hb]
    exact { res := rfl, ok := hpOk_nil _ _, sub := fun _ h => h, new := fun b h => .inl h, foot := fun b h => by obtain ⟨k, h⟩ := h; exact (show False from h).elim, old := fun b hb _ => hheap b hb, size := by show _ ≤ (w.heap ++ os).size; simp, os := rfl, tape := rfl, out := rfl }
end Itoa
end Go.Proofs.YtolpjmllmlahfaaDoor

/- Keys of classes: numerals behind blanks: plain Lean. -/


namespace Go.Proofs.YtolpjmllmlahfaaDoor
open AL ref01 ref03 ref04 ref06 Rungs LeftM TrimM Itoa
namespace Keys
def dval (l : List UInt8) : Nat := l.foldl (fun a d => a * 10 + (d.toNat - 48)) 0
theorem dval_snoc (l : List UInt8) (d : UInt8) : dval (l ++ [d]) = dval l * 10 + (d.toNat - 48) := by simp [dval]
theorem dec_spec (u : Nat) : dval (Lib.decDigits u) = u ∧ (∀ d ∈ Lib.decDigits u, d ≠ 32) ∧ Lib.decDigits u ≠ [] := by
  induction u using Nat.strongRecOn with
  | ind u ih =>
    have hd : ∀ k, k < 10 → (UInt8.ofNat (48 + k)).toNat = 48 + k := fun k hk => by
      rw [UInt8.toNat_ofNat']; omega
    have hne : ∀ k, k < 10 → UInt8.ofNat (48 + k) ≠ 32 := fun k hk e => by
      have := congrArg UInt8.toNat e
      rw [hd k hk] at this
      have h2 : (32 : UInt8).toNat = 32 := rfl
      omega
    rw [Lib.decDigits]
    by_cases h : u < 10
    · rw [dif_pos h]
      refine ⟨?_, fun d hm => ?_, by simp⟩
      · have := dval_snoc [] (UInt8.ofNat (48 + u))
        rw [List.nil_append] at this
        rw [this, hd u h]
        show 0 * 10 + _ = u
        omega
      · have : d = UInt8.ofNat (48 + u) := by simpa using hm
        subst this; exact hne u h
    · rw [dif_neg h]
      obtain ⟨h1, h2, h3⟩ := ih (u / 10) (by omega)
      refine ⟨?_, fun d hm => ?_, by simp⟩
      · rw [dval_snoc, h1, hd _ (by omega)]; omega
      · rcases List.mem_append.1 hm with hm | hm
        · exact h2 d hm
        · have : d = UInt8.ofNat (48 + u % 10) := by simpa using hm
          subst this; exact hne _ (by omega)
theorem itoa_nn {n : Int} (h : 0 ≤ n) : Lib.itoa n = Lib.decDigits n.toNat := by unfold Lib.itoa; rw [if_neg (by omega)]
theorem itoa_inj {m n : Int} (hm : 0 ≤ m) (hn : 0 ≤ n) (h : Lib.itoa m = Lib.itoa n) : m = n := by
  rw [itoa_nn hm, itoa_nn hn] at h
  have h1 := (dec_spec m.toNat).1
  have h2 := (dec_spec n.toNat).1
  rw [h, h2] at h1
  omega
theorem itoa_no {m : Int} (hm : 0 ≤ m) : ∀ d ∈ Lib.itoa m, d ≠ 32 := by
  rw [itoa_nn hm]; exact (dec_spec _).2.1
/-- Numerals, a blank ahead of each. -/
def tail_ (l : List Int) : List UInt8 := l.flatMap fun t => 32 :: Lib.itoa t
theorem cut_eq {a b r s : List UInt8} (ha : ∀ d ∈ a, d ≠ 32) (hb : ∀ d ∈ b, d ≠ 32) (hr : r = [] ∨ ∃ t, r = 32 :: t) (hs : s = [] ∨ ∃ t, s = 32 :: t) (h : a ++ r = b ++ s) : a = b ∧ r = s := by
  induction a generalizing b with
  | nil =>
    cases b with
    | nil => exact ⟨rfl, h⟩
    | cons y b =>
      rcases hr with rfl | ⟨t, rfl⟩
      · simp at h
      · simp at h; exact absurd h.1.symm (hb y (by simp))
  | cons x a ih =>
    cases b with
    | nil =>
      rcases hs with rfl | ⟨t, rfl⟩
      · simp at h
      · simp at h; exact absurd h.1 (ha x (by simp))
    | cons y b =>
      simp at h
      obtain ⟨h1, h2⟩ := ih (fun d hd => ha d (by simp [hd])) (fun d hd => hb d (by simp [hd])) h.2
      exact ⟨by rw [h.1, h1], h2⟩
theorem tail_cases (l : List Int) : tail_ l = [] ∨ ∃ t, tail_ l = 32 :: t := by
  cases l with
  | nil => exact .inl rfl
  | cons x l => exact .inr ⟨_, rfl⟩
theorem tail_inj : ∀ {l m : List Int}, (∀ x ∈ l, 0 ≤ x) → (∀ x ∈ m, 0 ≤ x) → tail_ l = tail_ m → l = m
  | [], [], _, _, _ => rfl
  | [], y :: m, _, _, h => by simp [tail_] at h
  | x :: l, [], _, _, h => by simp [tail_] at h
  | x :: l, y :: m, hl, hm, h => by
    have h : 32 :: (Lib.itoa x ++ tail_ l) = 32 :: (Lib.itoa y ++ tail_ m) := h
    obtain ⟨h1, h2⟩ := cut_eq (itoa_no (hl x (by simp))) (itoa_no (hm y (by simp))) (tail_cases l) (tail_cases m) (List.cons.inj h).2
    rw [itoa_inj (hl x (by simp)) (hm y (by simp)) h1, tail_inj (fun z hz => hl z (by simp [hz])) (fun z hz => hm z (by simp [hz])) h2]
theorem tail_snoc (l : List Int) (x : Int) : tail_ (l ++ [x]) = tail_ l ++ 32 :: Lib.itoa x := by simp [tail_]
def blank : ByteArray := ⟨#[32]⟩
/-- The same, as strings. -/
def tailB (l : List Int) : ByteArray := ⟨(tail_ l).toArray⟩
theorem tailB_nil : tailB [] = ⟨#[]⟩ := rfl
theorem ba_append (a b : List UInt8) : (⟨a.toArray⟩ : ByteArray) ++ ⟨b.toArray⟩ = ⟨(a ++ b).toArray⟩ := by
  apply ByteArray.ext
  rw [ByteArray.data_append]
  simp
theorem tailB_snoc (l : List Int) (x : Int) : tailB l ++ (⟨#[32]⟩ ++ itoaB x) = tailB (l ++ [x]) := by
  unfold tailB itoaB
  rw [tail_snoc, show (⟨#[32]⟩ : ByteArray) = ⟨([32] : List UInt8).toArray⟩ from rfl, ba_append, ba_append]; rfl
/-- A numeral, and numerals behind blanks. -/
def keyB (c : Int) (l : List Int) : ByteArray := ⟨(Lib.itoa c ++ tail_ l).toArray⟩
theorem keyB_nil (c : Int) : itoaB c = keyB c [] := by unfold itoaB keyB; simp [tail_]
theorem keyB_snoc (c : Int) (l : List Int) (x : Int) : keyB c l ++ (⟨#[32]⟩ ++ itoaB x) = keyB c (l ++ [x]) := by
  unfold keyB itoaB
  rw [tail_snoc, show (⟨#[32]⟩ : ByteArray) = ⟨([32] : List UInt8).toArray⟩ from rfl, ba_append, ba_append]; simp
theorem ba_inj {a b : List UInt8} (h : (⟨a.toArray⟩ : ByteArray) = ⟨b.toArray⟩) : a = b := by
  have := congrArg (fun z : ByteArray => z.data.toList) h
  simpa using this
theorem tailB_inj {l m : List Int} (hl : ∀ x ∈ l, 0 ≤ x) (hm : ∀ x ∈ m, 0 ≤ x) (h : tailB l = tailB m) : l = m := tail_inj hl hm (ba_inj h)
theorem keyB_inj {c d : Int} {l m : List Int} (hc : 0 ≤ c) (hd : 0 ≤ d) (hl : ∀ x ∈ l, 0 ≤ x) (hm : ∀ x ∈ m, 0 ≤ x) (h : keyB c l = keyB d m) : c = d ∧ l = m := by
  obtain ⟨h1, h2⟩ := cut_eq (itoa_no hc) (itoa_no hd) (tail_cases l) (tail_cases m) (ba_inj h)
  exact ⟨itoa_inj hc hd h1, tail_inj hl hm h2⟩
theorem tail_len (l : List Int) (h : ∀ x ∈ l, 0 ≤ x ∧ x ≤ 9223372036854775807) : (tail_ l).length ≤ 22 * l.length := by
  induction l with
  | nil => simp [tail_]
  | cons x l ih =>
    have h1 := Lib.itoa_length_le x (by have := h x (by simp); omega) (h x (by simp)).2
    have h2 := ih (fun y hy => h y (by simp [hy]))
    have : tail_ (x :: l) = 32 :: (Lib.itoa x ++ tail_ l) := rfl
    rw [this]; simp; omega
theorem tailB_size (l : List Int) (h : ∀ x ∈ l, 0 ≤ x ∧ x ≤ 9223372036854775807) : (tailB l).size ≤ 22 * l.length := by
  have := tail_len l h
  show (tail_ l).toArray.size ≤ _
  simpa using this
theorem keyB_size (c : Int) (l : List Int) (hc : 0 ≤ c ∧ c ≤ 9223372036854775807) (h : ∀ x ∈ l, 0 ≤ x ∧ x ≤ 9223372036854775807) : (keyB c l).size ≤ 22 + 22 * l.length := by
  have h1 := tail_len l h
  have h2 := Lib.itoa_length_le c (by omega) hc.2
  show (Lib.itoa c ++ tail_ l).toArray.size ≤ _
  simp; omega
end Keys
end Go.Proofs.YtolpjmllmlahfaaDoor




namespace Go.Proofs.YtolpjmllmlahfaaDoor
open AL Go
set_option maxRecDepth 100000
set_option linter.all false

open ref01 ref03 ref04 ref06 prog prog2 prog3 prog4 prog5 prog6 prog7 prog8 prog9 Part Rungs LeftM TrimM Itoa Keys
def intsE : List Int → List AV := fun xs => [ints xs]
noncomputable def keepL (s : SSpec) (k : Nat) (z : Nat → List Int) : List (List Int) := (List.range s.states.length).map fun x => if x < k then keep s x else z x
theorem keepL_put {s : SSpec} {k : Nat} (hk : k < s.states.length) {l l' : List Int} : (keepL s k (fun x => if x = k then l else [])).set k l' = keepL s k (fun x => if x = k then l' else []) :=
  map_upd hk (by simp) (fun y _ hne => by by_cases h : y < k <;> simp [h, hne])
theorem keepL_zero (s : SSpec) : List.replicate s.states.length [] = keepL s 0 (fun _ => []) := by
  unfold keepL; simp [List.map_const']
theorem keepL_in (s : SSpec) (k : Nat) : keepL s k (fun _ => []) = keepL s k (fun x => if x = k then [] else []) := by
  unfold keepL; simp
theorem keepL_out (s : SSpec) (k : Nat) : keepL s k (fun x => if x = k then keep s k else []) = keepL s (k + 1) (fun _ => []) := by
  unfold keepL
  refine List.map_congr_left (fun x _ => ?_)
  by_cases h : x < k
  · simp [h, show x < k + 1 by omega]
  · by_cases e : x = k
    · subst e; simp
    · simp [h, e, show ¬ x < k + 1 by omega]
theorem keepL_at {s : SSpec} {k : Nat} (hk : k < s.states.length) (l : List Int) : ix (keepL s k (fun x => if x = k then l else [])) k = l := by
  unfold keepL; rw [ix_map_range hk]; simp
theorem keepL_len (s : SSpec) (k : Nat) (z : Nat → List Int) : (keepL s k z).length = s.states.length := by simp [keepL]
noncomputable def keeps (s : SSpec) : List (List Int) := (List.range s.states.length).map (keep s)
theorem keepL_end (s : SSpec) : keepL s s.states.length (fun _ => []) = keeps s := by
  unfold keepL keeps
  exact List.map_congr_left (fun x hx => by rw [if_pos (List.mem_range.1 hx)])

namespace prog10
namespace T
theorem map164 : MapT Tryd.prog 164 9 3 smE smD := mapT_str (by kernel_rfl) (by kernel_rfl)
theorem zv3 : ∀ w F, ∃ u, (zeroValue 3).run Tryd.prog w = .ok u w ∧ (int 0).p w F u := zeroV_of (v := .int .i64 0) (by kernel_rfl) _ (fun _ _ => eqv_rfl)
theorem ent119 : Ent Tryd.prog 119 := ent_of (by kernel_rfl)
theorem fld25_1 : FieldAt Tryd.prog 25 1 1 := fieldAt_of (by kernel_rfl)
theorem one23 : IsOne Tryd.prog 23 := isOne_of (by kernel_rfl)
theorem sl23 : IsSlice Tryd.prog 23 69 2 := isSlice_of (by kernel_rfl)
theorem mk134 : MakeT Tryd.prog 134 28 1 24 [.slice none 0 0] := makeT_of (by kernel_rfl) (by kernel_rfl)
theorem agg69 : IsAgg Tryd.prog 69 2 := isAgg_of (by kernel_rfl)
theorem z69 : ZeroIs Tryd.prog 69 [.slice none 0 0, .slice none 0 0] := zeroIs_of (by kernel_rfl)
theorem fld69_0 : FieldAt Tryd.prog 69 0 0 := fieldAt_of (by kernel_rfl)
theorem one28 : IsOne Tryd.prog 28 := isOne_of (by kernel_rfl)
theorem sl28 : IsSlice Tryd.prog 28 3 1 := isSlice_of (by kernel_rfl)
theorem one3 : IsOne Tryd.prog 3 := isOne_of (by kernel_rfl)
theorem one72 : IsOne Tryd.prog 72 := isOne_of (by kernel_rfl)
theorem sl72 : IsSlice Tryd.prog 72 4 1 := isSlice_of (by kernel_rfl)
theorem one4 : IsOne Tryd.prog 4 := isOne_of (by kernel_rfl)
theorem z4 : ZeroIs Tryd.prog 4 [.bool false] := zeroIs_of (by kernel_rfl)
theorem ent95 : Ent Tryd.prog 95 := ent_of (by kernel_rfl)
theorem ent115 : Ent Tryd.prog 115 := ent_of (by kernel_rfl)
theorem mixed : Tryd.prog.follows .mixedOrders = true := by kernel_rfl
theorem fld69_1 : FieldAt Tryd.prog 69 1 1 := fieldAt_of (by kernel_rfl)
theorem sl134 : IsSlice Tryd.prog 134 28 1 := isSlice_of (by kernel_rfl)
theorem mk28 : MakeT Tryd.prog 28 3 1 8 [.int .i64 0] := makeT_of (by kernel_rfl) (by kernel_rfl)
end T

theorem left_ok (s : SSpec) (hs : okSpec s) :
    Fn0 Tryd.prog 89 [spec s, bls (hollow s)] (sl 1 intsE (keeps s)) := by
  refine fnI Tryd.func89 rfl rfl (fun w0 F0 => ?_)
  have hf1 := hs.few1; have hn8 := hs.n8; have hhl := hollow_len s
  refine fcC (inhS 0 rfl) (fun hS0 => ?_)
  obtain ⟨hsa0, hss0, hse0⟩ := spec_lens hS0
  refine fcC (slenI 1 rfl) (fun hm1 => ?_)
  refine sq (rg (bx (key := 2) (cs := [sl 1 strE s.actions, sl 2 stateE s.states]) rfl fun b2 => (bx1 (key := 3) (φ := sl 1 blE (hollow s)) rfl fun b3 => (ag (nl (th (sq (rg (fP rfl T.fld25_1 (lP rfl rfl rfl T.one23 (fc (slenI 13 rfl) fun hm13 => (lnF rfl T.sl23 (mk (key := 15) (m := s.states.length) (enc := eqvE) (y := (.slice none 0 0 : Value)) rfl rfl T.mk134 (ex_cons ex_nil) (by unfold maxL; omega) (by unfold maxL; omega) fun v15 => (ag (nl (th (sq (sq (rg (nbB 151 s.states.length 3 1 intE (fP rfl T.fld25_1 (lP rfl rfl rfl T.one23 (lnF rfl T.sl23 (mv (nl (th (bk ?_)))))))))))))))))))))))))))
  have hI0_0 : 0 ≤ s.states.length := by
    first | omega | simp
  have hI0_1 : (List.replicate s.states.length (.slice none 0 0 : Value)).length = s.states.length ∧ (List.replicate s.states.length []) = keepL s 0 (fun _ => []) := by
    exact ⟨by simp, keepL_zero s⟩
  refine lp (κ := Nat × (List Value) × (List (List Int))) (fun p => [(3, ptr 3 b3 0), (4, eqv (.slice none 0 0)), (5, osl 15 v15), (17, sl 2 stateE s.states), (18, int (s.states.length : Int)), (19, int (p.1 : Int))]) (fun p => [(2, cell b2 [sl 1 strE s.actions, sl 2 stateE s.states]), (3, cell b3 [sl 1 blE (hollow s)]), (15, own v15 28 1 eqvE p.2.1), (151, bigown p.2.1 3 1 intE p.2.2 none)]) (fun p => (p.1 ≤ s.states.length) ∧ (p.2.1.length = s.states.length ∧ p.2.2 = keepL s p.1 (fun _ => []))) (fun p => s.states.length - p.1) ⟨0, List.replicate s.states.length (.slice none 0 0 : Value), List.replicate s.states.length []⟩ ⟨hI0_0, hI0_1⟩ ⟨id, id, id, id, id, id, trivial⟩ ⟨⟨rfl, id⟩, ⟨rfl, id⟩, ⟨rfl, id⟩, ⟨rfl, id⟩, trivial⟩ ?_
  intro ⟨k, us, xss⟩ hG0
  obtain ⟨hk0, hI0⟩ : (k ≤ s.states.length) ∧ (us.length = s.states.length ∧ xss = keepL s k (fun _ => [])) := hG0
  show Ct _ _ _ _ [(3, ptr 3 b3 0), (4, eqv (.slice none 0 0)), (5, osl 15 v15), (17, sl 2 stateE s.states), (18, int (s.states.length : Int)), (19, int (k : Int))] [(2, cell b2 [sl 1 strE s.actions, sl 2 stateE s.states]), (3, cell b3 [sl 1 blE (hollow s)]), (15, own v15 28 1 eqvE us), (151, bigown us 3 1 intE xss none)] _
  have hul := hI0.1
  have hxl0 : xss.length = s.states.length := by rw [hI0.2]; exact keepL_len _ _ _
  refine sq (rg (bi rfl rfl b_lss (nl (th (sq ?_)))))
  refine cd rfl (fun hc0 => ?_) (fun hc0 => ?_)
  · try simp at hc0
    have hox := hs.st k hc0
    have hacl := hox.acl
    have hxl := hox.len
    refine sk (th (sq (bk (sq (rg (mv (iF rfl rfl T.sl23 (by omega) (by first | exact gN (by omega) | exact gI (by omega) (by omega)) (lFA rfl T.agg69 (Nat.le_of_ble_eq_true rfl) (al (key := 7) T.z69 (ex_cons (ex_cons (ex_nil))) fun b7 => (ag (sPA (cs' := [sl 1 intE ((ix s.states k).accept), sl 1 intE ((ix s.states k).next)]) rfl rfl rfl T.agg69 rfl rfl (nl (th (sq (rg (fP rfl T.fld69_0 (lP rfl rfl rfl T.one28 (fc (slenI 25 rfl) fun hm25 => (lnF rfl T.sl28 (mv (nl (th (bk ?_)))))))))))))))))))))))
    have hI1_0 : 0 ≤ ((ix s.states k).accept).length := by
      first | omega | simp
    have hI1_1 : us.length = s.states.length ∧ xss = keepL s k (fun x => if x = k then ((ix s.states k).accept.take 0).filter (fun t => !ix (hollow s) k && !falls (ix s.states k) t (hollow s)) else []) := by
      exact ⟨hul, by rw [hI0.2, keepL_in]; rfl⟩
    refine lp (κ := Nat × (List Value) × (List (List Int))) (fun p => [(3, ptr 3 b3 0), (4, eqv (.slice none 0 0)), (5, osl 15 v15), (6, int (k : Int)), (7, ptr 7 b7 0), (17, sl 2 stateE s.states), (18, int (s.states.length : Int)), (19, int (k : Int)), (25, sl 1 intE ((ix s.states k).accept)), (26, int (((ix s.states k).accept).length : Int)), (27, int (p.1 : Int))]) (fun p => [(2, cell b2 [sl 1 strE s.actions, sl 2 stateE s.states]), (3, cell b3 [sl 1 blE (hollow s)]), (7, cell b7 [sl 1 intE ((ix s.states k).accept), sl 1 intE ((ix s.states k).next)]), (15, own v15 28 1 eqvE p.2.1), (151, bigown p.2.1 3 1 intE p.2.2 none)]) (fun p => (p.1 ≤ ((ix s.states k).accept).length) ∧ (p.2.1.length = s.states.length ∧ p.2.2 = keepL s k (fun x => if x = k then ((ix s.states k).accept.take p.1).filter (fun t => !ix (hollow s) k && !falls (ix s.states k) t (hollow s)) else []))) (fun p => ((ix s.states k).accept).length - p.1) ⟨0, us, xss⟩ ⟨hI1_0, hI1_1⟩ ⟨id, id, id, id, id, id, id, id, id, id, id, trivial⟩ ⟨⟨rfl, id⟩, ⟨rfl, id⟩, ⟨rfl, id⟩, ⟨rfl, id⟩, ⟨rfl, id⟩, trivial⟩ ?_
    intro ⟨k1, us3, xss3⟩ hG1
    obtain ⟨hk1, hI1⟩ : (k1 ≤ ((ix s.states k).accept).length) ∧ (us3.length = s.states.length ∧ xss3 = keepL s k (fun x => if x = k then ((ix s.states k).accept.take k1).filter (fun t => !ix (hollow s) k && !falls (ix s.states k) t (hollow s)) else [])) := hG1
    show Ct _ _ _ _ [(3, ptr 3 b3 0), (4, eqv (.slice none 0 0)), (5, osl 15 v15), (6, int (k : Int)), (7, ptr 7 b7 0), (17, sl 2 stateE s.states), (18, int (s.states.length : Int)), (19, int (k : Int)), (25, sl 1 intE ((ix s.states k).accept)), (26, int (((ix s.states k).accept).length : Int)), (27, int (k1 : Int))] [(2, cell b2 [sl 1 strE s.actions, sl 2 stateE s.states]), (3, cell b3 [sl 1 blE (hollow s)]), (7, cell b7 [sl 1 intE ((ix s.states k).accept), sl 1 intE ((ix s.states k).next)]), (15, own v15 28 1 eqvE us3), (151, bigown us3 3 1 intE xss3 none)] _
    have hul3 := hI1.1
    have hxl3 : xss3.length = s.states.length := by rw [hI1.2]; exact keepL_len _ _ _
    refine sq (rg (bi rfl rfl b_lss (nl (th (sq ?_)))))
    refine cd rfl (fun hc1 => ?_) (fun hc1 => ?_)
    · try simp at hc1
      have hac := hox.ac k1 hc1
      refine sk (th (sq (bk (sq (rg (iF rfl rfl T.sl28 (by omega) (by first | exact gN (by omega) | exact gI (by omega) (by omega)) (lF rfl rfl T.one3 (ag (nl (th (sq (rg (lP rfl rfl rfl T.one72 (mv (iF rfl rfl T.sl72 (by omega) (gN (by omega)) (lF rfl rfl T.one4 (no rfl (al (key := 10) T.z4 (ex_cons (ex_nil)) fun b10 => (sP (φ := bl (!(ix (hollow s) k))) rfl rfl rfl T.one4 rfl (nl (th (sq (sq (rg (mv (cal0 (φs := [int (ix ((ix s.states k).accept) k1)]) (φ := clo 115 [fp [int (ix ((ix s.states k).accept) k1)]]) ⟨rfl, trivial⟩ (prog3.In_ok (ix ((ix s.states k).accept) k1)) T.ent95 (nl (th (bk ?_)))))))))))))))))))))))))))))
      have hR0 : (!(ix (hollow s) k)) = (!ix (hollow s) k && ((listOf 63 (ix (ix s.states k).accept k1)).take 0).all (fun a => !ix (hollow s) (ix (ix s.states k).next a.toNat).toNat)) := by
        simp
      refine rf (κ := Bool) 900 (fun p => [(2, cell b2 [sl 1 strE s.actions, sl 2 stateE s.states]), (3, cell b3 [sl 1 blE (hollow s)]), (7, cell b7 [sl 1 intE ((ix s.states k).accept), sl 1 intE ((ix s.states k).next)]), (10, cell b10 [bl p]), (15, own v15 28 1 eqvE us3), (151, bigown us3 3 1 intE xss3 none)]) (fun iR p => p = (!ix (hollow s) k && ((listOf 63 (ix (ix s.states k).accept k1)).take iR).all (fun a => !ix (hollow s) (ix (ix s.states k).next a.toNat).toNat))) (fun c p => False) rfl (InIt (ix (ix s.states k).accept k1) (by omega) (by omega)) T.ent115 rfl (fun _ => rfl) (fun _ => rfl) (!(ix (hollow s) k)) hR0 ⟨⟨rfl, id⟩, ⟨rfl, id⟩, ⟨rfl, id⟩, ⟨rfl, id⟩, ⟨rfl, id⟩, ⟨rfl, id⟩, trivial⟩ ?_ ?_ (fun k h => h.elim) (fun id k h => h.elim) (fun c k h => h.elim)
      · intro m0 fi x0 hG0 hx0 l R w1 M1 F1 hRd
        have hR0 : fi = (!ix (hollow s) k && ((listOf 63 (ix (ix s.states k).accept k1)).take m0).all (fun a => !ix (hollow s) (ix (ix s.states k).next a.toNat).toNat)) := hG0
        obtain ⟨a, rfl, ha63, hha⟩ := listOf_get hx0
        have hgo := hox.go k1 hc1 a hha
        have hnx := hox.nx a hgo.1
        refine rg (ag (nl (aq hRd rfl (bk (dr (nh := 12) [0, 1, 3, 3, 11, 3, 59, 123, 255, 511, 1023, 2047, 4095] T.mixed (by kernel_rfl) ?_)))))
        refine st_ rfl (fun _ _ _ gq kq => lP (gq.1.trans rfl) rfl rfl T.one4 kq) ?_
        refine st_ rfl (fun _ _ _ gq kq => mv' (gq.1.trans rfl) kq) ?_
        refine sg_ (φ := sl 1 blE (hollow s)) rfl rfl rfl rfl (List.mem_of_elem_eq_true rfl) (fun hgd => ?_) ?_
        · have hgd' := hgd
          try simp at hgd'
          exact fun _ _ _ gq kq => lP (gq.1.trans rfl) rfl rfl T.one72 kq
        refine sg_ (φ := ptr 7 b7 1) rfl rfl rfl rfl (List.mem_of_elem_eq_true rfl) (fun hgd => ?_) ?_
        · have hgd' := hgd
          try simp at hgd'
          exact fun _ _ _ gq kq => fP (gq.1.trans rfl) T.fld69_1 kq
        refine sg_ (φ := sl 1 intE ((ix s.states k).next)) rfl rfl rfl rfl (List.mem_of_elem_eq_true rfl) (fun hgd => ?_) ?_
        · have hgd' := hgd
          try simp at hgd'
          exact fun _ _ _ gq kq => lP (gq.1.trans (gif_t hgd)) rfl rfl T.one28 kq
        refine sg_ (φ := int (a : Int)) rfl rfl rfl rfl (List.mem_of_elem_eq_true rfl) (fun hgd => ?_) ?_
        · have hgd' := hgd
          try simp at hgd'
          exact fun _ _ _ gq kq => mv' (gq.1.trans rfl) kq
        refine sg_ (φ := fp [int (ix ((ix s.states k).next) a)]) rfl rfl rfl rfl (List.mem_of_elem_eq_true rfl) (fun hgd => ?_) ?_
        · have hgd' := hgd
          try simp at hgd'
          exact fun _ _ _ gq kq => iF (gq.1.trans (gif_t hgd)) (gq.2.1.trans (gif_t hgd)) T.sl28 (by omega) (by first | exact gN (by omega) | exact gI (by omega) (by omega)) kq
        refine sg_ (φ := int (ix ((ix s.states k).next) a)) rfl rfl rfl rfl (List.mem_of_elem_eq_true rfl) (fun hgd => ?_) ?_
        · have hgd' := hgd
          try simp at hgd'
          exact fun _ _ _ gq kq => lF (gq.1.trans (gif_t hgd)) rfl T.one3 kq
        refine sg_ (φ := fp [bl (ix (hollow s) ((ix ((ix s.states k).next) a).toNat))]) rfl rfl rfl rfl (List.mem_of_elem_eq_true rfl) (fun hgd => ?_) ?_
        · have hgd' := hgd
          try simp at hgd'
          exact fun _ _ _ gq kq => iF (gq.1.trans (gif_t hgd)) (gq.2.1.trans (gif_t hgd)) T.sl72 (by omega) (by first | exact gN (by omega) | exact gI (by omega) (by omega)) kq
        refine sg_ (φ := bl (ix (hollow s) ((ix ((ix s.states k).next) a).toNat))) rfl rfl rfl rfl (List.mem_of_elem_eq_true rfl) (fun hgd => ?_) ?_
        · have hgd' := hgd
          try simp at hgd'
          exact fun _ _ _ gq kq => lF (gq.1.trans (gif_t hgd)) rfl T.one4 kq
        refine sg_ (φ := bl (!(ix (hollow s) ((ix ((ix s.states k).next) a).toNat)))) rfl rfl rfl rfl (List.mem_of_elem_eq_true rfl) (fun hgd => ?_) ?_
        · have hgd' := hgd
          try simp at hgd'
          exact fun _ _ _ gq kq => no (gq.1.trans (gif_t hgd)) kq
        refine st_ rfl (fun _ _ _ gq kq => pk (gq.1.trans rfl) (pk_and (x := .tmp 40) (gq.1.trans rfl) (gq.2.1.trans rfl) rfl) kq) ?_
        refine pn (sP (φ := bl (fi && (!(ix (hollow s) ((ix ((ix s.states k).next) a).toNat))))) rfl rfl rfl T.one4 rfl (nl (eb ?_)))
        have hN0 : (fi && (!(ix (hollow s) ((ix ((ix s.states k).next) a).toNat)))) = (!ix (hollow s) k && ((listOf 63 (ix (ix s.states k).accept k1)).take (m0 + 1)).all (fun a => !ix (hollow s) (ix (ix s.states k).next a.toNat).toNat)) := by
          rw [fine_snoc hx0, hR0]; simp [Bool.and_assoc]
        exact rqN (fi && (!(ix (hollow s) ((ix ((ix s.states k).next) a).toNat)))) hN0 ⟨⟨rfl, id⟩, ⟨rfl, id⟩, ⟨rfl, id⟩, ⟨rfl, id⟩, ⟨rfl, id⟩, ⟨rfl, id⟩, ⟨rfl, id⟩, trivial⟩
      · intro fi hG0
        have hR0 : fi = (!ix (hollow s) k && ((listOf 63 (ix (ix s.states k).accept k1)).take ((listOf 63 (ix (ix s.states k).accept k1)).length)).all (fun a => !ix (hollow s) (ix (ix s.states k).next a.toNat).toNat)) := hG0
        refine eb (th (sq (rg (lP rfl rfl rfl T.one4 (nl (th ?_))))))
        refine cd rfl (fun hc2 => ?_) (fun hc2 => ?_)
        · try simp at hc2
          have hxk : ix xss3 k = ((ix s.states k).accept.take k1).filter (fun t => !ix (hollow s) k && !falls (ix s.states k) t (hollow s)) := by rw [hI1.2]; exact keepL_at hc0 _
          have hxkl : (ix xss3 k).length ≤ 256 := by
            rw [hxk]
            have h1 := List.length_filter_le (fun t => !ix (hollow s) k && !falls (ix s.states k) t (hollow s)) ((ix s.states k).accept.take k1)
            have h2 := List.length_take_le k1 (ix s.states k).accept
            omega
          refine rg (mv (mv (mv (mv (iO rfl rfl rfl T.sl134 (by omega) (by omega) (lO rfl rfl (by first | exact gN (by omega) | exact gI (by omega) (by omega)) rfl T.one28 (tkB 151 57 k rfl rfl (by decide) (gK (by omega)) (gK (by omega)) (kn 57 (osl 57 (ix us3 k)) rfl eq_osl (mv (bsE (enc := intE) (xs := [(ix ((ix s.states k).accept) k1)]) (css := [[int (ix ((ix s.states k).accept) k1)]]) T.mk28 ⟨rfl, rfl, p1 (φ := int (ix ((ix s.states k).accept) k1)) rfl, trivial⟩ rfl rfl rfl rfl (ap (key := 57) (zs := [(ix ((ix s.states k).accept) k1)]) osl_eq rfl rfl rfl T.mk28 (by unfold maxL at *; simp; omega) (by unfold maxL at *; simp; omega) fun v60 => (iO rfl rfl rfl T.sl134 (by omega) (by omega) (sOO (k2 := 57) rfl rfl osl_is rfl T.one28 (by first | exact gN (by omega) | exact gI (by omega) (by omega)) rfl (y' := v60) rfl (gvB 151 57 k rfl rfl (by decide) (by omega) (nl (eb (th (rg (bi rfl rfl (b_add (by unfold I64; omega)) (mv (nl ?_)))))))))))))))))))))
          have hN0 : (k1 + 1) ≤ ((ix s.states k).accept).length := by
            first | omega | simp_all
          have hN1 : (us3.set k v60).length = s.states.length ∧ (xss3.set k ((ix xss3 k) ++ [(ix ((ix s.states k).accept) k1)])) = keepL s k (fun x => if x = k then ((ix s.states k).accept.take (k1 + 1)).filter (fun t => !ix (hollow s) k && !falls (ix s.states k) t (hollow s)) else []) := by
            have hfi : (!ix (hollow s) k && !falls (ix s.states k) (ix (ix s.states k).accept k1) (hollow s)) = true := by
              have h1 : fi = (!ix (hollow s) k && fine (ix s.states k) (ix (ix s.states k).accept k1) (hollow s)) := by rw [hR0, List.take_length]; rfl
              rw [fine_eq hox hn8 (ix_mem hc1)] at h1
              rw [← h1]; exact hc2
            refine ⟨by simpa using hI1.1, ?_⟩
            rw [hxk, hI1.2, keepL_put hc0, filter_take_succ hc1, hfi]; rfl
          exact ln (⟨k1 + 1, us3.set k v60, xss3.set k ((ix xss3 k) ++ [(ix ((ix s.states k).accept) k1)])⟩ : Nat × (List Value) × (List (List Int))) ⟨hN0, hN1⟩ (by first | omega | (dsimp only; omega)) ⟨id, id, id, id, id, id, id, id, id, id, id, trivial⟩ ⟨⟨rfl, id⟩, ⟨rfl, id⟩, ⟨rfl, id⟩, ⟨rfl, id⟩, ⟨rfl, id⟩, trivial⟩
        · try simp at hc2
          refine sk (eb (th (rg (bi rfl rfl (b_add (by unfold I64; omega)) (mv (nl ?_))))))
          have hN0 : (k1 + 1) ≤ ((ix s.states k).accept).length := by
            first | omega | simp_all
          have hN1 : us3.length = s.states.length ∧ xss3 = keepL s k (fun x => if x = k then ((ix s.states k).accept.take (k1 + 1)).filter (fun t => !ix (hollow s) k && !falls (ix s.states k) t (hollow s)) else []) := by
            have hfi : (!ix (hollow s) k && !falls (ix s.states k) (ix (ix s.states k).accept k1) (hollow s)) = false := by
              have h1 : fi = (!ix (hollow s) k && fine (ix s.states k) (ix (ix s.states k).accept k1) (hollow s)) := by rw [hR0, List.take_length]; rfl
              rw [fine_eq hox hn8 (ix_mem hc1)] at h1
              rw [← h1]; exact hc2
            refine ⟨hI1.1, ?_⟩
            rw [hI1.2, filter_take_succ hc1, hfi]; simp
          exact ln (⟨k1 + 1, us3, xss3⟩ : Nat × (List Value) × (List (List Int))) ⟨hN0, hN1⟩ (by first | omega | (dsimp only; omega)) ⟨id, id, id, id, id, id, id, id, id, id, id, trivial⟩ ⟨⟨rfl, id⟩, ⟨rfl, id⟩, ⟨rfl, id⟩, ⟨rfl, id⟩, ⟨rfl, id⟩, trivial⟩
    · try simp at hc1
      refine ex (xt_ (xt_ (xb (eb (th (rg (bi rfl rfl (b_add (by unfold I64; omega)) (mv (nl ?_)))))))))
      have hN0 : (k + 1) ≤ s.states.length := by
        first | omega | simp_all
      have hN1 : us3.length = s.states.length ∧ xss3 = keepL s (k + 1) (fun _ => []) := by
        refine ⟨hI1.1, ?_⟩
        rw [hI1.2, show k1 = (ix s.states k).accept.length by omega, List.take_length]
        exact keepL_out s k
      exact ln (⟨k + 1, us3, xss3⟩ : Nat × (List Value) × (List (List Int))) ⟨hN0, hN1⟩ (by first | omega | (dsimp only; omega)) ⟨id, id, id, id, id, id, trivial⟩ ⟨⟨rfl, id⟩, ⟨rfl, id⟩, ⟨rfl, id⟩, ⟨rfl, id⟩, trivial⟩
  · try simp at hc0
    refine ex (xt_ (xt_ (xb (th (sq (rg (mv (ag (nl (th (rt ?_)))))))))))
    refine fzBA 151 15 rfl rfl (by decide) ?_
    refine fzA 15 4 rfl rfl ?_
    have hr0 : xss = (keeps s) := by
      rw [hI0.2, show k = s.states.length by omega]; exact keepL_end s
    have hall : ∀ x0, xss = x0 → resAV [sl 1 (fun xs => [sl 1 intE xs]) xss] = resAV [sl 1 (fun xs => [sl 1 intE xs]) x0] := by rintro _ rfl; rfl
    exact rE () [.tmp 4] rfl [sl 1 (fun xs => [sl 1 intE xs]) xss] ⟨.tmp rfl, trivial⟩ (hall _ hr0) trivial (by first | exact .inr rfl | exact .inl rfl)
end prog10
end Go.Proofs.YtolpjmllmlahfaaDoor

/- The rounds of classes, as the program finds them: plain Lean. -/

namespace Go.Proofs.YtolpjmllmlahfaaDoor
open AL ref01 ref03 ref04 ref06 Part Rungs LeftM TrimM Itoa Keys
namespace RoundM
theorem numBy_lt (rel : Nat → Nat → Bool) : ∀ k, ∀ y ∈ (numBy rel k).2, 0 ≤ y ∧ y < (k : Int)
  | 0, y, h => by simp [numBy] at h
  | k + 1, y, h => by
    have ih := numBy_lt rel k
    rw [numBy] at h
    split at h
    · have := ih y h; omega
    · rcases List.mem_append.1 h with h | h
      · have := ih y h; omega
      · have : y = (k : Int) := by simpa using h
        omega
theorem findIdx_congr {p q : Int → Bool} : ∀ {l : List Int}, (∀ y ∈ l, p y = q y) → l.findIdx? p = l.findIdx? q
  | [], _ => rfl
  | x :: l, h => by
    rw [List.findIdx?_cons, List.findIdx?_cons, h x (by simp), findIdx_congr (l := l) (fun y hy => h y (by simp [hy]))]
theorem numBy_cg {rel rel' : Nat → Nat → Bool} {n : Nat} (h : ∀ x y, x < n → y < n → rel x y = rel' x y) : ∀ k, k ≤ n → numBy rel k = numBy rel' k
  | 0, _ => rfl
  | k + 1, hk => by
    have ih := numBy_cg h k (by omega)
    have e : (numBy rel k).2.findIdx? (fun y => rel k y.toNat) = (numBy rel' k).2.findIdx? (fun y => rel' k y.toNat) := by
      rw [ih]
      exact findIdx_congr (fun y hy => h k y.toNat (by omega) (by have := numBy_lt rel' k y hy; omega))
    unfold numBy
    rw [e, ih]
theorem keep_bd {s : SSpec} (hs : okSpec s) (x : Nat) : (∀ t ∈ keep s x, 0 ≤ t ∧ t < 256) ∧ (keep s x).length ≤ 256 := by
  by_cases hx : x < s.states.length
  · have hok := hs.st x hx
    refine ⟨fun t ht => acc_bd hok (keep_mem ht).1, ?_⟩
    have h1 := List.length_filter_le (fun t => !ix (hollow s) x && !falls (ix s.states x) t (hollow s)) (ix s.states x).accept
    have h2 := hok.acl
    unfold keep; omega
  · have e : (ix s.states x).accept = [] := by
      have : ix s.states x = default := by unfold ix; rw [List.getD_eq_getElem?_getD, List.getElem?_eq_none (by omega)]; rfl
      rw [this]; rfl
    have e2 : keep s x = [] := by unfold keep; rw [e]; rfl
    rw [e2]; exact ⟨fun t ht => by simp at ht, by simp⟩
noncomputable def kf0 (s : SSpec) (x : Nat) : ByteArray := tailB (keep s x)
noncomputable def nbrs (s : SSpec) (cl : List Int) (x : Nat) : List Int := (listOf 63 (orAll (keep s x))).map fun a => ix cl (ix (ix s.states x).next a.toNat).toNat
noncomputable def kf1 (s : SSpec) (cl : List Int) (x : Nat) : ByteArray := keyB (ix cl x) (nbrs s cl x)
theorem solid_next_ix {s : SSpec} (hs : okSpec s) {x : Nat} (hx : x < s.states.length) {a : Nat} (ha : a < (ix (solid s).states x).next.length) :
    ix (ix (solid s).states x).next a = if has (orAll (keep s x)) (a : Int) then ix (ix s.states x).next a else -1 := by
  rw [solid_next hs hx, ← (hs.st x hx).len] at ha
  rw [solid_at hx]
  exact cut_ix ha
theorem alike_keep {s : SSpec} {cl : List Int} {x y : Nat} (hx : x < s.states.length) (hy : y < s.states.length) (h : alike (solid s) cl x y = true) : keep s x = keep s y := by
  have := (alike_iff.1 h).2.1
  rw [solid_at hx, solid_at hy] at this
  exact this
/-- What two states are alike by. -/
theorem alike_nbrs {s : SSpec} (hs : okSpec s) {cl : List Int} {x y : Nat} (hx : x < s.states.length) (hy : y < s.states.length) :
    alike (solid s) cl x y = true ↔ ix cl x = ix cl y ∧ keep s x = keep s y ∧ nbrs s cl x = nbrs s cl y := by
  have hlx := (hs.st x hx).len
  have hly := (hs.st y hy).len
  constructor
  · intro h
    have hk := alike_keep hx hy h
    obtain ⟨h1, _, h3⟩ := alike_iff.1 h
    refine ⟨h1, hk, ?_⟩
    unfold nbrs
    rw [← hk]
    refine List.map_congr_left (fun a ha => ?_)
    obtain ⟨b, rfl, _, hb⟩ := listOf_mem.1 ha
    obtain ⟨g1, g2, _, _⟩ := can_go hs hx hb
    have hb2 := hb
    rw [hk] at hb2
    have hbl : b < (ix (solid s).states x).next.length := by rw [solid_next hs hx, ← hlx]; exact g1
    have hbl2 : b < (ix (solid s).states y).next.length := by rw [solid_next hs hy, ← hlx]; exact g1
    have := (alikeNext_iff.1 h3 b hbl).2
    rw [solid_next_ix hs hx hbl, solid_next_ix hs hy hbl2, if_pos hb, if_pos hb2] at this
    rw [Int.toNat_natCast]
    exact this g2
  · rintro ⟨h1, h2, h3⟩
    refine alike_iff.2 ⟨h1, by rw [solid_at hx, solid_at hy]; exact h2, alikeNext_iff.2 (fun b hb => ?_)⟩
    have hb2 : b < (ix (solid s).states y).next.length := by rw [solid_next hs hy, ← solid_next hs hx]; exact hb
    rw [solid_next_ix hs hx hb, solid_next_ix hs hy hb2, ← h2]
    by_cases hh : has (orAll (keep s x)) (b : Int) = true
    · rw [if_pos hh, if_pos hh]
      have g := can_go hs hx hh
      have g' := can_go hs hy (by rw [← h2]; exact hh)
      refine ⟨by omega, fun _ => ?_⟩
      unfold nbrs at h3
      rw [← h2] at h3
      have hm : (b : Int) ∈ listOf 63 (orAll (keep s x)) := listOf_mem.2 ⟨b, rfl, by have := hs.n8; omega, hh⟩
      have := List.map_inj_left.1 h3 (b : Int) hm
      rw [Int.toNat_natCast] at this
      exact this
    · rw [if_neg hh, if_neg hh]
      exact ⟨Iff.rfl, fun h => by omega⟩
theorem bool_eq {a b : Bool} (h : a = true ↔ b = true) : a = b := by cases a <;> cases b <;> simp_all
theorem rel0 {s : SSpec} (hs : okSpec s) {x y : Nat} (hx : x < s.states.length) (hy : y < s.states.length) : decide (kf0 s x = kf0 s y) = alike (solid s) (itR s 0).1 x y := by
  refine bool_eq ?_
  rw [decide_eq_true_eq, alike_nbrs hs hx hy]
  have hz : ∀ i, ix (itR s 0).1 i = 0 := fun i => by
    show ix (List.replicate s.states.length (0 : Int)) i = 0
    unfold ix
    rw [List.getD_eq_getElem?_getD, List.getElem?_replicate]
    split <;> rfl
  constructor
  · intro h
    have hk : keep s x = keep s y := tailB_inj (fun t ht => ((keep_bd hs x).1 t ht).1) (fun t ht => ((keep_bd hs y).1 t ht).1) h
    refine ⟨by rw [hz, hz], hk, ?_⟩
    unfold nbrs
    rw [hk]
    exact List.map_congr_left (fun a _ => by rw [hz, hz])
  · rintro ⟨_, h, _⟩
    unfold kf0; rw [h]
theorem cl_bd {s : SSpec} (hs : okSpec s) (i : Nat) (x : Nat) : 0 ≤ ix (itR s i).1 x ∧ ix (itR s i).1 x ≤ 500 := by
  by_cases hx : x < s.states.length
  · cases i with
    | zero =>
      show 0 ≤ ix (List.replicate s.states.length (0 : Int)) x ∧ _
      unfold ix
      rw [show (itR s 0).1 = List.replicate s.states.length (0 : Int) from rfl, List.getD_eq_getElem?_getD, List.getElem?_replicate, if_pos hx]
      exact ⟨Int.le_refl _, by decide⟩
    | succ i =>
      have h := (numOK (itR_eqOn hs i) s.states.length (Nat.le_refl _)).cls x hx
      have h2 := num_le (rel := alike (solid s) (itR s i).1) s.states.length
      have hf := hs.few1
      show 0 ≤ ix (numBy _ _).1 x ∧ ix (numBy _ _).1 x ≤ 500
      omega
  · have : ix (itR s i).1 x = 0 := by unfold ix; rw [List.getD_eq_getElem?_getD, List.getElem?_eq_none (by rw [itR_len]; omega)]; rfl
    rw [this]; omega
theorem nbrs_bd {s : SSpec} (hs : okSpec s) (i x : Nat) : ∀ y ∈ nbrs s (itR s i).1 x, 0 ≤ y ∧ y ≤ 500 := fun y hy => by
  obtain ⟨a, _, rfl⟩ := List.mem_map.1 hy
  exact cl_bd hs i _
theorem rel1 {s : SSpec} (hs : okSpec s) (i : Nat) {x y : Nat} (hx : x < s.states.length) (hy : y < s.states.length) : decide (kf1 s (itR s (i + 1)).1 x = kf1 s (itR s (i + 1)).1 y) = alike (solid s) (itR s (i + 1)).1 x y := by
  refine bool_eq ?_
  rw [decide_eq_true_eq, alike_nbrs hs hx hy]
  constructor
  · intro h
    obtain ⟨h1, h2⟩ := keyB_inj (cl_bd hs _ _).1 (cl_bd hs _ _).1 (fun y hy => (nbrs_bd hs _ _ y hy).1) (fun y hy => (nbrs_bd hs _ _ y hy).1) h
    refine ⟨h1, ?_, h2⟩
    have := ((numOK (itR_eqOn hs i) s.states.length (Nat.le_refl _)).iff (itR_eqOn hs i) (Nat.le_refl _) hx hy).1 h1
    exact alike_keep hx hy this
  · rintro ⟨h1, _, h3⟩
    unfold kf1; rw [h1, h3]
theorem num0 {s : SSpec} (hs : okSpec s) : ((numBy (fun x y => decide (kf0 s x = kf0 s y)) s.states.length).1, (numBy (fun x y => decide (kf0 s x = kf0 s y)) s.states.length).2.length) = itR s 1 := by
  rw [numBy_cg (rel' := alike (solid s) (itR s 0).1) (fun x y hx hy => rel0 hs hx hy) _ (Nat.le_refl _)]; rfl
theorem num1 {s : SSpec} (hs : okSpec s) (i : Nat) : ((numBy (fun x y => decide (kf1 s (itR s (i + 1)).1 x = kf1 s (itR s (i + 1)).1 y)) s.states.length).1, (numBy (fun x y => decide (kf1 s (itR s (i + 1)).1 x = kf1 s (itR s (i + 1)).1 y)) s.states.length).2.length) = itR s (i + 2) := by
  rw [numBy_cg (rel' := alike (solid s) (itR s (i + 1)).1) (fun x y hx hy => rel1 hs i hx hy) _ (Nat.le_refl _)]; rfl
def stopP (s : SSpec) (r : Nat) : Prop := (itR s (r + 2)).2 = (itR s (r + 1)).2
noncomputable instance (s : SSpec) (r : Nat) : Decidable (stopP s r) := Nat.decEq _ _
noncomputable def stopR (s : SSpec) : Nat := (List.range (s.states.length + 1)).findIdx fun r => decide (stopP s r)
theorem grows {s : SSpec} (hs : okSpec s) : ∀ j, (∀ r, r < j → ¬ stopP s r) → j + 1 ≤ (itR s (j + 1)).2
  | 0, _ => num_pos (rel := alike (solid s) (itR s 0).1) s.states.length hs.few0
  | j + 1, h => by
    have h1 := grows hs j (fun r hr => h r (by omega))
    have h2 := (itR_step hs (j + 1)).1
    have h3 : (itR s (j + 1 + 1)).2 ≠ (itR s (j + 1)).2 := h j (by omega)
    omega
theorem stop_lt {s : SSpec} (hs : okSpec s) {j : Nat} (h : ∀ r, r < j → ¬ stopP s r) : j < s.states.length := by
  have h1 := grows hs j h
  have h2 := itR_le (s := s) (j + 1)
  omega
theorem stop_ge {s : SSpec} (hs : okSpec s) {j : Nat} (h : ∀ r, r < j → ¬ stopP s r) : j ≤ stopR s := by
  have hj := stop_lt hs h
  rcases Nat.lt_or_ge (stopR s) j with h1 | h1
  · have hl : stopR s < (List.range (s.states.length + 1)).length := by rw [List.length_range]; omega
    have h5 : decide (stopP s ((List.range (s.states.length + 1))[stopR s]'hl)) = true := List.findIdx_getElem (w := hl)
    rw [List.getElem_range, decide_eq_true_eq] at h5
    exact absurd h5 (h _ h1)
  · exact h1
theorem stop_at {s : SSpec} (hs : okSpec s) {j : Nat} (h : ∀ r, r < j → ¬ stopP s r) (hP : stopP s j) : stopR s = j := by
  have hj := stop_lt hs h
  have h1 := stop_ge hs h
  rcases Nat.lt_or_ge j (stopR s) with h2 | h2
  · have := List.not_of_lt_findIdx h2
    simp only [List.getElem_range, decide_eq_false_iff_not] at this
    exact absurd hP this
  · omega
theorem stop_spec {s : SSpec} (hs : okSpec s) : stopP s (stopR s) := by
  have hno : ∀ r, r < stopR s → ¬ stopP s r := fun r hr => by
    have := List.not_of_lt_findIdx hr
    simpa only [List.getElem_range, decide_eq_false_iff_not] using this
  have hl := stop_lt hs hno
  have hl : stopR s < (List.range (s.states.length + 1)).length := by rw [List.length_range]; omega
  have h5 : decide (stopP s ((List.range (s.states.length + 1))[stopR s]'hl)) = true := List.findIdx_getElem (w := hl)
  rw [List.getElem_range, decide_eq_true_eq] at h5
  exact h5
noncomputable def roundsL (s : SSpec) : List (List Int) := (List.range (stopR s + 1)).map fun j => (itR s (j + 1)).1
theorem rounds_at {s : SSpec} (hs : okSpec s) {j : Nat} (h : ∀ r, r < j → ¬ stopP s r) : (roundsL s)[j]? = some (itR s (j + 1)).1 := by
  have := stop_ge hs h
  unfold roundsL
  rw [List.getElem?_map, List.getElem?_range (by omega)]; rfl
theorem rounds_len {s : SSpec} (hs : okSpec s) {j : Nat} (h : ∀ r, r < j → ¬ stopP s r) (hP : stopP s j) : (roundsL s).length = j + 1 := by
  unfold roundsL
  rw [List.length_map, List.length_range, stop_at hs h hP]
theorem rounds_get {s : SSpec} {j : Nat} {x : List Int} (h : (roundsL s)[j]? = some x) : x = (itR s (j + 1)).1 := by
  unfold roundsL at h
  rw [List.getElem?_map] at h
  cases hr : (List.range (stopR s + 1))[j]? with
  | none => rw [hr] at h; cases h
  | some k =>
    rw [hr] at h
    have := List.getElem?_eq_some_iff.1 hr
    obtain ⟨h1, h2⟩ := this
    simp at h2
    subst h2
    simpa using h.symm
theorem rounds_last {s : SSpec} (hs : okSpec s) : (roundsL s).length = stopR s + 1 ∧ (itR s (stopR s + 1)).1 = classesR s := by
  have hP := stop_spec hs
  have hno : ∀ r, r < stopR s → ¬ stopP s r := fun r hr => by
    have := List.not_of_lt_findIdx hr
    simpa only [List.getElem_range, decide_eq_false_iff_not] using this
  have hl := stop_lt hs hno
  have e : (itR s (stopR s + 1)).2 = (itR s (stopR s + 1 + 1)).2 := hP.symm
  refine ⟨by simp [roundsL], ?_⟩
  have h1 := (itR_step hs (stopR s + 1)).2 e
  have h2 := itR_end hs (i := stopR s + 1) (by omega) e
  rw [h2, h1]
end RoundM
end Go.Proofs.YtolpjmllmlahfaaDoor



namespace Go.Proofs.YtolpjmllmlahfaaDoor
open AL Go
set_option maxRecDepth 100000
set_option linter.all false

open ref01 ref03 ref04 ref06 prog prog2 prog3 prog4 prog5 prog6 prog7 prog8 prog9 prog10 Part Rungs LeftM TrimM Itoa Keys RoundM
def intT : Int → List AV := fun x => [tabbed (int x)]
instance (x : Int) : OneAll (intT x) := inferInstanceAs (OneAll [tabbed (int x)])
def clN (N : Nat) : List Int → List AV := fun l => [fre N (ints l)]
attribute [local semireducible] sl in
theorem ints_tab {xs : List Int} {w : World} {F : Fz} {v : Value} (h : (both (sl 1 intE xs) tab).p w F v) : (sl 1 intT xs).p w F v := by
  obtain ⟨⟨A, cap, hv, hc, hm, hA⟩, ht⟩ := h
  refine ⟨A, cap, hv, hc, hm, fun hne => ?_⟩
  obtain ⟨b, off, vs, h1, h2, h3, h4⟩ := hA hne
  refine ⟨b, off, vs, h1, h2, h3, ⟨h4.len, fun i x hi => ?_⟩⟩
  have h5 := h4.el i x hi
  match hw : (vs.drop (i * 1)).take 1, h5 with
  | [z], h5 => exact ⟨⟨h5.1, ht⟩, trivial⟩
theorem keeps_ix {s : SSpec} {i : Nat} (h : i < s.states.length) : ix (keeps s) i = keep s i := ix_map_range h
theorem keeps_len (s : SSpec) : (keeps s).length = s.states.length := by simp [keeps]
theorem chain {n : Nat} {kf : Nat → ByteArray} {a : List Int × Nat} (h : ((numBy (fun x y => decide (kf x = kf y)) n).1, (numBy (fun x y => decide (kf x = kf y)) n).2.length) = a) : (numBy (fun x y => decide (kf x = kf y)) n).1 = a.1 ∧ (((numBy (fun x y => decide (kf x = kf y)) n).2.length : Nat) : Int) = (a.2 : Int) := by
  rw [← h]; exact ⟨rfl, rfl⟩
theorem kf0_size {s : SSpec} (hs : okSpec s) (i : Nat) : (kf0 s i).size ≤ maxL := by
  obtain ⟨h1, h2⟩ := keep_bd hs i
  have := tailB_size (keep s i) (fun x hx => by have := h1 x hx; omega)
  unfold kf0 maxL; omega
theorem kf1_size {s : SSpec} (hs : okSpec s) (j i : Nat) : (kf1 s (itR s j).1 i).size ≤ maxL := by
  have h3 : (nbrs s (itR s j).1 i).length ≤ 63 := by unfold nbrs; rw [List.length_map]; exact listOf_len _ _
  have := keyB_size (ix (itR s j).1 i) (nbrs s (itR s j).1 i) (by have := cl_bd hs j i; omega) (fun y hy => by have := nbrs_bd hs j i y hy; omega)
  unfold kf1 maxL; omega

namespace prog11
namespace T
theorem map164 : MapT Tryd.prog 164 9 3 smE smD := mapT_str (by kernel_rfl) (by kernel_rfl)
theorem zv3 : ∀ w F, ∃ u, (zeroValue 3).run Tryd.prog w = .ok u w ∧ (int 0).p w F u := zeroV_of (v := .int .i64 0) (by kernel_rfl) _ (fun _ _ => eqv_rfl)
theorem ent119 : Ent Tryd.prog 119 := ent_of (by kernel_rfl)
theorem ent92 : Ent Tryd.prog 92 := ent_of (by kernel_rfl)
theorem ent94 : Ent Tryd.prog 94 := ent_of (by kernel_rfl)
theorem one134 : IsOne Tryd.prog 134 := isOne_of (by kernel_rfl)
theorem sl134 : IsSlice Tryd.prog 134 28 1 := isSlice_of (by kernel_rfl)
theorem one28 : IsOne Tryd.prog 28 := isOne_of (by kernel_rfl)
theorem sl28 : IsSlice Tryd.prog 28 3 1 := isSlice_of (by kernel_rfl)
theorem one3 : IsOne Tryd.prog 3 := isOne_of (by kernel_rfl)
theorem ent93 : Ent Tryd.prog 93 := ent_of (by kernel_rfl)
theorem z9 : ZeroIs Tryd.prog 9 [.string ⟨#[]⟩] := zeroIs_of (by kernel_rfl)
theorem one9 : IsOne Tryd.prog 9 := isOne_of (by kernel_rfl)
theorem ent95 : Ent Tryd.prog 95 := ent_of (by kernel_rfl)
theorem ent115 : Ent Tryd.prog 115 := ent_of (by kernel_rfl)
theorem mixed : Tryd.prog.follows .mixedOrders = true := by kernel_rfl
theorem fld69_1 : FieldAt Tryd.prog 69 1 1 := fieldAt_of (by kernel_rfl)
theorem agg25 : IsAgg Tryd.prog 25 2 := isAgg_of (by kernel_rfl)
theorem ent90 : Ent Tryd.prog 90 := ent_of (by kernel_rfl)
theorem ent89 : Ent Tryd.prog 89 := ent_of (by kernel_rfl)
theorem z134 : ZeroIs Tryd.prog 134 [.slice none 0 0] := zeroIs_of (by kernel_rfl)
theorem fld25_1 : FieldAt Tryd.prog 25 1 1 := fieldAt_of (by kernel_rfl)
theorem one23 : IsOne Tryd.prog 23 := isOne_of (by kernel_rfl)
theorem ent91 : Ent Tryd.prog 91 := ent_of (by kernel_rfl)
theorem z28 : ZeroIs Tryd.prog 28 [.slice none 0 0] := zeroIs_of (by kernel_rfl)
theorem ent62 : Ent Tryd.prog 62 := ent_of (by kernel_rfl)
theorem ent88 : Ent Tryd.prog 88 := ent_of (by kernel_rfl)
end T

theorem key0_ok (s : SSpec) (hs : okSpec s) (i : Nat) (hi : i < s.states.length) :
    Fn0 Tryd.prog 92 [int (i : Int), state (ix s.states i), tabbed (fp [sl 1 intsE (keeps s)])] (str (kf0 s i)) := by
  refine fnI Tryd.func92 rfl rfl (fun w0 F0 => ?_)
  have hkl := keeps_len s
  have hki := keeps_ix hi
  obtain ⟨hkb, hkn⟩ := keep_bd hs i
  rw [← hki] at hkb hkn
  refine fcC (inhS 1 rfl) (fun hS1 => ?_)
  obtain ⟨hxa1, hxn1⟩ := state_lens hS1
  refine tbI 2 9999 rfl ?_
  refine sq (rg (bx (key := 4) (cs := [sl 1 intE ((ix s.states i).accept), sl 1 intE ((ix s.states i).next)]) rfl fun b4 => (ag (nl (th (sq (rg (ag (nl (th (sq (sq (rg (lF rfl rfl T.one134 (mv (iF rfl rfl T.sl134 (by omega) (by first | exact gN (by omega) | exact gI (by omega) (by omega)) (lF rfl rfl T.one28 (fc (slenI 12 rfl) fun hm12 => (lnF rfl T.sl28 (mv (nl (th (bk ?_)))))))))))))))))))))))
  have hI0_0 : 0 ≤ (ix (keeps s) i).length := by
    first | omega | simp
  have hI0_1 : ({ data := #[] }) = tailB ((ix (keeps s) i).take 0) := by
    rfl
  refine lp (κ := Nat × ByteArray) (fun p => [(5, str ({ data := #[] })), (6, str p.2), (12, sl 1 intE (ix (keeps s) i)), (13, int ((ix (keeps s) i).length : Int)), (14, int (p.1 : Int)), (9999, tab)]) (fun p => [(4, cell b4 [sl 1 intE ((ix s.states i).accept), sl 1 intE ((ix s.states i).next)])]) (fun p => (p.1 ≤ (ix (keeps s) i).length) ∧ (p.2 = tailB ((ix (keeps s) i).take p.1))) (fun p => (ix (keeps s) i).length - p.1) ⟨0, { data := #[] }⟩ ⟨hI0_0, hI0_1⟩ ⟨id, id, id, id, id, id, trivial⟩ ⟨⟨rfl, id⟩, trivial⟩ ?_
  intro ⟨k, acc⟩ hG0
  obtain ⟨hk0, hI0⟩ : (k ≤ (ix (keeps s) i).length) ∧ (acc = tailB ((ix (keeps s) i).take k)) := hG0
  show Ct _ _ _ _ [(5, str ({ data := #[] })), (6, str acc), (12, sl 1 intE (ix (keeps s) i)), (13, int ((ix (keeps s) i).length : Int)), (14, int (k : Int)), (9999, tab)] [(4, cell b4 [sl 1 intE ((ix s.states i).accept), sl 1 intE ((ix s.states i).next)])] _
  refine sq (rg (bi rfl rfl b_lss (nl (th (sq ?_)))))
  refine cd rfl (fun hc0 => ?_) (fun hc0 => ?_)
  · try simp at hc0
    have hkx := hkb (ix (ix (keeps s) i) k) (ix_mem hc0)
    refine sk (th (sq (bk (sq (rg (iF rfl rfl T.sl28 (by omega) (by first | exact gN (by omega) | exact gI (by omega) (by omega)) (lF rfl rfl T.one3 (ag (nl (th (rg (mv (mv (tbU (ψ := tab) 19 9999 rfl rfl (cal0 (φs := [both (int (ix (ix (keeps s) i) k)) tab]) (φ := str (itoaB (ix (ix (keeps s) i) k))) ⟨rfl, trivial⟩ (Itoa.Itoa_ok (ix (ix (keeps s) i) k) (by omega) (by omega)) T.ent93 (bi rfl rfl (b_addS (by have h9 := itoa_size (n := ix (ix (keeps s) i) k) (by omega) (by omega); show 1 + (itoaB (ix (ix (keeps s) i) k)).size ≤ maxL; unfold maxL; omega)) (bi rfl rfl (b_addS (by have h9 := itoa_size (n := ix (ix (keeps s) i) k) (by omega) (by omega); have h10 := tailB_size ((ix (keeps s) i).take k) (fun x hx => by have := hkb x (List.mem_of_mem_take hx); omega); rw [List.length_take] at h10; rw [ByteArray.size_append, hI0]; show _ + (1 + _) ≤ maxL; unfold maxL; omega)) (ag (nl (eb (th (rg (bi rfl rfl (b_add (by unfold I64; omega)) (mv (nl ?_)))))))))))))))))))))))))
    have hN0 : (k + 1) ≤ (ix (keeps s) i).length := by
      first | omega | simp_all
    have hN1 : (acc ++ (({ data := #[32] }) ++ (itoaB (ix (ix (keeps s) i) k)))) = tailB ((ix (keeps s) i).take (k + 1)) := by
      rw [hI0, tailB_snoc, take_s hc0]
    exact ln (⟨k + 1, acc ++ (({ data := #[32] }) ++ (itoaB (ix (ix (keeps s) i) k)))⟩ : Nat × ByteArray) ⟨hN0, hN1⟩ (by first | omega | (dsimp only; omega)) ⟨id, id, id, id, id, id, trivial⟩ ⟨⟨rfl, id⟩, trivial⟩
  · try simp at hc0
    refine ex (xt_ (xt_ (xb (th (sq (rg (mv (ag (nl (th (rt ?_)))))))))))
    have hr0 : acc = (kf0 s i) := by
      rw [hI0, show k = (ix (keeps s) i).length by omega, List.take_length, hki]; rfl
    have hall : ∀ x0, acc = x0 → resAV [str acc] = resAV [str x0] := by rintro _ rfl; rfl
    exact rE () [.tmp 5] rfl [str acc] ⟨.tmp rfl, trivial⟩ (hall _ hr0) trivial (by first | exact .inr rfl | exact .inl rfl)

theorem key1_ok (s : SSpec) (hs : okSpec s) (j i : Nat) (hi : i < s.states.length) :
    Fn0 Tryd.prog 94 [int (i : Int), state (ix s.states i), fp [sl 1 intT (itR s j).1], tabbed (fp [sl 1 intsE (keeps s)])] (str (kf1 s (itR s j).1 i)) := by
  refine fnI Tryd.func94 rfl rfl (fun w0 F0 => ?_)
  have hkl := keeps_len s
  have hki := keeps_ix hi
  obtain ⟨hkb, hkn⟩ := keep_bd hs i
  rw [← hki] at hkb hkn
  have hcl := itR_len s j
  have hcb := cl_bd hs j
  have hci := hcb i
  refine fcC (inhS 1 rfl) (fun hS1 => ?_)
  obtain ⟨hxa1, hxn1⟩ := state_lens hS1
  refine tbI 3 9999 rfl ?_
  refine sq (rg (bx (key := 5) (cs := [sl 1 intE ((ix s.states i).accept), sl 1 intE ((ix s.states i).next)]) rfl fun b5 => (ag (nl (th (sq (rg (lF rfl rfl T.one28 (mv (iF rfl rfl T.sl28 (by omega) (by first | exact gN (by omega) | exact gI (by omega) (by omega)) (lF rfl rfl T.one3 (cal0 (φs := [both (int (ix ((itR s j).1) i)) tab]) (φ := str (itoaB (ix ((itR s j).1) i))) ⟨rfl, trivial⟩ (Itoa.Itoa_ok (ix ((itR s j).1) i) (by omega) (by omega)) T.ent93 (al (key := 7) T.z9 (ex_cons (ex_nil)) fun b7 => (sP (φ := str (itoaB (ix ((itR s j).1) i))) rfl rfl rfl T.one9 rfl (nl (th (sq (rg (ag (nl (th (sq (sq (rg (lF rfl rfl T.one134 (mv (iF rfl rfl T.sl134 (by omega) (by first | exact gN (by omega) | exact gI (by omega) (by omega)) (lF rfl rfl T.one28 (fc (slenI 20 rfl) fun hm20 => (lnF rfl T.sl28 (mv (nl (th (bk ?_))))))))))))))))))))))))))))))))))
  have hI0_0 : 0 ≤ (ix (keeps s) i).length := by
    first | omega | simp
  have hI0_1 : (0 : Int) = orAll ((ix (keeps s) i).take 0) ∧ 0 ≤ (0 : Int) ∧ (0 : Int) < 256 := by
    exact ⟨rfl, by omega, by omega⟩
  refine lp (κ := Nat × Int) (fun p => [(2, fp [sl 1 intT ((itR s j).1)]), (5, ptr 5 b5 0), (6, str ({ data := #[] })), (7, ptr 7 b7 0), (8, int p.2), (20, sl 1 intE (ix (keeps s) i)), (21, int ((ix (keeps s) i).length : Int)), (22, int (p.1 : Int)), (9999, tab)]) (fun p => [(5, cell b5 [sl 1 intE ((ix s.states i).accept), sl 1 intE ((ix s.states i).next)]), (7, cell b7 [str (itoaB (ix ((itR s j).1) i))])]) (fun p => (p.1 ≤ (ix (keeps s) i).length) ∧ (p.2 = orAll ((ix (keeps s) i).take p.1) ∧ 0 ≤ p.2 ∧ p.2 < 256)) (fun p => (ix (keeps s) i).length - p.1) ⟨0, (0 : Int)⟩ ⟨hI0_0, hI0_1⟩ ⟨id, id, id, id, id, id, id, id, id, trivial⟩ ⟨⟨rfl, id⟩, ⟨rfl, id⟩, trivial⟩ ?_
  intro ⟨k, cn⟩ hG0
  obtain ⟨hk0, hI0⟩ : (k ≤ (ix (keeps s) i).length) ∧ (cn = orAll ((ix (keeps s) i).take k) ∧ 0 ≤ cn ∧ cn < 256) := hG0
  show Ct _ _ _ _ [(2, fp [sl 1 intT ((itR s j).1)]), (5, ptr 5 b5 0), (6, str ({ data := #[] })), (7, ptr 7 b7 0), (8, int cn), (20, sl 1 intE (ix (keeps s) i)), (21, int ((ix (keeps s) i).length : Int)), (22, int (k : Int)), (9999, tab)] [(5, cell b5 [sl 1 intE ((ix s.states i).accept), sl 1 intE ((ix s.states i).next)]), (7, cell b7 [str (itoaB (ix ((itR s j).1) i))])] _
  refine sq (rg (bi rfl rfl b_lss (nl (th (sq ?_)))))
  refine cd rfl (fun hc0 => ?_) (fun hc0 => ?_)
  · try simp at hc0
    have hkx := hkb (ix (ix (keeps s) i) k) (ix_mem hc0)
    refine sk (th (sq (bk (sq (rg (iF rfl rfl T.sl28 (by omega) (by first | exact gN (by omega) | exact gI (by omega) (by omega)) (lF rfl rfl T.one3 (ag (nl (th (rg (mv (mv (bi rfl rfl (b_orI (by omega) (by omega) (by omega) (by omega)) (ag (nl (eb (th (rg (bi rfl rfl (b_add (by unfold I64; omega)) (mv (nl ?_))))))))))))))))))))))
    have hN0 : (k + 1) ≤ (ix (keeps s) i).length := by
      first | omega | simp_all
    have hN1 : ((cn.toNat ||| ((ix (ix (keeps s) i) k).toNat) : Nat) : Int) = orAll ((ix (keeps s) i).take (k + 1)) ∧ 0 ≤ ((cn.toNat ||| ((ix (ix (keeps s) i) k).toNat) : Nat) : Int) ∧ ((cn.toNat ||| ((ix (ix (keeps s) i) k).toNat) : Nat) : Int) < 256 := by
      refine ⟨?_, by omega, or_lt256 hI0.2.2 hkx.2⟩
      rw [take_s hc0, orAll_snoc, ← hI0.1]
    exact ln (⟨k + 1, ((cn.toNat ||| ((ix (ix (keeps s) i) k).toNat) : Nat) : Int)⟩ : Nat × Int) ⟨hN0, hN1⟩ (by first | omega | (dsimp only; omega)) ⟨id, id, id, id, id, id, id, id, id, trivial⟩ ⟨⟨rfl, id⟩, ⟨rfl, id⟩, trivial⟩
  · try simp at hc0
    have hcn : cn = orAll (keep s i) := by rw [hI0.1, show k = (ix (keeps s) i).length by omega, List.take_length, hki]
    refine ex (xt_ (xt_ (xb (th (sq (sq (rg (mv (cal0 (φs := [int cn]) (φ := clo 115 [fp [int cn]]) ⟨rfl, trivial⟩ (prog3.In_ok cn) T.ent95 (nl (th (bk ?_))))))))))))
    have hR0 : (itoaB (ix ((itR s j).1) i)) = keyB (ix (itR s j).1 i) (((listOf 63 cn).take 0).map fun a => ix (itR s j).1 (ix (ix s.states i).next a.toNat).toNat) := by
      exact keyB_nil _
    refine rf (κ := ByteArray) 900 (fun p => [(5, cell b5 [sl 1 intE ((ix s.states i).accept), sl 1 intE ((ix s.states i).next)]), (7, cell b7 [str p])]) (fun iR p => p = keyB (ix (itR s j).1 i) (((listOf 63 cn).take iR).map fun a => ix (itR s j).1 (ix (ix s.states i).next a.toNat).toNat)) (fun c p => False) rfl (InIt cn (by omega) (by omega)) T.ent115 rfl (fun _ => rfl) (fun _ => rfl) (itoaB (ix ((itR s j).1) i)) hR0 ⟨⟨rfl, id⟩, ⟨rfl, id⟩, trivial⟩ ?_ ?_ (fun k h => h.elim) (fun id k h => h.elim) (fun c k h => h.elim)
    · intro m0 acc x0 hG0 hx0 l R w1 M1 F1 hRd
      have hR0 : acc = keyB (ix (itR s j).1 i) (((listOf 63 cn).take m0).map fun a => ix (itR s j).1 (ix (ix s.states i).next a.toNat).toNat) := hG0
      obtain ⟨a, rfl, ha63, hha⟩ := listOf_get hx0
      rw [hcn] at hha
      have hgo := can_go hs hi hha
      have hcx := hcb (ix (ix s.states i).next a).toNat
      have hkz := keyB_size (ix (itR s j).1 i) (((listOf 63 cn).take m0).map fun a => ix (itR s j).1 (ix (ix s.states i).next a.toNat).toNat) (by omega) (fun y hy => by
        obtain ⟨z, _, rfl⟩ := List.mem_map.1 hy
        have := hcb (ix (ix s.states i).next z.toNat).toNat
        omega)
      rw [List.length_map, List.length_take] at hkz
      have hlo := listOf_len 63 cn
      refine rg (ag (nl (aq hRd rfl (bk (dr (nh := 12) [0, 0, 0, 4, 0, 28, 60, 126, 254, 510, 1022, 2047, 4095] T.mixed (by kernel_rfl) ?_)))))
      refine st_ rfl (fun _ _ _ gq kq => lP (gq.1.trans rfl) rfl rfl T.one9 kq) ?_
      refine st_ rfl (fun _ _ _ gq kq => lF (gq.1.trans rfl) rfl T.one28 kq) ?_
      refine st_ rfl (fun _ _ _ gq kq => fP (gq.1.trans rfl) T.fld69_1 kq) ?_
      refine st_ rfl (fun _ _ _ gq kq => lP (gq.1.trans rfl) rfl rfl T.one28 kq) ?_
      refine st_ rfl (fun _ _ _ gq kq => mv' (gq.1.trans rfl) kq) ?_
      refine st_ rfl (fun _ _ _ gq kq => iF (gq.1.trans rfl) (gq.2.1.trans rfl) T.sl28 (by omega) (by first | exact gN (by omega) | exact gI (by omega) (by omega)) kq) ?_
      refine st_ rfl (fun _ _ _ gq kq => lF (gq.1.trans rfl) rfl T.one3 kq) ?_
      refine st_ rfl (fun _ _ _ gq kq => iF (gq.1.trans rfl) (gq.2.1.trans rfl) T.sl28 (by omega) (by first | exact gN (by omega) | exact gI (by omega) (by omega)) kq) ?_
      refine st_ rfl (fun _ _ _ gq kq => lF (gq.1.trans rfl) rfl T.one3 kq) ?_
      refine st_ rfl (fun _ _ _ gq kq => cal0 (φs := [both (int (ix ((itR s j).1) ((ix ((ix s.states i).next) a).toNat))) tab]) (φ := str (itoaB (ix ((itR s j).1) ((ix ((ix s.states i).next) a).toNat)))) ⟨(gq.1.trans rfl), trivial⟩ (Itoa.Itoa_ok (ix ((itR s j).1) ((ix ((ix s.states i).next) a).toNat)) (by omega) (by omega)) T.ent93 kq) ?_
      refine st_ rfl (fun _ _ _ gq kq => bi rfl (gq.1.trans rfl) (b_addS (by have h9 := itoa_size (n := ix (itR s j).1 (ix (ix s.states i).next a).toNat) (by omega) (by omega); show 1 + (itoaB _).size ≤ maxL; unfold maxL; omega)) kq) ?_
      refine st_ rfl (fun _ _ _ gq kq => bi (gq.1.trans rfl) (gq.2.1.trans rfl) (b_addS (by have h9 := itoa_size (n := ix (itR s j).1 (ix (ix s.states i).next a).toNat) (by omega) (by omega); have h10 := hkz; rw [ByteArray.size_append, hR0]; show _ + (1 + _) ≤ maxL; unfold maxL; omega)) kq) ?_
      refine pn (sP (φ := str (acc ++ (({ data := #[32] }) ++ (itoaB (ix ((itR s j).1) ((ix ((ix s.states i).next) a).toNat)))))) rfl rfl rfl T.one9 rfl (nl (eb ?_)))
      have hN0 : (acc ++ (({ data := #[32] }) ++ (itoaB (ix ((itR s j).1) ((ix ((ix s.states i).next) a).toNat))))) = keyB (ix (itR s j).1 i) (((listOf 63 cn).take (m0 + 1)).map fun a => ix (itR s j).1 (ix (ix s.states i).next a.toNat).toNat) := by
        rw [hR0, keyB_snoc, take_at hx0, List.map_append]; rfl
      exact rqN (acc ++ (({ data := #[32] }) ++ (itoaB (ix ((itR s j).1) ((ix ((ix s.states i).next) a).toNat))))) hN0 ⟨⟨rfl, id⟩, ⟨rfl, id⟩, ⟨rfl, id⟩, trivial⟩
    · intro acc hG0
      have hR0 : acc = keyB (ix (itR s j).1 i) (((listOf 63 cn).take ((listOf 63 cn).length)).map fun a => ix (itR s j).1 (ix (ix s.states i).next a.toNat).toNat) := hG0
      refine eb (th (sq (rg (lP rfl rfl rfl T.one9 (ag (nl (th (rt ?_))))))))
      have hr0 : acc = (kf1 s (itR s j).1 i) := by
        rw [hR0, List.take_length, hcn]; rfl
      have hall : ∀ x0, acc = x0 → resAV [str acc] = resAV [str x0] := by rintro _ rfl; rfl
      exact rE () [.tmp 6] rfl [str acc] ⟨.tmp rfl, trivial⟩ (hall _ hr0) trivial (by first | exact .inr rfl | exact .inl rfl)

theorem rounds_ok (s : SSpec) :
    Fn0 Tryd.prog 62 [tabbed (spec s)] (clo 88 [tabbed (fp [strs s.actions, sl 2 stateE s.states])]) := by
  refine fnI Tryd.func62 rfl rfl (fun w0 F0 => ?_)
  refine tbI 0 9999 rfl ?_
  refine fcC (inhS 0 rfl) (fun hS0 => ?_)
  obtain ⟨hsa0, hss0, hse0⟩ := spec_lens hS0
  refine sq (rg (bx (key := 1) (cs := [sl 1 strE s.actions, sl 2 stateE s.states]) rfl fun b1 => (ag (nl (th (sq (rg (fzv 1 1 rfl rfl (tbU (ψ := tab) 1 9999 rfl rfl (mkf (ag (nl (th (rt ?_))))))))))))))
  exact rE () [.tmp 2] rfl [clo 88 [both (fp [sl 1 strE s.actions, sl 2 stateE s.states]) tab]] ⟨.tmp rfl, trivial⟩ (rfl) trivial (by first | exact .inr rfl | exact .inl rfl)

theorem RoundsIt (N0 : Nat) (s : SSpec) (hs : okSpec s) :
    ItG N0 Tryd.prog 88 [tabbed (fp [strs s.actions, sl 2 stateE s.states])] (clN N0) (roundsL s) := by
  intro y Y Z hlaw hz hY0
  refine fnIG Tryd.func88 rfl rfl (fun w0 F0 hN0 => ?_)
  have hf1 := hs.few1; obtain ⟨hn1, hn2⟩ := chain (num0 hs)
  refine tbI 1 9999 rfl ?_
  refine sq ?_
  refine drH (nh := 6) [0, 0, 2, 7, 0, 31] [(none, []), (none, []), (none, []), (none, []), (some 3, []), (some 3, [3])] T.mixed (by kernel_rfl) (by kernel_rfl) ?_
  refine stv (d := 9) (fun β0 => agg [sl 1 strE s.actions, sl 2 stateE s.states]) [] rfl (fun β β' hb => rfl) (fun β0 _ _ _ _ gq gh kq => lFA (gq.1.trans rfl) T.agg25 (Nat.le_of_ble_eq_true rfl) kq) ?_
  refine stv (d := 10) (fun β0 => agg [sl 1 strE s.actions, sl 2 stateE s.states]) [] rfl (fun β β' hb => rfl) (fun β0 _ _ _ _ gq gh kq => lFA (gq.1.trans rfl) T.agg25 (Nat.le_of_ble_eq_true rfl) kq) ?_
  refine stv (d := 11) (fun β0 => sl 1 blE (hollow s)) [] rfl (fun β β' hb => rfl) (fun β0 _ _ _ _ gq gh kq => cal0 (φs := [agg [sl 1 strE s.actions, sl 2 stateE s.states]]) (φ := sl 1 blE (hollow s)) ⟨(gq.1.trans rfl), trivial⟩ (prog7.Hollows_ok s (by assumption)) T.ent90 kq) ?_
  refine stv (d := 12) (fun β0 => sl 1 intsE (keeps s)) [] rfl (fun β β' hb => rfl) (fun β0 _ _ _ _ gq gh kq => cal0 (φs := [agg [sl 1 strE s.actions, sl 2 stateE s.states], sl 1 blE (hollow s)]) (φ := sl 1 intsE (keeps s)) ⟨(gq.1.trans rfl), (gq.2.1.trans rfl), trivial⟩ (prog10.left_ok s (by assumption)) T.ent89 kq) ?_
  refine sta 3 T.z134 (ex_cons (ex_nil)) ?_
  refine stw 3 (fun β0 => cell (gbk (β0 4)) [sl 1 intsE (keeps s)]) [3] rfl (fun β β' hb => by first | rw [hb 4 rfl] | (dsimp only; rw [hb 4 rfl])) (fun β0 _ _ _ _ gq gh kq => sP (φ := sl 1 intsE (keeps s)) (gq.1.trans rfl) (gh.1.trans rfl) (gq.2.1.trans rfl) T.one134 rfl kq) ?_
  refine pnH fun β0 => (nl (th (sq (rg (fF rfl T.fld25_1 (lF rfl rfl T.one23 (fzv 3 3 rfl rfl (tbU (ψ := tab) 3 9999 rfl rfl (mkf (kn 16 (keyP s.states.length s.states (kf0 s)) rfl (fun h => clo_pf T.ent92 (fun i hi => key0_ok s hs i hi) h) (calW (φs := [sl 2 stateE s.states, keyP s.states.length s.states (kf0 s)]) (φ := tup [fre N0 (sl 1 intE ((numBy (fun x y => decide (kf0 s x = kf0 s y)) s.states.length).1)), int ((numBy (fun x y => decide (kf0 s x = kf0 s y)) s.states.length).2.length : Int)]) ⟨rfl, rfl, trivial⟩ (prog5.numbered_ok s.states (kf0 s) (kf0_size hs) (by omega)) T.ent91 (fun N hN => fun h => tup_le (cs := [fre N (sl 1 intE ((numBy (fun x y => decide (kf0 s x = kf0 s y)) s.states.length).1)), int ((numBy (fun x y => decide (kf0 s x = kf0 s y)) s.states.length).2.length : Int)]) (ds := [fre N0 (sl 1 intE ((numBy (fun x y => decide (kf0 s x = kf0 s y)) s.states.length).1)), int ((numBy (fun x y => decide (kf0 s x = kf0 s y)) s.states.length).2.length : Int)]) ⟨fun h => nw_mono (Nat.le_trans hN0 hN) h, fun h => h, trivial⟩ h) (mv (xt rfl rfl (xt rfl rfl (ag (ag (nl (th (bk ?_)))))))))))))))))))
  have hI0_0 : ((numBy (fun x y => decide (kf0 s x = kf0 s y)) s.states.length).1) = (itR s (0 + 1)).1 ∧ ((numBy (fun x y => decide (kf0 s x = kf0 s y)) s.states.length).2.length : Int) = ((itR s (0 + 1)).2 : Int) ∧ Y 0 hz ∧ ∀ r, r < 0 → ¬ stopP s r := by
    exact ⟨hn1, hn2, hY0, fun r hr => absurd hr (Nat.not_lt_zero r)⟩
  refine lp (κ := Nat × (List Int) × Int × HA) (fun p => [(0, eqv y), (1, fp [sl 1 strE s.actions, sl 2 stateE s.states]), (3, both (fp [sl 1 intsE (keeps s)]) tab), (4, fre N0 (sl 1 intE p.2.1)), (5, int p.2.2.1), (9999, tab)]) (fun p => [(0, p.2.2.2)]) (fun p => p.2.1 = (itR s (p.1 + 1)).1 ∧ p.2.2.1 = ((itR s (p.1 + 1)).2 : Int) ∧ Y p.1 p.2.2.2 ∧ ∀ r, r < p.1 → ¬ stopP s r) (fun p => s.states.length - p.1) ⟨0, (numBy (fun x y => decide (kf0 s x = kf0 s y)) s.states.length).1, ((numBy (fun x y => decide (kf0 s x = kf0 s y)) s.states.length).2.length : Int), hz⟩ hI0_0 ⟨id, id, id, id, id, id, trivial⟩ ⟨⟨rfl, id⟩, trivial⟩ ?_
  intro ⟨j, cl, mn, hh⟩ hG0
  have hI0 : cl = (itR s (j + 1)).1 ∧ mn = ((itR s (j + 1)).2 : Int) ∧ Y j hh ∧ ∀ r, r < j → ¬ stopP s r := hG0
  show Ct _ _ _ _ [(0, eqv y), (1, fp [sl 1 strE s.actions, sl 2 stateE s.states]), (3, both (fp [sl 1 intsE (keeps s)]) tab), (4, fre N0 (sl 1 intE cl)), (5, int mn), (9999, tab)] [(0, hh)] _
  obtain ⟨hm1, hm2⟩ := chain (num1 hs j)
  refine sq (sq (rg (mv (mv (callV (Hi := [(0, hh)]) rfl (by show FnV _ _ [fre N0 (ints cl)] _ _ _; rw [hI0.1]; exact hlaw j hh (itR s (j + 1)).1 hI0.2.2.1 (rounds_at hs hI0.2.2.2)) ⟨⟨rfl, id⟩, trivial⟩ fun N bh => oan 22 rfl fun hres => (nl (th ?_)))))))
  refine cd rfl (fun hc0 => ?_) (fun hc0 => ?_)
  · try simp at hc0
    refine sk (th (bk (sq (rg (mv (kn 23 (ints cl) rfl (fun h => nw_le h) (tbU (ψ := tab) 23 9999 rfl rfl (kn 23 (sl 1 intT cl) rfl (ints_tab) (al (key := 6) T.z28 (ex_cons (ex_nil)) fun b6 => (sP (φ := sl 1 intT cl) rfl rfl rfl T.one28 rfl (nl (th (sq (rg (fF rfl T.fld25_1 (lF rfl rfl T.one23 (fzv 6 6 rfl rfl (mkf (kn 27 (keyP s.states.length s.states (kf1 s (itR s (j + 1)).1)) rfl (fun h => clo_pf T.ent94 (fun i hi => by rw [hI0.1]; exact key1_ok s hs (j + 1) i hi) h) (calW (φs := [sl 2 stateE s.states, keyP s.states.length s.states (kf1 s (itR s (j + 1)).1)]) (φ := tup [fre N0 (sl 1 intE ((numBy (fun x y => decide (kf1 s (itR s (j + 1)).1 x = kf1 s (itR s (j + 1)).1 y)) s.states.length).1)), int ((numBy (fun x y => decide (kf1 s (itR s (j + 1)).1 x = kf1 s (itR s (j + 1)).1 y)) s.states.length).2.length : Int)]) ⟨rfl, rfl, trivial⟩ (prog5.numbered_ok s.states (kf1 s (itR s (j + 1)).1) (kf1_size hs (j + 1)) (by omega)) T.ent91 (fun N hN => fun h => tup_le (cs := [fre N (sl 1 intE ((numBy (fun x y => decide (kf1 s (itR s (j + 1)).1 x = kf1 s (itR s (j + 1)).1 y)) s.states.length).1)), int ((numBy (fun x y => decide (kf1 s (itR s (j + 1)).1 x = kf1 s (itR s (j + 1)).1 y)) s.states.length).2.length : Int)]) (ds := [fre N0 (sl 1 intE ((numBy (fun x y => decide (kf1 s (itR s (j + 1)).1 x = kf1 s (itR s (j + 1)).1 y)) s.states.length).1)), int ((numBy (fun x y => decide (kf1 s (itR s (j + 1)).1 x = kf1 s (itR s (j + 1)).1 y)) s.states.length).2.length : Int)]) ⟨fun h => nw_mono (Nat.le_trans hN0 hN) h, fun h => h, trivial⟩ h) (mv (xt rfl rfl (xt rfl rfl (ag (ag (nl (th (sq (sq (rg (mv (mv (bi rfl rfl b_eql (nl (th ?_)))))))))))))))))))))))))))))))))))
    refine cd rfl (fun hc1 => ?_) (fun hc1 => ?_)
    · try simp at hc1
      have hP : stopP s j := by
        have h2 := hI0.2.1
        rw [hm2, h2] at hc1
        exact Int.ofNat.inj hc1
      refine rt (rt_ (rb (rt_ (rb ?_))))
      exact r0 bh.2 rfl (fun _ => andp_any7 (.inl (by rw [rounds_len hs hI0.2.2.2 hP]; exact hres.1 hc0))) ⟨⟨rfl, id⟩, trivial⟩ (.inr rfl)
    · try simp at hc1
      have hno2 : ∀ r, r < j + 1 → ¬ stopP s r := fun r hr => by
        by_cases e : r = j
        · subst e
          intro hP
          refine hc1 ?_
          rw [hm2, hI0.2.1]
          exact congrArg Int.ofNat hP
        · exact hI0.2.2.2 r (by omega)
      refine sk (th (rg (mv (mv (ag (ag (nl (eb ?_))))))))
      have hN0 : ((numBy (fun x y => decide (kf1 s (itR s (j + 1)).1 x = kf1 s (itR s (j + 1)).1 y)) s.states.length).1) = (itR s ((j + 1) + 1)).1 ∧ ((numBy (fun x y => decide (kf1 s (itR s (j + 1)).1 x = kf1 s (itR s (j + 1)).1 y)) s.states.length).2.length : Int) = ((itR s ((j + 1) + 1)).2 : Int) ∧ Y (j + 1) bh.2 ∧ ∀ r, r < (j + 1) → ¬ stopP s r := by
        refine ⟨hm1, hm2, hres.1 hc0, hno2⟩
      exact ln (⟨j + 1, (numBy (fun x y => decide (kf1 s (itR s (j + 1)).1 x = kf1 s (itR s (j + 1)).1 y)) s.states.length).1, ((numBy (fun x y => decide (kf1 s (itR s (j + 1)).1 x = kf1 s (itR s (j + 1)).1 y)) s.states.length).2.length : Int), bh.2⟩ : Nat × (List Int) × Int × HA) hN0 (by have := stop_lt hs hI0.2.2.2; (try dsimp only); omega) ⟨id, id, id, id, id, id, trivial⟩ ⟨⟨rfl, id⟩, trivial⟩
  · try simp at hc0
    refine ex (xt_ (xt_ (xb ?_)))
    exact r0 bh.2 rfl (fun _ => andp_any7 (.inr (hres.2 hc0))) ⟨⟨rfl, id⟩, trivial⟩ (.inl rfl)

theorem Of_ok (s : SSpec) (hs : okSpec s) :
    AL.Fn Tryd.prog 40 [tabbed (spec s)] [] (ι := Unit) (fun N _ => fre N (ints (classesR s))) (fun _ => []) := by
  refine fnI Tryd.func40 rfl rfl (fun w0 F0 => ?_)
  refine tbI 0 9999 rfl ?_
  refine fcC (inhS 0 rfl) (fun hS0 => ?_)
  obtain ⟨hsa0, hss0, hse0⟩ := spec_lens hS0
  refine sq (rg (bx (key := 1) (cs := [sl 1 strE s.actions, sl 2 stateE s.states]) rfl fun b1 => (ag (nl (th (sq (rg (al (key := 3) T.z28 (ex_cons (ex_nil)) fun b3 => (nl (th (sq (sq (rg (lPA rfl rfl T.agg25 rfl (tbU (ψ := tab) 5 9999 rfl rfl (cal0 (φs := [both (agg [sl 1 strE s.actions, sl 2 stateE s.states]) tab]) (φ := clo 88 [both (fp [sl 1 strE s.actions, sl 2 stateE s.states]) tab]) ⟨rfl, trivial⟩ (prog11.rounds_ok s) T.ent62 (nl (th (bk (kncC 3 0 (fre w0.heap.size (sl 1 intE [])) rfl rfl nw_nil ?_))))))))))))))))))))
  have hR0 : ([] : List Int) = if 0 = 0 then [] else (itR s 0).1 := by
    rfl
  refine rfG (κ := (List Int)) 900 (fun p => [(1, cell b1 [sl 1 strE s.actions, sl 2 stateE s.states]), (3, cell b3 [fre w0.heap.size (sl 1 intE p)])]) (fun iR p => p = if iR = 0 then [] else (itR s iR).1) (fun c p => False) rfl (RoundsIt w0.heap.size s hs) T.ent88 rfl (fun _ => rfl) (fun _ => rfl) ([] : List Int) hR0 ⟨⟨rfl, id⟩, ⟨rfl, id⟩, trivial⟩ ?_ ?_ (fun k h => h.elim) (fun id k h => h.elim) (fun c k h => h.elim)
  · intro m0 last x0 hG0 hx0 l R w1 M1 F1 hRd
    have hR0 : last = if m0 = 0 then [] else (itR s m0).1 := hG0
    refine rg (ag (nl (aq hRd rfl (bk (rg (mv (sP (φ := fre w0.heap.size (sl 1 intE x0)) rfl rfl rfl T.one28 rfl (nl (eb ?_)))))))))
    have hN0 : x0 = if (m0 + 1) = 0 then [] else (itR s (m0 + 1)).1 := by
      rw [if_neg (by omega)]; exact rounds_get hx0
    exact rqN x0 hN0 ⟨⟨rfl, id⟩, ⟨rfl, id⟩, ⟨rfl, id⟩, trivial⟩
  · intro last hG0
    have hR0 : last = if ((roundsL s).length) = 0 then [] else (itR s ((roundsL s).length)).1 := hG0
    refine eb (th (sq (rg (lP rfl rfl rfl T.one28 (ag (nl (th (rt ?_))))))))
    have hr0 : last = (classesR s) := by
      rw [hR0, (rounds_last hs).1, if_neg (by omega)]; exact (rounds_last hs).2
    have hall : ∀ x0, last = x0 → resAV [fre w0.heap.size (sl 1 intE last)] = resAV [fre w0.heap.size (sl 1 intE x0)] := by rintro _ rfl; rfl
    exact rE () [.tmp 2] rfl [fre w0.heap.size (sl 1 intE last)] ⟨.tmp rfl, trivial⟩ (hall _ hr0) trivial (by first | exact .inr rfl | exact .inl rfl)
end prog11
end Go.Proofs.YtolpjmllmlahfaaDoor

/- The least specification, as the program merges it: plain Lean. -/

namespace Go.Proofs.YtolpjmllmlahfaaDoor
open AL ref01 ref03 ref04 ref06 Part Rungs LeftM TrimM Itoa Keys RoundM
namespace MergeM
theorem rising_pw {l : List Int} (h : rising l = true) : l.Pairwise (· < ·) := by
  rw [List.pairwise_iff_getElem]
  intro i j hi hj hij
  have hstep : ∀ k, i + k < l.length → ix l i ≤ ix l (i + k) ∧ (0 < k → ix l i < ix l (i + k)) := fun k => by
    induction k with
    | zero => exact fun _ => ⟨Int.le_refl _, fun h => by omega⟩
    | succ k ih =>
      intro hk
      have h1 := ih (by omega)
      have h2 := rising_ix h (i := i + k) (by omega)
      rw [show i + (k + 1) = i + k + 1 by omega]
      exact ⟨by omega, fun _ => by omega⟩
  have := (hstep (j - i) (by omega)).2 (by omega)
  rw [show i + (j - i) = j by omega, ix_get hi, ix_get hj] at this
  exact this
theorem pw_rising {l : List Int} (h : l.Pairwise (· < ·)) : rising l = true := by
  unfold rising
  rw [List.all_eq_true]
  intro i hi
  have hi := List.mem_range.1 hi
  rw [decide_eq_true_eq, ix_get (by omega), ix_get (by omega)]
  exact List.pairwise_iff_getElem.1 h i (i + 1) (by omega) (by omega) (by omega)
theorem keep_rising {s : SSpec} (hs : okSpec s) {x : Nat} (hx : x < s.states.length) : rising (keep s x) = true :=
  pw_rising ((rising_pw (hs.st x hx).rise).filter _)
theorem tnext_ix {s : SSpec} {x : Int} {a : Nat} (ha : a < s.actions.length) : ix (tnext s x) a = if has (orAll (keep s x.toNat)) (a : Int) then posN (ordS s) (ix (ix s.states x.toNat).next a) else -1 := ix_map_range ha
theorem ord_bd {s : SSpec} (hs : okSpec s) {i : Nat} (hi : i < (ordS s).length) : 0 ≤ ix (ordS s) i ∧ ix (ordS s) i < (s.states.length : Int) := (show okQ s.states.length (ordS s) from order_okQ hs).1 i hi
theorem ord_le {s : SSpec} (hs : okSpec s) : (ordS s).length ≤ s.states.length := (show okQ s.states.length (ordS s) from order_okQ hs).le
noncomputable abbrev tS (s : SSpec) : SSpec := ⟨s.actions, (ordS s).map (tstate s)⟩
theorem tS_len (s : SSpec) : (tS s).states.length = (ordS s).length := by simp
theorem tS_at {s : SSpec} {i : Nat} (hi : i < (ordS s).length) : ix (tS s).states i = tstate s (ix (ordS s) i) := by
  rw [ix_get (by rw [tS_len]; exact hi), ix_get hi]; simp
theorem tS_ok {s : SSpec} (hs : okSpec s) : okSpec (tS s) := by
  have hop := ordS_pos s
  have hol := ord_le hs
  have hf1 := hs.few1
  have hn8 := hs.n8
  refine ⟨hs.acts, hs.n8, by rw [tS_len]; exact hop, by rw [tS_len]; omega, fun k hk => ?_⟩
  rw [tS_len] at hk ⊢
  rw [tS_at hk]
  have hb := ord_bd hs hk
  have hx : (ix (ordS s) k).toNat < s.states.length := by omega
  have hkb := keep_bd hs (ix (ordS s) k).toNat
  refine ⟨by simp [tstate, tnext], fun a ha => ?_, fun i hi => hkb.1 _ (ix_mem hi), fun i hi a ha => ?_, keep_rising hs hx⟩
  · show -1 ≤ ix (tnext s _) a ∧ ix (tnext s _) a < _
    rw [tnext_ix (s := s) ha]
    split
    · have := posN_bd (ordS s) (ix (ix s.states (ix (ordS s) k).toNat).next a)
      omega
    · omega
  · have hh : has (orAll (keep s (ix (ordS s) k).toNat)) (a : Int) = true := (orAll_has _ _).2 ⟨_, ix_mem hi, ha⟩
    have hg := can_go hs hx hh
    have hal : a < s.actions.length := by have := (hs.st _ hx).len; omega
    refine ⟨hal, ?_⟩
    show 0 ≤ ix (tnext s _) a
    rw [tnext_ix hal, if_pos hh]
    exact (posN_bd _ _).1
open Classical in
theorem hollow_ix {s : SSpec} {x : Nat} (hx : x < s.states.length) : ix (hollow s) x = true ↔ Hol s x := by
  unfold hollow; rw [ix_map_range hx]; simp
theorem hollow_out {s : SSpec} {x : Nat} (hx : ¬ x < s.states.length) : ix (hollow s) x = false := by
  have : (hollow s)[x]? = none := List.getElem?_eq_none (by rw [hollow_len]; omega)
  unfold ix
  rw [List.getD_eq_getElem?_getD, this]; rfl
/-- A state that is not hollow keeps a set. -/
theorem keep_ne {s : SSpec} {x : Nat} (hx : x < s.states.length) (h : ix (hollow s) x = false) : keep s x ≠ [] := fun he => by
  have hH : ¬ Hol s x := fun hh => by rw [(hollow_ix hx).2 hh] at h; cases h
  refine hH (Hol_closed s x hx (fun i hi => ?_))
  rw [keep_filter h, List.filter_eq_nil_iff] at he
  have h1 := he _ (ix_mem hi)
  simp only [Bool.not_eq_true', Bool.not_eq_false] at h1
  obtain ⟨a, h2, h3, h4, h5⟩ := falls_iff.1 h1
  refine ⟨a, h2, h3, h4, ?_⟩
  by_cases hb : (ix (ix s.states x).next a).toNat < s.states.length
  · exact (hollow_ix hb).1 h5
  · rw [hollow_out hb] at h5; cases h5
theorem ord_solid {s : SSpec} (hs : okSpec s) (h0 : ix (hollow s) 0 = false) {i : Nat} (hi : i < (ordS s).length) : ix (hollow s) (ix (ordS s) i).toNat = false :=
  bq_solid hs h0 _ _ (ix_mem hi)
theorem tS_hollow {s : SSpec} (hs : okSpec s) (h0 : ix (hollow s) 0 = false) (i : Nat) : ix (hollow (tS s)) i = false := by
  by_cases hi : i < (tS s).states.length
  · cases hv : ix (hollow (tS s)) i with
    | false => rfl
    | true =>
      have h := (hollow_ix hi).1 hv
      exfalso
      refine h (fun _ => False) (fun x hx hc => ?_)
      rw [tS_len] at hx
      have hb := ord_bd hs hx
      have hne := keep_ne (s := s) (x := (ix (ordS s) x).toNat) (by omega) (ord_solid hs h0 hx)
      have hl : 0 < (ix (tS s).states x).accept.length := by rw [tS_at hx]; exact List.length_pos_iff.2 hne
      obtain ⟨_, _, _, _, h⟩ := hc 0 hl
      exact h
  · exact hollow_out hi
theorem tS_keep {s : SSpec} (hs : okSpec s) (h0 : ix (hollow s) 0 = false) {i : Nat} (hi : i < (ordS s).length) : keep (tS s) i = keep s (ix (ordS s) i).toNat := by
  rw [keep_filter (tS_hollow hs h0 i), tS_at hi]
  show (keep s _).filter _ = _
  rw [List.filter_eq_self]
  intro t _
  rw [Bool.not_eq_true']
  cases hf : falls (tstate s (ix (ordS s) i)) t (hollow (tS s)) with
  | false => rfl
  | true =>
    obtain ⟨a, _, _, _, h⟩ := falls_iff.1 hf
    rw [tS_hollow hs h0] at h; cases h
theorem visit_sub {y : Int} : ∀ (ks l : List Int), y ∈ l → y ∈ visit l ks := fun ks l h => (visit_prefix ks l).subset h
theorem visit_has {y : Int} (h0 : 0 ≤ y) : ∀ (ks l : List Int), y ∈ ks → y ∈ visit l ks
  | k :: ks, l, h => by
    rw [visit_foldl, List.foldl_cons]
    rcases List.mem_cons.1 h with rfl | h
    · refine visit_sub ks _ ?_
      unfold visit1
      by_cases hc : l.contains y = true
      · rw [hc]; simp; exact List.contains_iff_mem.1 hc
      · simp only [Bool.not_eq_true] at hc
        rw [hc, if_pos (by simp [h0])]; simp
    · exact visit_has h0 ks _ h
/-- Where a state that is found leads to is found. -/
theorem ord_closed {s : SSpec} (hs : okSpec s) {i : Nat} (hi : i < (ordS s).length) {a : Nat} (ha : has (orAll (keep s (ix (ordS s) i).toNat)) (a : Int) = true) : ix (ix s.states (ix (ordS s) i).toNat).next a ∈ ordS s := by
  have hol := ord_le hs
  have hi2 : i < (bq (solid s) i).length := by
    rcases Nat.lt_or_ge i (bq (solid s) i).length with h | h
    · exact h
    · have he := bq_end hs h (by omega)
      have : (ordS s).length ≤ i := by show (order (solid s)).length ≤ i; rw [← he]; exact h
      omega
  have hp := bq_order hs (i := i) (by omega)
  have hix : ix (ordS s) i = ix (bq (solid s) i) i := ix_prefix hp hi2
  have hp1 := bq_order hs (i := i + 1) (by omega)
  rw [bq_succ hs hi2] at hp1
  refine hp1.subset ?_
  have hb := ord_bd hs hi
  have hg := can_go hs (x := (ix (ordS s) i).toNat) (by omega) ha
  rw [← hix]
  have hn8 := hs.n8
  have hl := (hs.st (ix (ordS s) i).toNat (by omega)).len
  refine visit_has hg.2.1 _ _ (List.mem_map.2 ⟨(a : Int), listOf_mem.2 ⟨a, rfl, by omega, ha⟩, by rw [Int.toNat_natCast]⟩)
theorem tS_nbrs {s : SSpec} (hs : okSpec s) (h0 : ix (hollow s) 0 = false) (cl : List Int) {i : Nat} (hi : i < (ordS s).length) :
    nbrs (tS s) cl i = (listOf 63 (orAll (keep s (ix (ordS s) i).toNat))).map fun a => ix cl (posN (ordS s) (ix (ix s.states (ix (ordS s) i).toNat).next a.toNat)).toNat := by
  unfold nbrs
  rw [tS_keep hs h0 hi, tS_at hi]
  refine List.map_congr_left (fun a ha => ?_)
  obtain ⟨b, rfl, _, hb⟩ := listOf_mem.1 ha
  have hbd := ord_bd hs hi
  have hg := can_go hs (x := (ix (ordS s) i).toNat) (by omega) hb
  have hl := (hs.st (ix (ordS s) i).toNat (by omega)).len
  show ix cl (ix (tnext s _) _).toNat = _
  rw [Int.toNat_natCast, tnext_ix (by omega), if_pos hb]
/-- The rounds of a trimS specification are those of the whole one, at the states that are found. -/
theorem rounds_same {s : SSpec} (hs : okSpec s) (h0 : ix (hollow s) 0 = false) : ∀ r, ∀ i j, i < (ordS s).length → j < (ordS s).length →
    (ix (itR (tS s) r).1 i = ix (itR (tS s) r).1 j ↔ ix (itR s r).1 (ix (ordS s) i).toNat = ix (itR s r).1 (ix (ordS s) j).toNat)
  | 0, i, j, _, _ => by
    have hz : ∀ (u : SSpec) (k : Nat), ix (itR u 0).1 k = 0 := fun u k => by
      show ix (List.replicate u.states.length (0 : Int)) k = 0
      unfold ix
      rw [List.getD_eq_getElem?_getD, List.getElem?_replicate]
      split <;> rfl
    rw [hz, hz, hz, hz]
  | r + 1, i, j, hi, hj => by
    have ih := rounds_same hs h0 r
    have ht := tS_ok hs
    have hbi := ord_bd hs hi
    have hbj := ord_bd hs hj
    have e1 := (numOK (itR_eqOn ht r) (tS s).states.length (Nat.le_refl _)).iff (itR_eqOn ht r) (Nat.le_refl _) (x := i) (y := j) (by rw [tS_len]; exact hi) (by rw [tS_len]; exact hj)
    have e2 := (numOK (itR_eqOn hs r) s.states.length (Nat.le_refl _)).iff (itR_eqOn hs r) (Nat.le_refl _) (x := (ix (ordS s) i).toNat) (y := (ix (ordS s) j).toNat) (by omega) (by omega)
    refine Iff.trans e1 (Iff.trans ?_ e2.symm)
    rw [alike_nbrs ht (by rw [tS_len]; exact hi) (by rw [tS_len]; exact hj), alike_nbrs hs (by omega) (by omega), ih i j hi hj, tS_keep hs h0 hi, tS_keep hs h0 hj, tS_nbrs hs h0 _ hi, tS_nbrs hs h0 _ hj]
    refine and_congr_right (fun _ => and_congr_right (fun hk => ?_))
    unfold nbrs
    rw [hk, List.map_inj_left, List.map_inj_left]
    refine forall_congr' (fun a => forall_congr' (fun ha => ?_))
    obtain ⟨b, rfl, _, hb⟩ := listOf_mem.1 ha
    rw [Int.toNat_natCast]
    have hbi' : has (orAll (keep s (ix (ordS s) i).toNat)) (b : Int) = true := by rw [hk]; exact hb
    obtain ⟨p1, p2⟩ := posN_at (ord_closed hs hi hbi')
    obtain ⟨q1, q2⟩ := posN_at (ord_closed hs hj hb)
    have p0 := (posN_bd (ordS s) (ix (ix s.states (ix (ordS s) i).toNat).next b)).1
    have q0 := (posN_bd (ordS s) (ix (ix s.states (ix (ordS s) j).toNat).next b)).1
    have := ih _ _ (show (posN (ordS s) (ix (ix s.states (ix (ordS s) i).toNat).next b)).toNat < (ordS s).length by omega) (show (posN (ordS s) (ix (ix s.states (ix (ordS s) j).toNat).next b)).toNat < (ordS s).length by omega)
    rw [p2, q2] at this
    exact this
theorem itR_late {s : SSpec} (hs : okSpec s) {R : Nat} (h : s.states.length + 1 ≤ R) : (itR s R).1 = classesR s := by
  have hP := stop_spec hs
  have hno : ∀ r, r < stopR s → ¬ stopP s r := fun r hr => by
    have := List.not_of_lt_findIdx hr
    simpa only [List.getElem_range, decide_eq_false_iff_not] using this
  have hl := stop_lt hs hno
  have e := (itR_step hs (stopR s + 1)).2 (show (itR s (stopR s + 1)).2 = (itR s (stopR s + 1 + 1)).2 from hP.symm)
  have h1 := itR_stable e (R - (stopR s + 1))
  rw [show stopR s + 1 + (R - (stopR s + 1)) = R by omega] at h1
  rw [h1, (rounds_last hs).2]
theorem classes_same {s : SSpec} (hs : okSpec s) (h0 : ix (hollow s) 0 = false) {i j : Nat} (hi : i < (ordS s).length) (hj : j < (ordS s).length) :
    ix (classesR (tS s)) i = ix (classesR (tS s)) j ↔ ix (classesR s) (ix (ordS s) i).toNat = ix (classesR s) (ix (ordS s) j).toNat := by
  have := rounds_same hs h0 (s.states.length + 1) i j hi hj
  rw [itR_late (tS_ok hs) (by rw [tS_len]; have := ord_le hs; omega)] at this
  exact this
/-- Numbers in the order of first elements: each new one is the count so far. -/
theorem num_prefix (rel : Nat → Nat → Bool) (k : Nat) : (numBy rel k).1 <+: (numBy rel (k + 1)).1 := by
  rw [numBy]
  split
  · exact List.prefix_append _ _
  · exact List.prefix_append _ _
theorem num_prefixN (rel : Nat → Nat → Bool) (k : Nat) : ∀ j, (numBy rel k).1 <+: (numBy rel (k + j)).1
  | 0 => List.prefix_rfl
  | j + 1 => (num_prefixN rel k j).trans (num_prefix rel (k + j))
theorem num_step {n : Nat} {rel : Nat → Nat → Bool} (hr : EqOn n rel) {k : Nat} (hk : k < n) :
    (ix (numBy rel n).1 k = ((numBy rel k).2.length : Int) ∧ (numBy rel (k + 1)).2.length = (numBy rel k).2.length + 1 ∧ ∀ i, i < k → ix (numBy rel n).1 i ≠ ix (numBy rel n).1 k) ∨
    (ix (numBy rel n).1 k < ((numBy rel k).2.length : Int) ∧ (numBy rel (k + 1)).2.length = (numBy rel k).2.length ∧ ∃ i, i < k ∧ ix (numBy rel n).1 i = ix (numBy rel n).1 k) := by
  have hok := numOK hr k (by omega)
  have hp : ∀ m, m ≤ n → ∀ i, i < m → ix (numBy rel n).1 i = ix (numBy rel m).1 i := fun m hm i hi => by
    have := num_prefixN rel m (n - m)
    rw [show m + (n - m) = n by omega] at this
    exact ix_prefix this (by rw [num_len]; exact hi)
  have hlen := num_len (rel := rel) k
  have hv : ix (numBy rel n).1 k = ix (numBy rel (k + 1)).1 k := hp (k + 1) (by omega) k (by omega)
  rw [hv]
  have hi' : ∀ i, i < k → ix (numBy rel n).1 i = ix (numBy rel k).1 i := fun i hi => hp k (by omega) i hi
  rw [numBy]
  split
  · next j hj =>
    right
    have h1 := (findIdx_some hj).1
    refine ⟨by rw [ixe hlen.symm]; omega, rfl, (ix (numBy rel k).2 j).toNat, ?_, ?_⟩
    · have := hok.fs0 j h1; omega
    · have h2 := hok.fs0 j h1
      rw [hi' _ (by omega), hok.at_ j h1, ixe hlen.symm]
  · left
    refine ⟨by rw [ixe hlen.symm], by simp, fun i hi => ?_⟩
    have := hok.cls i hi
    rw [hi' i hi, ixe hlen.symm]; omega
def mst (cl : List Int) (x : SState) : SState := ⟨x.accept, x.next.map (mapK cl)⟩
def mout (cl : List Int) (ts : List SState) : Nat → List SState
  | 0 => []
  | k + 1 => if ix cl k = ((mout cl ts k).length : Int) then mout cl ts k ++ [mst cl (ix ts k)] else mout cl ts k
def mat (cl from_ : List Int) (n : Nat) : Nat → List Int
  | 0 => List.replicate n (-1)
  | k + 1 => (mat cl from_ n k).set (ix from_ k).toNat (ix cl k)
theorem mat_len (cl from_ : List Int) (n : Nat) : ∀ k, (mat cl from_ n k).length = n
  | 0 => by simp [mat]
  | k + 1 => by simp [mat, mat_len cl from_ n k]
noncomputable def merged (s : SSpec) : SSpec × List Int :=
  if ix (hollow s) 0 = true then (nothing s.actions, List.replicate s.states.length (-1))
  else (⟨s.actions, mout (classesR (tS s)) (tS s).states (ordS s).length⟩, mat (classesR (tS s)) (ordS s) s.states.length (ordS s).length)
theorem mat_out {cl l : List Int} {n : Nat} (hn : l.Nodup) (hb : ∀ i, i < l.length → 0 ≤ ix l i ∧ ix l i < (n : Int)) : ∀ k, k ≤ l.length → ∀ i, i < k → ix (mat cl l n k) (ix l i).toNat = ix cl i
  | 0, _, i, hi => by omega
  | k + 1, hk, i, hi => by
    have hbk := hb k (by omega)
    have hbi := hb i (by omega)
    show ix ((mat cl l n k).set _ _) _ = _
    rw [ix_set (by rw [mat_len]; omega)]
    by_cases e : i = k
    · subst e; rw [if_pos rfl]
    · rw [if_neg (fun h => ?_)]
      · exact mat_out hn hb k (by omega) i (by omega)
      · have h1 : ix l i = ix l k := by omega
        rw [ix_get (by omega), ix_get (by omega)] at h1
        exact e ((List.getElem_inj hn).1 h1)
/-- The reference's walk over the states that are found, and the program's. -/
theorem fold_same {s : SSpec} (hs : okSpec s) (h0 : ix (hollow s) 0 = false) : ∀ k, k ≤ (ordS s).length →
    (lfold (classesR s) s.states.length ((ordS s).take k)).1.length = (numBy (alike (solid (tS s)) (itR (tS s) (tS s).states.length).1) k).2.length ∧
    (lfold (classesR s) s.states.length ((ordS s).take k)).2.1.length = s.states.length ∧
    (lfold (classesR s) s.states.length ((ordS s).take k)).2.2 = mat (classesR (tS s)) (ordS s) s.states.length k ∧
    (∀ i, i < k → ix (lfold (classesR s) s.states.length ((ordS s).take k)).2.1 (ix (classesR s) (ix (ordS s) i).toNat).toNat = ix (classesR (tS s)) i + 1) ∧
    (∀ y, (∀ i, i < k → ix (classesR s) (ix (ordS s) i).toNat ≠ y) → 0 ≤ y → ix (lfold (classesR s) s.states.length ((ordS s).take k)).2.1 y.toNat = 0) ∧
    mout (classesR (tS s)) (tS s).states k = (lfold (classesR s) s.states.length ((ordS s).take k)).1.map (fun y => mst (classesR (tS s)) (tstate s y)) ∧
    (∀ y ∈ (lfold (classesR s) s.states.length ((ordS s).take k)).1, y ∈ ordS s)
  | 0, _ => by
    refine ⟨rfl, by simp [lfold], rfl, fun i hi => by omega, fun y _ _ => ?_, rfl, fun y hy => by simp [lfold] at hy⟩
    show ix (List.replicate s.states.length (0 : Int)) _ = 0
    unfold ix
    rw [List.getD_eq_getElem?_getD, List.getElem?_replicate]
    split <;> rfl
  | k + 1, hk => by
    obtain ⟨a1, a2, a3, a4, a5, a6, a7⟩ := fold_same hs h0 k (by omega)
    have hkl : k < (ordS s).length := by omega
    have ht := tS_ok hs
    have hb := ord_bd hs hkl
    have hcb := classes_bd hs (x := (ix (ordS s) k).toNat) (by omega)
    have hcl : ∀ i, i < k → (ix (classesR (tS s)) i = ix (classesR (tS s)) k ↔ ix (classesR s) (ix (ordS s) i).toNat = ix (classesR s) (ix (ordS s) k).toNat) := fun i hi => classes_same hs h0 (by omega) hkl
    have hcn : ∀ i, 0 ≤ ix (classesR (tS s)) i := fun i => (cl_bd ht _ i).1
    have hstep := num_step (itR_eqOn ht (tS s).states.length) (k := k) (by rw [tS_len]; exact hkl)
    have hc : (numBy (alike (solid (tS s)) (itR (tS s) (tS s).states.length).1) (tS s).states.length).1 = classesR (tS s) := rfl
    rw [hc] at hstep
    have hml : ((mout (classesR (tS s)) (tS s).states k).length : Int) = ((numBy (alike (solid (tS s)) (itR (tS s) (tS s).states.length).1) k).2.length : Int) := by rw [a6, List.length_map, a1]
    have htk : (ordS s).take (k + 1) = (ordS s).take k ++ [ix (ordS s) k] := take_s hkl
    have hmo : mout (classesR (tS s)) (tS s).states (k + 1) = if ix (classesR (tS s)) k = ((mout (classesR (tS s)) (tS s).states k).length : Int) then mout (classesR (tS s)) (tS s).states k ++ [mst (classesR (tS s)) (ix (tS s).states k)] else mout (classesR (tS s)) (tS s).states k := rfl
    have hma : mat (classesR (tS s)) (ordS s) s.states.length (k + 1) = (mat (classesR (tS s)) (ordS s) s.states.length k).set (ix (ordS s) k).toNat (ix (classesR (tS s)) k) := rfl
    rw [htk, lfold_snoc, hmo, hma, tS_at hkl]
    generalize hst : lfold (classesR s) s.states.length ((ordS s).take k) = st at a1 a2 a3 a4 a5 a6 a7 ⊢
    obtain ⟨fi, pl, tm⟩ := st
    dsimp only at a1 a2 a3 a4 a5 a6 a7
    rcases hstep with ⟨b1, b2, b3⟩ | ⟨b1, b2, i, hi, b3⟩
    · have hz : ix pl (ix (classesR s) (ix (ordS s) k).toNat).toNat = 0 := a5 _ (fun i hi h => b3 i hi ((hcl i hi).2 h)) hcb.1
      have hself : ∀ v : Int, ix (pl.set (ix (classesR s) (ix (ordS s) k).toNat).toNat v) (ix (classesR s) (ix (ordS s) k).toNat).toNat = v := fun v => by rw [ix_set (by omega), if_pos rfl]
      unfold lstep
      rw [if_pos hz, if_pos (by rw [b1, hml])]
      dsimp only
      refine ⟨by rw [List.length_append, List.length_singleton, a1, b2], by simp [a2], ?_, fun i hi => ?_, fun y hy h0y => ?_, ?_, fun y hy => ?_⟩
      · rw [hself, a3]
        congr 1
        rw [b1, ← a1]; omega
      · by_cases e : i = k
        · subst e; rw [hself, b1, ← a1]; omega
        · have hne : ix (classesR s) (ix (ordS s) i).toNat ≠ ix (classesR s) (ix (ordS s) k).toNat := fun h => b3 i (by omega) ((hcl i (by omega)).2 h)
          have hbi := ord_bd hs (i := i) (by omega)
          have hci := classes_bd hs (x := (ix (ordS s) i).toNat) (by omega)
          rw [ix_set (by omega), if_neg (fun h => hne (by omega))]
          exact a4 i (by omega)
      · have hne := hy k (by omega)
        rw [ix_set (by omega), if_neg (fun h => hne (by omega))]
        exact a5 y (fun i hi => hy i (by omega)) h0y
      · rw [a6, List.map_append]; rfl
      · rcases List.mem_append.1 hy with hy | hy
        · exact a7 y hy
        · have : y = ix (ordS s) k := by simpa using hy
          subst this; exact ix_mem hkl
    · have hci := (hcl i hi).1 b3
      have hv : ix pl (ix (classesR s) (ix (ordS s) k).toNat).toNat = ix (classesR (tS s)) k + 1 := by rw [← hci, a4 i hi, b3]
      have hk0 := hcn k
      unfold lstep
      rw [if_neg (by rw [hv]; omega), if_neg (by rw [hml]; omega)]
      dsimp only
      refine ⟨by rw [a1, b2], a2, ?_, fun j hj => ?_, fun y hy h0y => a5 y (fun i hi => hy i (by omega)) h0y, a6, a7⟩
      · rw [hv, a3, show ix (classesR (tS s)) k + 1 - 1 = ix (classesR (tS s)) k by omega]
      · by_cases e : j = k
        · subst e; exact hv
        · exact a4 j (by omega)
theorem merged_eq {s : SSpec} (hs : okSpec s) : merged s = leastR s := by
  unfold merged leastR
  by_cases h : ix (hollow s) 0 = true
  · rw [if_pos h, if_pos h]
  · rw [if_neg h, if_neg h]
    have h0 : ix (hollow s) 0 = false := by simpa using h
    obtain ⟨a1, a2, a3, a4, a5, a6, a7⟩ := fold_same hs h0 (ordS s).length (Nat.le_refl _)
    rw [List.take_length] at a1 a2 a3 a4 a5 a6 a7
    dsimp only
    rw [a6, ← a3]
    congr 2
    refine List.map_congr_left (fun y hy => ?_)
    have hyo := a7 y hy
    obtain ⟨i, hi, rfl⟩ := mem_ix hyo
    have hb := ord_bd hs hi
    have hx : (ix (ordS s) i).toNat < s.states.length := by omega
    have hl := (hs.st _ hx).len
    unfold mst outState
    rw [solid_at hx]
    congr 1
    show (tnext s _).map (mapK _) = (cut _ _).map (mapK _)
    unfold tnext cut
    rw [List.map_map, List.map_map, hl]
    refine List.map_congr_left (fun a ha => ?_)
    have ha := List.mem_range.1 ha
    show mapK _ (if _ then _ else _) = mapK _ (if _ then _ else _)
    by_cases hh : has (orAll (keep s (ix (ordS s) i).toNat)) (a : Int) = true
    · rw [if_pos hh, if_pos hh]
      have hg := can_go hs hx hh
      obtain ⟨p1, p2⟩ := posN_at (ord_closed hs hi hh)
      have p0 := (posN_bd (ordS s) (ix (ix s.states (ix (ordS s) i).toNat).next a)).1
      unfold mapK
      rw [if_pos p0, if_pos hg.2.1]
      have := mat_out (cl := classesR (tS s)) (n := s.states.length) (order_nodup (solid s)) (fun i hi => ord_bd hs hi) (ordS s).length (Nat.le_refl _) (posN (ordS s) (ix (ix s.states (ix (ordS s) i).toNat).next a)).toNat (by omega)
      have hp2 : ix (order (solid s)) (posN (ordS s) (ix (ix s.states (ix (ordS s) i).toNat).next a)).toNat = ix (ix s.states (ix (ordS s) i).toNat).next a := p2
      rw [hp2] at this
      rw [a3]
      exact this.symm
    · rw [if_neg hh, if_neg hh]; rfl
theorem mout_len (cl : List Int) (ts : List SState) : ∀ k, (mout cl ts k).length ≤ k
  | 0 => Nat.le_refl _
  | k + 1 => by
    have ih := mout_len cl ts k
    show (if _ then _ else _ : List SState).length ≤ _
    split
    · rw [List.length_append]; simp; omega
    · omega
theorem merged_not {s : SSpec} (h : ix (hollow s) 0 = false) : merged s = (⟨s.actions, mout (classesR (tS s)) (tS s).states (ordS s).length⟩, mat (classesR (tS s)) (ordS s) s.states.length (ordS s).length) := by
  unfold merged; rw [if_neg (by simp [h])]
theorem merged_hol {s : SSpec} (h : ix (hollow s) 0 = true) : merged s = (nothing s.actions, List.replicate s.states.length (-1)) := by
  unfold merged; rw [if_pos h]
theorem drop_ix {l : List Int} {k : Nat} (h : k < l.length) : l.drop k = ix l k :: l.drop (k + 1) := by
  rw [ix_get h]; exact List.drop_eq_getElem_cons h
theorem mapdrop_len {f : Int → Int} {l : List Int} {k : Nat} (h : k < l.length) : ((l.take k).map f).length = k := by simp; omega
theorem mapdrop_ix {f : Int → Int} {l : List Int} {k : Nat} (h : k < l.length) : ix ((l.take k).map f ++ l.drop k) k = ix l k := by
  have hl := mapdrop_len (f := f) h
  rw [drop_ix h]
  unfold ix
  rw [List.getD_eq_getElem?_getD, List.getElem?_append_right (by omega), hl, Nat.sub_self]; rfl
theorem mapdrop_set {f : Int → Int} {l : List Int} {k : Nat} (h : k < l.length) : ((l.take k).map f ++ l.drop k).set k (f (ix l k)) = (l.take (k + 1)).map f ++ l.drop (k + 1) := by
  have hl := mapdrop_len (f := f) h
  rw [drop_ix h, List.set_append_right _ _ (by omega), hl, Nat.sub_self, List.set_cons_zero, take_s h, List.map_append]
  simp only [List.map_cons, List.map_nil, List.append_assoc, List.cons_append, List.nil_append]
theorem mapdrop_keep {f : Int → Int} {l : List Int} {k : Nat} (h : k < l.length) (hf : f (ix l k) = ix l k) : (l.take k).map f ++ l.drop k = (l.take (k + 1)).map f ++ l.drop (k + 1) := by
  rw [drop_ix h, take_s h, List.map_append]
  simp only [List.map_cons, List.map_nil, List.append_assoc, List.cons_append, List.nil_append, hf]
end MergeM
end Go.Proofs.YtolpjmllmlahfaaDoor



namespace Go.Proofs.YtolpjmllmlahfaaDoor
open AL Go
set_option maxRecDepth 100000
set_option linter.all false

open ref01 ref03 ref04 ref06 prog prog2 prog3 prog4 prog5 prog6 prog7 prog8 prog9 prog10 prog11 Part Rungs LeftM TrimM Itoa Keys RoundM MergeM

namespace prog12
namespace T
theorem map164 : MapT Tryd.prog 164 9 3 smE smD := mapT_str (by kernel_rfl) (by kernel_rfl)
theorem zv3 : ∀ w F, ∃ u, (zeroValue 3).run Tryd.prog w = .ok u w ∧ (int 0).p w F u := zeroV_of (v := .int .i64 0) (by kernel_rfl) _ (fun _ _ => eqv_rfl)
theorem ent119 : Ent Tryd.prog 119 := ent_of (by kernel_rfl)
theorem ent92 : Ent Tryd.prog 92 := ent_of (by kernel_rfl)
theorem ent94 : Ent Tryd.prog 94 := ent_of (by kernel_rfl)
theorem sl28 : IsSlice Tryd.prog 28 3 1 := isSlice_of (by kernel_rfl)
theorem mk28 : MakeT Tryd.prog 28 3 1 8 [.int .i64 0] := makeT_of (by kernel_rfl) (by kernel_rfl)
theorem z25 : ZeroIs Tryd.prog 25 [.slice none 0 0, .slice none 0 0] := zeroIs_of (by kernel_rfl)
theorem fld25_1 : FieldAt Tryd.prog 25 1 1 := fieldAt_of (by kernel_rfl)
theorem one23 : IsOne Tryd.prog 23 := isOne_of (by kernel_rfl)
theorem sl23 : IsSlice Tryd.prog 23 69 2 := isSlice_of (by kernel_rfl)
theorem ent63 : Ent Tryd.prog 63 := ent_of (by kernel_rfl)
theorem agg25 : IsAgg Tryd.prog 25 2 := isAgg_of (by kernel_rfl)
theorem ent64 : Ent Tryd.prog 64 := ent_of (by kernel_rfl)
theorem ent40 : Ent Tryd.prog 40 := ent_of (by kernel_rfl)
theorem fld25_0 : FieldAt Tryd.prog 25 0 0 := fieldAt_of (by kernel_rfl)
theorem one22 : IsOne Tryd.prog 22 := isOne_of (by kernel_rfl)
theorem st25 : StructT Tryd.prog 25 [(0, 1), (1, 1)] [.slice none 0 0, .slice none 0 0] := structT_of (by kernel_rfl) (by kernel_rfl)
theorem agg69 : IsAgg Tryd.prog 69 2 := isAgg_of (by kernel_rfl)
theorem z69 : ZeroIs Tryd.prog 69 [.slice none 0 0, .slice none 0 0] := zeroIs_of (by kernel_rfl)
theorem mixed : Tryd.prog.follows .mixedOrders = true := by kernel_rfl
theorem one3 : IsOne Tryd.prog 3 := isOne_of (by kernel_rfl)
theorem fld69_0 : FieldAt Tryd.prog 69 0 0 := fieldAt_of (by kernel_rfl)
theorem one28 : IsOne Tryd.prog 28 := isOne_of (by kernel_rfl)
theorem ent65 : Ent Tryd.prog 65 := ent_of (by kernel_rfl)
theorem fld69_1 : FieldAt Tryd.prog 69 1 1 := fieldAt_of (by kernel_rfl)
theorem st69 : StructT Tryd.prog 69 [(0, 1), (1, 1)] [.slice none 0 0, .slice none 0 0] := structT_of (by kernel_rfl) (by kernel_rfl)
theorem mk23 : MakeT Tryd.prog 23 69 2 48 [.slice none 0 0, .slice none 0 0] := makeT_of (by kernel_rfl) (by kernel_rfl)
end T

theorem CloneO_ok (l : List Int) (hl : l.length ≤ 1000000) :
    AL.Fn Tryd.prog 65 [ints l] [] (fun _ v => osl 5 v) (fun v => [(5, own v 3 1 intE l)]) := by
  refine fnI Tryd.func65 rfl rfl (fun w0 F0 => ?_)
  refine fcC (slenI 0 rfl) (fun hm0 => ?_)
  refine sq (rg (ag (nl (th (sq (sq (rg (mv (nilF rfl T.sl28.und fun nb4 hnb4 => (nl (th ?_)))))))))))
  refine cd rfl (fun hc0 => ?_) (fun hc0 => ?_)
  · try simp at hc0
    refine sq (rg (ag (nl (th (rt (rt_ ?_))))))
    refine nwA 5 3 1 intE ?_
    refine knA 2 (osl 5 (.slice none 0 0)) rfl eq_osl ?_
    have hl0 : l = [] := hnb4 hc0
    subst hl0
    exact rE (.slice none 0 0) [.tmp 2] rfl [osl 5 (.slice none 0 0)] ⟨.tmp rfl, trivial⟩ rfl ⟨⟨rfl, id⟩, trivial⟩ (.inr rfl)
  · try simp at hc0
    refine sk (th (sq (rg (bs0 5 intE T.mk28 fun v5 => (mv (ap (key := 5) (zs := l) osl_eq rfl rfl rfl T.mk28 (by unfold maxL at *; simp; omega) (by unfold maxL at *; simp; omega) fun v7 => (ag (nl (th (rt ?_))))))))))
    exact rE v7 [.tmp 2] rfl [osl 5 v7] ⟨.tmp rfl, trivial⟩ (rfl) ⟨⟨rfl, id⟩, trivial⟩ (by first | exact .inr rfl | exact .inl rfl)

theorem Merged_ok (s : SSpec) (hs : okSpec s) :
    AL.Fn Tryd.prog 41 [tabbed (spec s)] [] (ι := Unit) (fun N _ => tup [nspec N (leastR s).1, fre N (ints (leastR s).2)]) (fun _ => []) := by
  refine fnI Tryd.func41 rfl rfl (fun w0 F0 => ?_)
  have hf0 := hs.few0; have hf1 := hs.few1; have hn8 := hs.n8; have hop := ordS_pos s; have hol := ord_le hs
  refine tbI 0 9999 rfl ?_
  refine fcC (inhS 0 rfl) (fun hS0 => ?_)
  obtain ⟨hsa0, hss0, hse0⟩ := spec_lens hS0
  refine sq (rg (bx (key := 1) (cs := [sl 1 strE s.actions, sl 2 stateE s.states]) rfl fun b1 => (al (key := 2) T.z25 (ex_cons (ex_cons (ex_nil))) fun b2 => (ag (nl (th (sq (rg (bsE (enc := intE) (xs := [(-1)]) (css := [[int (-1)]]) T.mk28 ⟨rfl, rfl, p1 (φ := int (-1)) rfl, trivial⟩ rfl rfl rfl rfl (fP rfl T.fld25_1 (lP rfl rfl rfl T.one23 (fc (slenI 18 rfl) fun hm18 => (lnF rfl T.sl23 (cl (prog8.Repeat_ok s.states.length (by omega)) T.ent63 trivial fun N20 v20 => (ag (nl (th (sq (rg (lPA rfl rfl T.agg25 rfl (calW (φs := [agg [sl 1 strE s.actions, sl 2 stateE s.states]]) (φ := tup [agg [fre w0.heap.size (sl 1 strE ((trimS s).1.actions)), frb (ix (hollow s) 0) w0.heap.size (sl 2 stateE ((trimS s).1.states))], sl 1 intE ((trimS s).2)]) ⟨rfl, trivial⟩ (prog9.Trimmed_ok s (by assumption)) T.ent64 (fun N hN => fun h => tup_le (cs := [agg [fre N (sl 1 strE ((trimS s).1.actions)), frb (ix (hollow s) 0) N (sl 2 stateE ((trimS s).1.states))], sl 1 intE ((trimS s).2)]) (ds := [agg [fre w0.heap.size (sl 1 strE ((trimS s).1.actions)), frb (ix (hollow s) 0) w0.heap.size (sl 2 stateE ((trimS s).1.states))], sl 1 intE ((trimS s).2)]) ⟨fun h => agg_le (cs := [fre N (sl 1 strE ((trimS s).1.actions)), frb (ix (hollow s) 0) N (sl 2 stateE ((trimS s).1.states))]) (ds := [fre w0.heap.size (sl 1 strE ((trimS s).1.actions)), frb (ix (hollow s) 0) w0.heap.size (sl 2 stateE ((trimS s).1.states))]) ⟨fun h => nw_mono (hN) h, fun h => frb_mono (hN) h, trivial⟩ h, fun h => h, trivial⟩ h) (mv (xt rfl rfl (xt rfl rfl (al (key := 5) T.z25 (ex_cons (ex_cons (ex_nil))) fun b5 => (sPA (cs' := [fre w0.heap.size (sl 1 strE ((trimS s).1.actions)), frb (ix (hollow s) 0) w0.heap.size (sl 2 stateE ((trimS s).1.states))]) rfl rfl rfl T.agg25 rfl rfl (ag (nl (th (sq (sq (rg (mv (fc (slenI 26 rfl) fun hm26 => (lnF rfl T.sl28 (bi rfl rfl b_eql (nl (th ?_))))))))))))))))))))))))))))))))))))))
  refine cd rfl (fun hc0 => ?_) (fun hc0 => ?_)
  · try simp at hc0
    have hh0 : ix (hollow s) 0 = true := by
      cases h : ix (hollow s) 0 with
      | true => rfl
      | false =>
        exfalso
        rw [trimmed_not h] at hc0
        have h3 := hop
        rw [show ordS s = [] from hc0] at h3
        simp at h3
    refine sq (rg (knc 5 1 (fre w0.heap.size (sl 2 stateE (trimS s).1.states)) rfl rfl (fun h => frb_new hh0 h) (lPA rfl rfl T.agg25 rfl (mv (sPA (cs' := [fre w0.heap.size (sl 1 strE ((trimS s).1.actions)), fre w0.heap.size (sl 2 stateE ((trimS s).1.states))]) rfl rfl rfl T.agg25 rfl rfl (ag (nl (th (rt (rt_ ?_))))))))))
    refine fzNA intE 30 3 noM flat rfl rfl ?_
    have hr0 : ((trimS s).1.actions) = (((leastR s).1).actions) := by
      rw [← merged_eq hs, merged_hol hh0, trimmed_hol hh0]
    have hr1 : ((trimS s).1.states) = (((leastR s).1).states) := by
      rw [← merged_eq hs, merged_hol hh0, trimmed_hol hh0]
    have hr2 : (List.replicate s.states.length (-1)) = ((leastR s).2) := by
      rw [← merged_eq hs, merged_hol hh0]
    have hall : ∀ x0 x1 x2, ((trimS s).1.actions) = x0 → ((trimS s).1.states) = x1 → (List.replicate s.states.length (-1)) = x2 → resAV [agg [fre w0.heap.size (sl 1 strE ((trimS s).1.actions)), fre w0.heap.size (sl 2 stateE ((trimS s).1.states))], fre w0.heap.size (sl 1 intE (List.replicate s.states.length (-1)))] = resAV [agg [fre w0.heap.size (sl 1 strE x0), fre w0.heap.size (sl 2 stateE x1)], fre w0.heap.size (sl 1 intE x2)] := by rintro _ _ _ rfl rfl rfl; rfl
    exact rE () [.cell 2 25, .tmp 3] rfl [agg [fre w0.heap.size (sl 1 strE ((trimS s).1.actions)), fre w0.heap.size (sl 2 stateE ((trimS s).1.states))], fre w0.heap.size (sl 1 intE (List.replicate s.states.length (-1)))] ⟨.agg rfl rfl T.agg25 rfl rfl, .tmp rfl, trivial⟩ (hall _ _ _ hr0 hr1 hr2) trivial (by first | exact .inr rfl | exact .inl rfl)
  · try simp at hc0
    have h00 : ix (hollow s) 0 = false := by
      cases h : ix (hollow s) 0 with
      | false => rfl
      | true => exact absurd (by rw [trimmed_hol h]) hc0
    have hts : (trimS s).1 = tS s := by rw [trimmed_not h00]
    have htf : (trimS s).2 = ordS s := by rw [trimmed_not h00]
    have hto : okSpec (trimS s).1 := by rw [hts]; exact tS_ok hs
    have hN : (trimS s).1.states.length = (ordS s).length := by rw [hts]; exact tS_len s
    have hNf : (trimS s).2.length = (ordS s).length := by rw [htf]
    have hcll := classes_len (trimS s).1
    refine sk (th (sq (rg (knc 5 1 (sl 2 stateE (trimS s).1.states) rfl rfl (fun h => frb_le h) (lPA rfl rfl T.agg25 rfl (kn 31 (agg [sl 1 strE ((trimS s).1.actions), sl 2 stateE ((trimS s).1.states)]) rfl (fun h => agg_le (cs := [fre w0.heap.size (sl 1 strE ((trimS s).1.actions)), sl 2 stateE ((trimS s).1.states)]) (ds := [sl 1 strE ((trimS s).1.actions), sl 2 stateE ((trimS s).1.states)]) ⟨fun h => nw_le h, fun h => h, trivial⟩ h) (tbU (ψ := tab) 31 9999 rfl rfl (calW (φs := [both (agg [sl 1 strE ((trimS s).1.actions), sl 2 stateE ((trimS s).1.states)]) tab]) (φ := sl 1 intE (classesR ((trimS s).1))) ⟨rfl, trivial⟩ (prog11.Of_ok (trimS s).1 (by assumption)) T.ent40 (fun N hN => fun h => nw_le h) (ag (nl (th (sq (rg (fP rfl T.fld25_0 (lP rfl rfl rfl T.one22 (bd (css := [(0, _)]) T.st25 (ex_cons (ex_cons (ex_nil))) ⟨rfl, rfl, p1 (φ := fre w0.heap.size (sl 1 strE ((trimS s).1.actions))) rfl, trivial⟩ (al (key := 8) T.z25 (ex_cons (ex_cons (ex_nil))) fun b8 => (sPA (cs' := [fre w0.heap.size (sl 1 strE ((trimS s).1.actions)), eqv (.slice none 0 0)]) rfl rfl rfl T.agg25 rfl rfl (nl (th (sq (sq (rg (nw 80 69 2 (stateN w0.heap.size) (knc 8 1 (osl 80 (.slice none 0 0)) rfl rfl eq_osl (fP rfl T.fld25_1 (lP rfl rfl rfl T.one23 (fc (slenI 37 rfl) fun hm37 => (lnF rfl T.sl23 (mv (nl (th (bk ?_)))))))))))))))))))))))))))))))))
    have hI0_0 : 0 ≤ ((trimS s).1.states).length := by
      first | omega | simp
    have hI0_1 : ([] : List SState) = mout (classesR (trimS s).1) (trimS s).1.states 0 := by
      rfl
    refine lp (κ := Nat × Value × (List SState)) (fun p => [(2, ptr 2 b2 0), (3, eqv (.slice none 0 0)), (4, osl 30 v20), (6, sl 1 intE ((trimS s).2)), (7, sl 1 intE (classesR ((trimS s).1))), (8, ptr 8 b8 0), (37, sl 2 stateE ((trimS s).1.states)), (38, int (((trimS s).1.states).length : Int)), (39, int (p.1 : Int)), (9999, tab)]) (fun p => [(1, cell b1 [sl 1 strE s.actions, sl 2 stateE s.states]), (2, cell b2 [eqv (.slice none 0 0), eqv (.slice none 0 0)]), (5, cell b5 [fre w0.heap.size (sl 1 strE ((trimS s).1.actions)), sl 2 stateE ((trimS s).1.states)]), (8, cell b8 [fre w0.heap.size (sl 1 strE ((trimS s).1.actions)), osl 80 p.2.1]), (30, own v20 3 1 intE (List.replicate s.states.length (-1))), (80, own p.2.1 69 2 (stateN w0.heap.size) p.2.2)]) (fun p => (p.1 ≤ ((trimS s).1.states).length) ∧ (p.2.2 = mout (classesR (trimS s).1) (trimS s).1.states p.1)) (fun p => ((trimS s).1.states).length - p.1) ⟨0, (.slice none 0 0), ([] : List SState)⟩ ⟨hI0_0, hI0_1⟩ ⟨id, id, id, id, id, id, id, id, id, id, trivial⟩ ⟨⟨rfl, id⟩, ⟨rfl, id⟩, ⟨rfl, id⟩, ⟨rfl, id⟩, ⟨rfl, id⟩, ⟨rfl, id⟩, trivial⟩ ?_
    intro ⟨k, u8, acc⟩ hG0
    obtain ⟨hk0, hI0⟩ : (k ≤ ((trimS s).1.states).length) ∧ (acc = mout (classesR (trimS s).1) (trimS s).1.states k) := hG0
    show Ct _ _ _ _ [(2, ptr 2 b2 0), (3, eqv (.slice none 0 0)), (4, osl 30 v20), (6, sl 1 intE ((trimS s).2)), (7, sl 1 intE (classesR ((trimS s).1))), (8, ptr 8 b8 0), (37, sl 2 stateE ((trimS s).1.states)), (38, int (((trimS s).1.states).length : Int)), (39, int (k : Int)), (9999, tab)] [(1, cell b1 [sl 1 strE s.actions, sl 2 stateE s.states]), (2, cell b2 [eqv (.slice none 0 0), eqv (.slice none 0 0)]), (5, cell b5 [fre w0.heap.size (sl 1 strE ((trimS s).1.actions)), sl 2 stateE ((trimS s).1.states)]), (8, cell b8 [fre w0.heap.size (sl 1 strE ((trimS s).1.actions)), osl 80 u8]), (30, own v20 3 1 intE (List.replicate s.states.length (-1))), (80, own u8 69 2 (stateN w0.heap.size) acc)] _
    have hacl : acc.length ≤ k := by rw [hI0]; exact mout_len _ _ _
    refine sq (rg (bi rfl rfl b_lss (nl (th (sq ?_)))))
    refine cd rfl (fun hc1 => ?_) (fun hc1 => ?_)
    · try simp at hc1
      have hkN : k < (trimS s).1.states.length := by omega
      have hst := hto.st k hkN
      have hstl := hst.len
      have hsta := hst.acl
      have ht8 := hto.n8
      refine sk (th (sq (bk (sq (rg (mv (iF rfl rfl T.sl23 (by omega) (by first | exact gN (by omega) | exact gI (by omega) (by omega)) (lFA rfl T.agg69 (Nat.le_of_ble_eq_true rfl) (al (key := 10) T.z69 (ex_cons (ex_cons (ex_nil))) fun b10 => (ag (sPA (cs' := [sl 1 intE ((ix ((trimS s).1.states) k).accept), sl 1 intE ((ix ((trimS s).1.states) k).next)]) rfl rfl rfl T.agg69 rfl rfl (nl (th (sq (dr (nh := 8) [0, 0, 3, 7, 0, 16, 48, 127] T.mixed (by kernel_rfl) ?_)))))))))))))))
      refine st_ rfl (fun _ _ _ gq kq => mv' (gq.1.trans rfl) kq) ?_
      refine st_ rfl (fun _ _ _ gq kq => mv' (gq.1.trans rfl) kq) ?_
      refine st_ rfl (fun _ _ _ gq kq => iF (gq.1.trans rfl) (gq.2.1.trans rfl) T.sl28 (by omega) (gN (by omega)) kq) ?_
      refine st_ rfl (fun _ _ _ gq kq => lF (gq.1.trans rfl) rfl T.one3 kq) ?_
      refine st_ rfl (fun _ _ _ gq kq => fP (gq.1.trans rfl) T.fld25_1 kq) ?_
      refine st_ rfl (fun _ _ _ gq kq => lP (gq.1.trans rfl) rfl rfl T.one23 kq) ?_
      refine st_ rfl (fun _ _ _ gq kq => lnO (gq.1.trans rfl) rfl T.sl23 kq) ?_
      refine st_ rfl (fun _ _ _ gq kq => bi (gq.1.trans rfl) (gq.2.1.trans rfl) b_eql kq) ?_
      refine pn (nl (th ?_))
      refine cd rfl (fun hc2 => ?_) (fun hc2 => ?_)
      · try simp at hc2
        refine sq ?_
        refine drH (nh := 9) [0, 1, 3, 0, 8, 31, 63, 0, 255] [(none, []), (none, [10]), (none, []), (none, []), (none, [10]), (some 57, []), (none, []), (some 11, []), (some 11, [11])] T.mixed (by kernel_rfl) (by kernel_rfl) ?_
        refine stv (d := 52) (fun β0 => ptr 10 b10 0) [] rfl (fun β β' hb => rfl) (fun β0 _ _ _ _ gq gh kq => fP (gq.1.trans rfl) T.fld69_0 kq) ?_
        refine stv (d := 53) (fun β0 => sl 1 intE ((ix ((trimS s).1.states) k).accept)) [10] rfl (fun β β' hb => rfl) (fun β0 _ _ _ _ gq gh kq => lP (gq.1.trans rfl) (gh.1.trans rfl) rfl T.one28 kq) ?_
        refine stv (d := 54) (fun β0 => fre w0.heap.size (sl 1 intE ((ix ((trimS s).1.states) k).accept))) [] rfl (fun β β' hb => rfl) (fun β0 _ _ _ _ gq gh kq => calW (φs := [sl 1 intE ((ix ((trimS s).1.states) k).accept)]) (φ := fre w0.heap.size (sl 1 intE ((ix ((trimS s).1.states) k).accept))) ⟨(gq.1.trans rfl), trivial⟩ (prog.sCloneintE_ok _ (by omega)) T.ent65 (fun N hN => fun h => nw_mono (hN) h) kq) ?_
        refine stv (d := 55) (fun β0 => ptr 10 b10 1) [] rfl (fun β β' hb => rfl) (fun β0 _ _ _ _ gq gh kq => fP (gq.1.trans rfl) T.fld69_1 kq) ?_
        refine stv (d := 56) (fun β0 => sl 1 intE ((ix ((trimS s).1.states) k).next)) [10] rfl (fun β β' hb => rfl) (fun β0 _ _ _ _ gq gh kq => lP (gq.1.trans rfl) (gh.1.trans rfl) rfl T.one28 kq) ?_
        refine stc (d := 57) (e := 3) (n := 1) (enc := intE) (xs := (ix (trimS s).1.states k).next) 57 [] rfl (fun β0 _ _ _ _ gq gh kq => cal (φs := [sl 1 intE ((ix ((trimS s).1.states) k).next)]) (Hi := []) ⟨(gq.1.trans rfl), trivial⟩ (rekey 57 (CloneO_ok (ix (trimS s).1.states k).next (by omega))) T.ent65 trivial fun N v => kq v) ?_
        refine stv (d := 58) (fun β0 => agg [fre w0.heap.size (sl 1 intE ((ix ((trimS s).1.states) k).accept)), osl 57 (sv (β0 5))]) [] rfl (fun β β' hb => by first | rw [hb 5 rfl] | (dsimp only; rw [hb 5 rfl])) (fun β0 _ _ _ _ gq gh kq => bd (css := [(0, _), (1, _)]) T.st69 (ex_cons (ex_cons (ex_nil))) ⟨rfl, rfl, p1 (φ := fre w0.heap.size (sl 1 intE ((ix ((trimS s).1.states) k).accept))) (by exact (gq.1.trans rfl)), ⟨rfl, rfl, p1 (φ := osl 57 (sv (β0 5))) (by exact (gq.2.1.trans rfl)), trivial⟩⟩ kq) ?_
        refine sta 11 T.z69 (ex_cons (ex_cons (ex_nil))) ?_
        refine stw 11 (fun β0 => cell (gbk (β0 7)) [fre w0.heap.size (sl 1 intE ((ix ((trimS s).1.states) k).accept)), osl 57 (sv (β0 5))]) [11] rfl (fun β β' hb => by first | rw [hb 5 rfl, hb 7 rfl] | (dsimp only; rw [hb 5 rfl, hb 7 rfl])) (fun β0 _ _ _ _ gq gh kq => sPA (cs' := [fre w0.heap.size (sl 1 intE ((ix ((trimS s).1.states) k).accept)), osl 57 (sv (β0 5))]) (gq.1.trans rfl) (gh.1.trans rfl) (gq.2.1.trans rfl) T.agg69 rfl rfl kq) ?_
        refine pnH fun β0 => (nl (th (sq (sq (rg (fP rfl T.fld69_1 (lP rfl rfl rfl T.one28 (lnO rfl rfl T.sl28 (mv (nl (th (bk ?_))))))))))))
        have hI1_0 : 0 ≤ (ix (trimS s).1.states k).next.length := by
          first | omega | simp
        have hI1_1 : ((ix (trimS s).1.states k).next) = ((ix (trimS s).1.states k).next.take 0).map (mapK (classesR (trimS s).1)) ++ (ix (trimS s).1.states k).next.drop 0 := by
          simp
        refine lp (κ := Nat × (List Int)) (fun p => [(2, ptr 2 b2 0), (3, eqv (.slice none 0 0)), (4, osl 30 v20), (6, sl 1 intE ((trimS s).2)), (7, sl 1 intE (classesR ((trimS s).1))), (8, ptr 8 b8 0), (11, ptr 11 (gbk (β0 7)) 0), (37, sl 2 stateE ((trimS s).1.states)), (38, int (((trimS s).1.states).length : Int)), (39, int (k : Int)), (60, osl 57 (sv (β0 5))), (61, int (((ix (trimS s).1.states k).next).length : Int)), (62, int (p.1 : Int)), (9999, tab)]) (fun p => [(1, cell b1 [sl 1 strE s.actions, sl 2 stateE s.states]), (2, cell b2 [eqv (.slice none 0 0), eqv (.slice none 0 0)]), (5, cell b5 [fre w0.heap.size (sl 1 strE ((trimS s).1.actions)), sl 2 stateE ((trimS s).1.states)]), (8, cell b8 [fre w0.heap.size (sl 1 strE ((trimS s).1.actions)), osl 80 u8]), (10, cell b10 [sl 1 intE ((ix ((trimS s).1.states) k).accept), sl 1 intE ((ix ((trimS s).1.states) k).next)]), (11, cell (gbk (β0 7)) [fre w0.heap.size (sl 1 intE ((ix ((trimS s).1.states) k).accept)), osl 57 (sv (β0 5))]), (30, own v20 3 1 intE (List.replicate s.states.length (-1))), (57, own (sv (β0 5)) 3 1 intE p.2), (80, own u8 69 2 (stateN w0.heap.size) acc)]) (fun p => (p.1 ≤ (ix (trimS s).1.states k).next.length) ∧ (p.2 = ((ix (trimS s).1.states k).next.take p.1).map (mapK (classesR (trimS s).1)) ++ (ix (trimS s).1.states k).next.drop p.1)) (fun p => (ix (trimS s).1.states k).next.length - p.1) ⟨0, (ix (trimS s).1.states k).next⟩ ⟨hI1_0, hI1_1⟩ ⟨id, id, id, id, id, id, id, id, id, id, id, id, id, id, trivial⟩ ⟨⟨rfl, id⟩, ⟨rfl, id⟩, ⟨rfl, id⟩, ⟨rfl, id⟩, ⟨rfl, id⟩, ⟨rfl, id⟩, ⟨rfl, id⟩, ⟨rfl, id⟩, ⟨rfl, id⟩, trivial⟩ ?_
        intro ⟨k1, nx⟩ hG1
        obtain ⟨hk1, hI1⟩ : (k1 ≤ (ix (trimS s).1.states k).next.length) ∧ (nx = ((ix (trimS s).1.states k).next.take k1).map (mapK (classesR (trimS s).1)) ++ (ix (trimS s).1.states k).next.drop k1) := hG1
        show Ct _ _ _ _ [(2, ptr 2 b2 0), (3, eqv (.slice none 0 0)), (4, osl 30 v20), (6, sl 1 intE ((trimS s).2)), (7, sl 1 intE (classesR ((trimS s).1))), (8, ptr 8 b8 0), (11, ptr 11 (gbk (β0 7)) 0), (37, sl 2 stateE ((trimS s).1.states)), (38, int (((trimS s).1.states).length : Int)), (39, int (k : Int)), (60, osl 57 (sv (β0 5))), (61, int (((ix (trimS s).1.states k).next).length : Int)), (62, int (k1 : Int)), (9999, tab)] [(1, cell b1 [sl 1 strE s.actions, sl 2 stateE s.states]), (2, cell b2 [eqv (.slice none 0 0), eqv (.slice none 0 0)]), (5, cell b5 [fre w0.heap.size (sl 1 strE ((trimS s).1.actions)), sl 2 stateE ((trimS s).1.states)]), (8, cell b8 [fre w0.heap.size (sl 1 strE ((trimS s).1.actions)), osl 80 u8]), (10, cell b10 [sl 1 intE ((ix ((trimS s).1.states) k).accept), sl 1 intE ((ix ((trimS s).1.states) k).next)]), (11, cell (gbk (β0 7)) [fre w0.heap.size (sl 1 intE ((ix ((trimS s).1.states) k).accept)), osl 57 (sv (β0 5))]), (30, own v20 3 1 intE (List.replicate s.states.length (-1))), (57, own (sv (β0 5)) 3 1 intE nx), (80, own u8 69 2 (stateN w0.heap.size) acc)] _
        have hnl : nx.length = (ix (trimS s).1.states k).next.length := by rw [hI1]; simp; omega
        refine sq (rg (bi rfl rfl b_lss (nl (th (sq ?_)))))
        refine cd rfl (fun hc3 => ?_) (fun hc3 => ?_)
        · try simp at hc3
          have hv : ix nx k1 = ix (ix (trimS s).1.states k).next k1 := by rw [hI1]; exact mapdrop_ix (by omega)
          have hnb := hst.nx k1 (by omega)
          refine sk (th (sq (bk (sq (rg (mv (iO rfl rfl rfl T.sl28 (by omega) (by omega) (lO rfl rfl (by first | exact gN (by omega) | exact gI (by omega) (by omega)) rfl T.one3 (ag (ag (nl (th (sq (rg (mv (bi rfl rfl b_geq (nl (th ?_))))))))))))))))))
          refine cd rfl (fun hc4 => ?_) (fun hc4 => ?_)
          · try simp at hc4
            refine dr (nh := 8) [0, 1, 0, 0, 0, 24, 56, 127, 255] T.mixed (by kernel_rfl) ?_
            refine st_ rfl (fun _ _ _ gq kq => fP (gq.1.trans rfl) T.fld69_1 kq) ?_
            refine st_ rfl (fun _ _ _ gq kq => lP (gq.1.trans rfl) rfl rfl T.one28 kq) ?_
            refine st_ rfl (fun _ _ _ gq kq => mv' (gq.1.trans rfl) kq) ?_
            refine st_ rfl (fun _ _ _ gq kq => mv' (gq.1.trans rfl) kq) ?_
            refine st_ rfl (fun _ _ _ gq kq => mv' (gq.1.trans rfl) kq) ?_
            refine st_ rfl (fun _ _ _ gq kq => iF (gq.1.trans rfl) (gq.2.1.trans rfl) T.sl28 (by omega) (by first | exact gN (by omega) | exact gI (by omega) (by omega)) kq) ?_
            refine st_ rfl (fun _ _ _ gq kq => lF (gq.1.trans rfl) rfl T.one3 kq) ?_
            refine st_ rfl (fun _ _ _ gq kq => iO (gq.1.trans rfl) rfl (gq.2.1.trans rfl) T.sl28 (by omega) (by omega) kq) ?_
            refine pn (sO (φ := int (ix (classesR ((trimS s).1)) ((ix nx k1).toNat))) rfl rfl rfl T.one3 (gN (by omega)) rfl (y' := (ix (classesR ((trimS s).1)) ((ix nx k1).toNat))) rfl (nl (eb (th (rg (bi rfl rfl (b_add (by unfold I64; omega)) (mv (nl ?_))))))))
            have hN0 : (k1 + 1) ≤ (ix (trimS s).1.states k).next.length := by
              first | omega | simp_all
            have hN1 : (nx.set k1 (ix (classesR ((trimS s).1)) ((ix nx k1).toNat))) = ((ix (trimS s).1.states k).next.take (k1 + 1)).map (mapK (classesR (trimS s).1)) ++ (ix (trimS s).1.states k).next.drop (k1 + 1) := by
              rw [hI1, mapdrop_ix (by omega)]
              rw [← mapdrop_set (by omega)]
              congr 1
              unfold mapK
              rw [hv] at hc4
              rw [if_pos hc4]
            exact ln (⟨k1 + 1, nx.set k1 (ix (classesR ((trimS s).1)) ((ix nx k1).toNat))⟩ : Nat × (List Int)) ⟨hN0, hN1⟩ (by first | omega | (dsimp only; omega)) ⟨id, id, id, id, id, id, id, id, id, id, id, id, id, id, trivial⟩ ⟨⟨rfl, id⟩, ⟨rfl, id⟩, ⟨rfl, id⟩, ⟨rfl, id⟩, ⟨rfl, id⟩, ⟨rfl, id⟩, ⟨rfl, id⟩, ⟨rfl, id⟩, ⟨rfl, id⟩, trivial⟩
          · try simp at hc4
            refine sk (eb (th (rg (bi rfl rfl (b_add (by unfold I64; omega)) (mv (nl ?_))))))
            have hN0 : (k1 + 1) ≤ (ix (trimS s).1.states k).next.length := by
              first | omega | simp_all
            have hN1 : nx = ((ix (trimS s).1.states k).next.take (k1 + 1)).map (mapK (classesR (trimS s).1)) ++ (ix (trimS s).1.states k).next.drop (k1 + 1) := by
              rw [hI1]
              exact mapdrop_keep (by omega) (by unfold mapK; rw [hv] at hc4; rw [if_neg (by omega)])
            exact ln (⟨k1 + 1, nx⟩ : Nat × (List Int)) ⟨hN0, hN1⟩ (by first | omega | (dsimp only; omega)) ⟨id, id, id, id, id, id, id, id, id, id, id, id, id, id, trivial⟩ ⟨⟨rfl, id⟩, ⟨rfl, id⟩, ⟨rfl, id⟩, ⟨rfl, id⟩, ⟨rfl, id⟩, ⟨rfl, id⟩, ⟨rfl, id⟩, ⟨rfl, id⟩, ⟨rfl, id⟩, trivial⟩
        · try simp at hc3
          refine ex (xt_ (xt_ (xb (th (rg (fP rfl T.fld25_1 (lP rfl rfl rfl T.one23 (fzcN intE 11 57 1 noM flat rfl rfl rfl (by decide) (lPA rfl rfl T.agg69 rfl (bsE (enc := stateN w0.heap.size) (xs := [(⟨(ix ((trimS s).1.states) k).accept, nx⟩)]) (css := [[fre w0.heap.size (sl 1 intE ((ix ((trimS s).1.states) k).accept)), fre w0.heap.size (sl 1 intE nx)]]) T.mk23 ⟨rfl, rfl, pA (cs := [fre w0.heap.size (sl 1 intE ((ix ((trimS s).1.states) k).accept)), fre w0.heap.size (sl 1 intE nx)]) rfl, trivial⟩ rfl rfl rfl rfl (ap (key := 80) (zs := [(⟨(ix ((trimS s).1.states) k).accept, nx⟩)]) osl_eq rfl rfl rfl T.mk23 (by unfold maxL at *; simp; omega) (by unfold maxL at *; simp; omega) fun v82 => (fP rfl T.fld25_1 (storePO rfl rfl rfl rfl T.one23 rfl (nl (eb (th (rg (bi rfl rfl (b_add (by unfold I64; omega)) (mv (nl ?_))))))))))))))))))))
          have hN0 : (k + 1) ≤ ((trimS s).1.states).length := by
            first | omega | simp_all
          have hN1 : (acc ++ [(⟨(ix ((trimS s).1.states) k).accept, nx⟩)]) = mout (classesR (trimS s).1) (trimS s).1.states (k + 1) := by
            have hk1 : k1 = (ix (trimS s).1.states k).next.length := by omega
            rw [hk1, List.take_length, List.drop_length, List.append_nil] at hI1
            show _ = (if _ then _ else _ : List SState)
            rw [← hI0, if_pos hc2]
            unfold mst
            rw [hI1]
          exact ln (⟨k + 1, v82, acc ++ [(⟨(ix ((trimS s).1.states) k).accept, nx⟩)]⟩ : Nat × Value × (List SState)) ⟨hN0, hN1⟩ (by first | omega | (dsimp only; omega)) ⟨id, id, id, id, id, id, id, id, id, id, trivial⟩ ⟨⟨rfl, id⟩, ⟨rfl, id⟩, ⟨rfl, id⟩, ⟨rfl, id⟩, ⟨rfl, id⟩, ⟨rfl, id⟩, trivial⟩
      · try simp at hc2
        refine sk (eb (th (rg (bi rfl rfl (b_add (by unfold I64; omega)) (mv (nl ?_))))))
        have hN0 : (k + 1) ≤ ((trimS s).1.states).length := by
          first | omega | simp_all
        have hN1 : acc = mout (classesR (trimS s).1) (trimS s).1.states (k + 1) := by
          show _ = (if _ then _ else _ : List SState)
          rw [← hI0, if_neg hc2]
        exact ln (⟨k + 1, u8, acc⟩ : Nat × Value × (List SState)) ⟨hN0, hN1⟩ (by first | omega | (dsimp only; omega)) ⟨id, id, id, id, id, id, id, id, id, id, trivial⟩ ⟨⟨rfl, id⟩, ⟨rfl, id⟩, ⟨rfl, id⟩, ⟨rfl, id⟩, ⟨rfl, id⟩, ⟨rfl, id⟩, trivial⟩
    · try simp at hc1
      refine ex (xt_ (xt_ (xb (th (sq (sq (rg (mv (lnF rfl T.sl28 (mv (nl (th (bk ?_)))))))))))))
      have hI2_0 : 0 ≤ ((trimS s).2).length := by
        first | omega | simp
      have hI2_1 : (List.replicate s.states.length (-1)) = mat (classesR (trimS s).1) (trimS s).2 s.states.length 0 := by
        rfl
      refine lp (κ := Nat × (List Int)) (fun p => [(2, ptr 2 b2 0), (3, eqv (.slice none 0 0)), (4, osl 30 v20), (7, sl 1 intE (classesR ((trimS s).1))), (8, ptr 8 b8 0), (85, sl 1 intE ((trimS s).2)), (86, int (((trimS s).2).length : Int)), (87, int (p.1 : Int)), (9999, tab)]) (fun p => [(1, cell b1 [sl 1 strE s.actions, sl 2 stateE s.states]), (2, cell b2 [eqv (.slice none 0 0), eqv (.slice none 0 0)]), (5, cell b5 [fre w0.heap.size (sl 1 strE ((trimS s).1.actions)), sl 2 stateE ((trimS s).1.states)]), (8, cell b8 [fre w0.heap.size (sl 1 strE ((trimS s).1.actions)), osl 80 u8]), (30, own v20 3 1 intE p.2), (80, own u8 69 2 (stateN w0.heap.size) acc)]) (fun p => (p.1 ≤ ((trimS s).2).length) ∧ (p.2 = mat (classesR (trimS s).1) (trimS s).2 s.states.length p.1)) (fun p => ((trimS s).2).length - p.1) ⟨0, List.replicate s.states.length (-1)⟩ ⟨hI2_0, hI2_1⟩ ⟨id, id, id, id, id, id, id, id, id, trivial⟩ ⟨⟨rfl, id⟩, ⟨rfl, id⟩, ⟨rfl, id⟩, ⟨rfl, id⟩, ⟨rfl, id⟩, ⟨rfl, id⟩, trivial⟩ ?_
      intro ⟨k2, tl⟩ hG2
      obtain ⟨hk2, hI2⟩ : (k2 ≤ ((trimS s).2).length) ∧ (tl = mat (classesR (trimS s).1) (trimS s).2 s.states.length k2) := hG2
      show Ct _ _ _ _ [(2, ptr 2 b2 0), (3, eqv (.slice none 0 0)), (4, osl 30 v20), (7, sl 1 intE (classesR ((trimS s).1))), (8, ptr 8 b8 0), (85, sl 1 intE ((trimS s).2)), (86, int (((trimS s).2).length : Int)), (87, int (k2 : Int)), (9999, tab)] [(1, cell b1 [sl 1 strE s.actions, sl 2 stateE s.states]), (2, cell b2 [eqv (.slice none 0 0), eqv (.slice none 0 0)]), (5, cell b5 [fre w0.heap.size (sl 1 strE ((trimS s).1.actions)), sl 2 stateE ((trimS s).1.states)]), (8, cell b8 [fre w0.heap.size (sl 1 strE ((trimS s).1.actions)), osl 80 u8]), (30, own v20 3 1 intE tl), (80, own u8 69 2 (stateN w0.heap.size) acc)] _
      have htl : tl.length = s.states.length := by rw [hI2]; exact mat_len _ _ _ _
      refine sq (rg (bi rfl rfl b_lss (nl (th (sq ?_)))))
      refine cd rfl (fun hc5 => ?_) (fun hc5 => ?_)
      · try simp at hc5
        have hob : 0 ≤ ix (trimS s).2 k2 ∧ ix (trimS s).2 k2 < (s.states.length : Int) := by rw [htf]; exact ord_bd hs (by omega)
        refine sk (th (sq (bk (sq (rg (mv (iF rfl rfl T.sl28 (by omega) (by first | exact gN (by omega) | exact gI (by omega) (by omega)) (lF rfl rfl T.one3 (ag (ag (nl (th (rg (mv (mv (mv (mv (iF rfl rfl T.sl28 (by omega) (gN (by omega)) (lF rfl rfl T.one3 (iO rfl rfl rfl T.sl28 (by omega) (by omega) (sO (φ := int (ix (classesR ((trimS s).1)) k2)) rfl rfl rfl T.one3 (by first | exact gN (by omega) | exact gI (by omega) (by omega)) rfl (y' := (ix (classesR ((trimS s).1)) k2)) rfl (nl (eb (th (rg (bi rfl rfl (b_add (by unfold I64; omega)) (mv (nl ?_))))))))))))))))))))))))))))
        have hN0 : (k2 + 1) ≤ ((trimS s).2).length := by
          first | omega | simp_all
        have hN1 : (tl.set ((ix ((trimS s).2) k2).toNat) (ix (classesR ((trimS s).1)) k2)) = mat (classesR (trimS s).1) (trimS s).2 s.states.length (k2 + 1) := by
          rw [hI2]; rfl
        exact ln (⟨k2 + 1, tl.set ((ix ((trimS s).2) k2).toNat) (ix (classesR ((trimS s).1)) k2)⟩ : Nat × (List Int)) ⟨hN0, hN1⟩ (by first | omega | (dsimp only; omega)) ⟨id, id, id, id, id, id, id, id, id, trivial⟩ ⟨⟨rfl, id⟩, ⟨rfl, id⟩, ⟨rfl, id⟩, ⟨rfl, id⟩, ⟨rfl, id⟩, ⟨rfl, id⟩, trivial⟩
      · try simp at hc5
        refine ex (xt_ (xt_ (xb (th (sq (rg (fzcN stateE 8 80 1 noM (fun _ => rfl) rfl rfl rfl (by decide) (lPA rfl rfl T.agg25 rfl (mv (sPA (cs' := [fre w0.heap.size (sl 1 strE ((trimS s).1.actions)), fre w0.heap.size (sl 2 stateE acc)]) rfl rfl rfl T.agg25 rfl rfl (ag (nl (th (rt ?_))))))))))))))
        refine fzNA intE 30 3 noM flat rfl rfl ?_
        have hr0 : ((trimS s).1.actions) = (((leastR s).1).actions) := by
          rw [← merged_eq hs, merged_not h00, hts]
        have hr1 : acc = (((leastR s).1).states) := by
          rw [← merged_eq hs, merged_not h00, hI0, hts, show k = (ordS s).length by omega]
        have hr2 : tl = ((leastR s).2) := by
          rw [← merged_eq hs, merged_not h00, hI2, hts, htf, show k2 = (ordS s).length by omega]
        have hall : ∀ x0 x1 x2, ((trimS s).1.actions) = x0 → acc = x1 → tl = x2 → resAV [agg [fre w0.heap.size (sl 1 strE ((trimS s).1.actions)), fre w0.heap.size (sl 2 stateE acc)], fre w0.heap.size (sl 1 intE tl)] = resAV [agg [fre w0.heap.size (sl 1 strE x0), fre w0.heap.size (sl 2 stateE x1)], fre w0.heap.size (sl 1 intE x2)] := by rintro _ _ _ rfl rfl rfl; rfl
        exact rE () [.cell 2 25, .tmp 3] rfl [agg [fre w0.heap.size (sl 1 strE ((trimS s).1.actions)), fre w0.heap.size (sl 2 stateE acc)], fre w0.heap.size (sl 1 intE tl)] ⟨.agg rfl rfl T.agg25 rfl rfl, .tmp rfl, trivial⟩ (hall _ _ _ hr0 hr1 hr2) trivial (by first | exact .inr rfl | exact .inl rfl)
end prog12
end Go.Proofs.YtolpjmllmlahfaaDoor


namespace Go.Proofs.YtolpjmllmlahfaaDoor
open AL Go
set_option maxRecDepth 100000
set_option linter.all false

open ref01 ref03 ref04 ref06 prog prog2 prog3 prog4 prog5 prog6 prog7 prog8 prog9 prog10 prog11 prog12 Part Rungs LeftM TrimM Itoa Keys RoundM MergeM
noncomputable def clsOf (s : SSpec) : List Int := if specOK s = true then classesR s else []
noncomputable def lstOf (s : SSpec) : SSpec × List Int := if specOK s = true then leastR s else (⟨[], []⟩, [])
noncomputable def isOf (s : SSpec) : Bool := specOK s && decide (s = (leastR s).1)
noncomputable def errOf (s : SSpec) : Int := if specOK s = true then 0 else 30

namespace prog13
namespace T
theorem map164 : MapT Tryd.prog 164 9 3 smE smD := mapT_str (by kernel_rfl) (by kernel_rfl)
theorem zv3 : ∀ w F, ∃ u, (zeroValue 3).run Tryd.prog w = .ok u w ∧ (int 0).p w F u := zeroV_of (v := .int .i64 0) (by kernel_rfl) _ (fun _ _ => eqv_rfl)
theorem ent119 : Ent Tryd.prog 119 := ent_of (by kernel_rfl)
theorem ent92 : Ent Tryd.prog 92 := ent_of (by kernel_rfl)
theorem ent94 : Ent Tryd.prog 94 := ent_of (by kernel_rfl)
theorem agg25 : IsAgg Tryd.prog 25 2 := isAgg_of (by kernel_rfl)
theorem ent39 : Ent Tryd.prog 39 := ent_of (by kernel_rfl)
theorem ent40 : Ent Tryd.prog 40 := ent_of (by kernel_rfl)
theorem z25 : ZeroIs Tryd.prog 25 [.slice none 0 0, .slice none 0 0] := zeroIs_of (by kernel_rfl)
theorem st25 : StructT Tryd.prog 25 [(0, 1), (1, 1)] [.slice none 0 0, .slice none 0 0] := structT_of (by kernel_rfl) (by kernel_rfl)
theorem ent41 : Ent Tryd.prog 41 := ent_of (by kernel_rfl)
theorem ent42 : Ent Tryd.prog 42 := ent_of (by kernel_rfl)
end T

theorem Classes_ok (s : SSpec) (hsm : smallSpec s) :
    AL.Fn Tryd.prog 13 [tabbed (spec s)] [] (ι := Unit) (fun N _ => tup [fre N (ints (clsOf s)), int (errOf s)]) (fun _ => []) := by
  refine fnI Tryd.func13 rfl rfl (fun w0 F0 => ?_)
  refine tbI 0 9999 rfl ?_
  refine fcC (inhS 0 rfl) (fun hS0 => ?_)
  obtain ⟨hsa0, hss0, hse0⟩ := spec_lens hS0
  refine sq (rg (bx (key := 1) (cs := [sl 1 strE s.actions, sl 2 stateE s.states]) rfl fun b1 => (ag (ag (nl (th (sq (sq (rg (lPA rfl rfl T.agg25 rfl (cal0 (φs := [agg [sl 1 strE s.actions, sl 2 stateE s.states]]) (φ := bl (specOK s)) ⟨rfl, trivial⟩ (prog2.Valid_ok s (by assumption)) T.ent39 (no rfl (nl (th ?_))))))))))))))
  refine cd rfl (fun hc0 => ?_) (fun hc0 => ?_)
  · try simp at hc0
    refine sq (rg (ag (ag (nl (th (rt (rt_ ?_)))))))
    refine knA 2 (fre w0.heap.size (sl 1 intE [])) rfl nw_nil ?_
    have hr0 : [] = (clsOf s) := by
      unfold clsOf; rw [if_neg (by simp [hc0])]
    have hr1 : (30 : Int) = (errOf s) := by
      unfold errOf; rw [if_neg (by simp [hc0])]
    have hall : ∀ x0 x1, [] = x0 → 30 = x1 → resAV [fre w0.heap.size (sl 1 intE []), int 30] = resAV [fre w0.heap.size (sl 1 intE x0), int x1] := by rintro _ _ rfl rfl; rfl
    exact rE () [.tmp 2, .tmp 3] rfl [fre w0.heap.size (sl 1 intE []), int 30] ⟨.tmp rfl, .tmp rfl, trivial⟩ (hall _ _ hr0 hr1) trivial (by first | exact .inr rfl | exact .inl rfl)
  · try simp at hc0
    have hs := okSpec_of hc0
    refine sk (th (sq (rg (lPA rfl rfl T.agg25 rfl (tbU (ψ := tab) 7 9999 rfl rfl (calW (φs := [both (agg [sl 1 strE s.actions, sl 2 stateE s.states]) tab]) (φ := fre w0.heap.size (sl 1 intE (classesR s))) ⟨rfl, trivial⟩ (prog11.Of_ok s (by assumption)) T.ent40 (fun N hN => fun h => nw_mono (hN) h) (ag (ag (nl (th (rt ?_)))))))))))
    have hr0 : (classesR s) = (clsOf s) := by
      unfold clsOf; rw [if_pos hc0]
    have hr1 : (0 : Int) = (errOf s) := by
      unfold errOf; rw [if_pos hc0]
    have hall : ∀ x0 x1, (classesR s) = x0 → 0 = x1 → resAV [fre w0.heap.size (sl 1 intE (classesR s)), int 0] = resAV [fre w0.heap.size (sl 1 intE x0), int x1] := by rintro _ _ rfl rfl; rfl
    exact rE () [.tmp 2, .tmp 3] rfl [fre w0.heap.size (sl 1 intE (classesR s)), int 0] ⟨.tmp rfl, .tmp rfl, trivial⟩ (hall _ _ hr0 hr1) trivial (by first | exact .inr rfl | exact .inl rfl)

theorem Least_ok (s : SSpec) (hsm : smallSpec s) :
    AL.Fn Tryd.prog 15 [tabbed (spec s)] [] (ι := Unit) (fun N _ => tup [nspec N (lstOf s).1, fre N (ints (lstOf s).2), int (errOf s)]) (fun _ => []) := by
  refine fnI Tryd.func15 rfl rfl (fun w0 F0 => ?_)
  refine tbI 0 9999 rfl ?_
  refine fcC (inhS 0 rfl) (fun hS0 => ?_)
  obtain ⟨hsa0, hss0, hse0⟩ := spec_lens hS0
  refine sq (rg (bx (key := 1) (cs := [sl 1 strE s.actions, sl 2 stateE s.states]) rfl fun b1 => (al (key := 2) T.z25 (ex_cons (ex_cons (ex_nil))) fun b2 => (ag (ag (nl (th (sq (sq (rg (lPA rfl rfl T.agg25 rfl (cal0 (φs := [agg [sl 1 strE s.actions, sl 2 stateE s.states]]) (φ := bl (specOK s)) ⟨rfl, trivial⟩ (prog2.Valid_ok s (by assumption)) T.ent39 (no rfl (nl (th ?_)))))))))))))))
  refine cd rfl (fun hc0 => ?_) (fun hc0 => ?_)
  · try simp at hc0
    refine sq (rg (bd (css := []) T.st25 (ex_cons (ex_cons (ex_nil))) trivial (sPA (cs' := [eqv (.slice none 0 0), eqv (.slice none 0 0)]) rfl rfl rfl T.agg25 rfl rfl (ag (ag (nl (th (rt (rt_ ?_)))))))))
    refine kncA 2 0 (fre w0.heap.size (sl 1 strE [])) rfl rfl nw_nil ?_
    refine kncA 2 1 (fre w0.heap.size (sl 2 stateE [])) rfl rfl nw_nil ?_
    refine knA 3 (fre w0.heap.size (sl 1 intE [])) rfl nw_nil ?_
    have hr0 : [] = (((lstOf s).1).actions) := by
      unfold lstOf; rw [if_neg (by simp [hc0])]
    have hr1 : [] = (((lstOf s).1).states) := by
      unfold lstOf; rw [if_neg (by simp [hc0])]
    have hr2 : [] = ((lstOf s).2) := by
      unfold lstOf; rw [if_neg (by simp [hc0])]
    have hr3 : (30 : Int) = (errOf s) := by
      unfold errOf; rw [if_neg (by simp [hc0])]
    have hall : ∀ x0 x1 x2 x3, [] = x0 → [] = x1 → [] = x2 → 30 = x3 → resAV [agg [fre w0.heap.size (sl 1 strE []), fre w0.heap.size (sl 2 stateE [])], fre w0.heap.size (sl 1 intE []), int 30] = resAV [agg [fre w0.heap.size (sl 1 strE x0), fre w0.heap.size (sl 2 stateE x1)], fre w0.heap.size (sl 1 intE x2), int x3] := by rintro _ _ _ _ rfl rfl rfl rfl; rfl
    exact rE () [.cell 2 25, .tmp 3, .tmp 4] rfl [agg [fre w0.heap.size (sl 1 strE []), fre w0.heap.size (sl 2 stateE [])], fre w0.heap.size (sl 1 intE []), int 30] ⟨.agg rfl rfl T.agg25 rfl rfl, .tmp rfl, .tmp rfl, trivial⟩ (hall _ _ _ _ hr0 hr1 hr2 hr3) trivial (by first | exact .inr rfl | exact .inl rfl)
  · try simp at hc0
    have hs := okSpec_of hc0
    refine sk (th (sq (rg (lPA rfl rfl T.agg25 rfl (tbU (ψ := tab) 12 9999 rfl rfl (calW (φs := [both (agg [sl 1 strE s.actions, sl 2 stateE s.states]) tab]) (φ := tup [agg [fre w0.heap.size (sl 1 strE (((leastR s).1).actions)), fre w0.heap.size (sl 2 stateE (((leastR s).1).states))], fre w0.heap.size (sl 1 intE ((leastR s).2))]) ⟨rfl, trivial⟩ (prog12.Merged_ok s (by assumption)) T.ent41 (fun N hN => fun h => tup_le (cs := [agg [fre N (sl 1 strE (((leastR s).1).actions)), fre N (sl 2 stateE (((leastR s).1).states))], fre N (sl 1 intE ((leastR s).2))]) (ds := [agg [fre w0.heap.size (sl 1 strE (((leastR s).1).actions)), fre w0.heap.size (sl 2 stateE (((leastR s).1).states))], fre w0.heap.size (sl 1 intE ((leastR s).2))]) ⟨fun h => agg_le (cs := [fre N (sl 1 strE (((leastR s).1).actions)), fre N (sl 2 stateE (((leastR s).1).states))]) (ds := [fre w0.heap.size (sl 1 strE (((leastR s).1).actions)), fre w0.heap.size (sl 2 stateE (((leastR s).1).states))]) ⟨fun h => nw_mono (hN) h, fun h => nw_mono (hN) h, trivial⟩ h, fun h => nw_mono (hN) h, trivial⟩ h) (mv (xt rfl rfl (xt rfl rfl (al (key := 5) T.z25 (ex_cons (ex_cons (ex_nil))) fun b5 => (sPA (cs' := [fre w0.heap.size (sl 1 strE (((leastR s).1).actions)), fre w0.heap.size (sl 2 stateE (((leastR s).1).states))]) rfl rfl rfl T.agg25 rfl rfl (ag (nl (th (sq (rg (lPA rfl rfl T.agg25 rfl (mv (sPA (cs' := [fre w0.heap.size (sl 1 strE (((leastR s).1).actions)), fre w0.heap.size (sl 2 stateE (((leastR s).1).states))]) rfl rfl rfl T.agg25 rfl rfl (ag (ag (nl (th (rt ?_))))))))))))))))))))))))
    have hr0 : (((leastR s).1).actions) = (((lstOf s).1).actions) := by
      unfold lstOf; rw [if_pos hc0]
    have hr1 : (((leastR s).1).states) = (((lstOf s).1).states) := by
      unfold lstOf; rw [if_pos hc0]
    have hr2 : ((leastR s).2) = ((lstOf s).2) := by
      unfold lstOf; rw [if_pos hc0]
    have hr3 : (0 : Int) = (errOf s) := by
      unfold errOf; rw [if_pos hc0]
    have hall : ∀ x0 x1 x2 x3, (((leastR s).1).actions) = x0 → (((leastR s).1).states) = x1 → ((leastR s).2) = x2 → 0 = x3 → resAV [agg [fre w0.heap.size (sl 1 strE (((leastR s).1).actions)), fre w0.heap.size (sl 2 stateE (((leastR s).1).states))], fre w0.heap.size (sl 1 intE ((leastR s).2)), int 0] = resAV [agg [fre w0.heap.size (sl 1 strE x0), fre w0.heap.size (sl 2 stateE x1)], fre w0.heap.size (sl 1 intE x2), int x3] := by rintro _ _ _ _ rfl rfl rfl rfl; rfl
    exact rE () [.cell 2 25, .tmp 3, .tmp 4] rfl [agg [fre w0.heap.size (sl 1 strE (((leastR s).1).actions)), fre w0.heap.size (sl 2 stateE (((leastR s).1).states))], fre w0.heap.size (sl 1 intE ((leastR s).2)), int 0] ⟨.agg rfl rfl T.agg25 rfl rfl, .tmp rfl, .tmp rfl, trivial⟩ (hall _ _ _ _ hr0 hr1 hr2 hr3) trivial (by first | exact .inr rfl | exact .inl rfl)

theorem Is_ok (s : SSpec) (hsm : smallSpec s) :
    Fn0 Tryd.prog 16 [tabbed (spec s)] (tup [bl (isOf s), int (errOf s)]) := by
  refine fnI Tryd.func16 rfl rfl (fun w0 F0 => ?_)
  refine tbI 0 9999 rfl ?_
  refine fcC (inhS 0 rfl) (fun hS0 => ?_)
  obtain ⟨hsa0, hss0, hse0⟩ := spec_lens hS0
  refine sq (rg (bx (key := 1) (cs := [sl 1 strE s.actions, sl 2 stateE s.states]) rfl fun b1 => (ag (ag (nl (th (sq (sq (rg (lPA rfl rfl T.agg25 rfl (cal0 (φs := [agg [sl 1 strE s.actions, sl 2 stateE s.states]]) (φ := bl (specOK s)) ⟨rfl, trivial⟩ (prog2.Valid_ok s (by assumption)) T.ent39 (no rfl (nl (th ?_))))))))))))))
  refine cd rfl (fun hc0 => ?_) (fun hc0 => ?_)
  · try simp at hc0
    refine sq (rg (ag (ag (nl (th (rt (rt_ ?_)))))))
    have hr0 : false = (isOf s) := by
      unfold isOf; rw [hc0]; rfl
    have hr1 : (30 : Int) = (errOf s) := by
      unfold errOf; rw [if_neg (by simp [hc0])]
    have hall : ∀ x0 x1, false = x0 → 30 = x1 → resAV [bl false, int 30] = resAV [bl x0, int x1] := by rintro _ _ rfl rfl; rfl
    exact rE () [.tmp 2, .tmp 3] rfl [bl false, int 30] ⟨.tmp rfl, .tmp rfl, trivial⟩ (hall _ _ hr0 hr1) trivial (by first | exact .inr rfl | exact .inl rfl)
  · try simp at hc0
    have hs := okSpec_of hc0
    refine sk (th (sq (rg (lPA rfl rfl T.agg25 rfl (tbU (ψ := tab) 10 9999 rfl rfl (calW (φs := [both (agg [sl 1 strE s.actions, sl 2 stateE s.states]) tab]) (φ := tup [agg [sl 1 strE (((leastR s).1).actions), sl 2 stateE (((leastR s).1).states)], sl 1 intE ((leastR s).2)]) ⟨rfl, trivial⟩ (prog12.Merged_ok s (by assumption)) T.ent41 (fun N hN => fun h => tup_le (cs := [agg [fre N (sl 1 strE (((leastR s).1).actions)), fre N (sl 2 stateE (((leastR s).1).states))], fre N (sl 1 intE ((leastR s).2))]) (ds := [agg [sl 1 strE (((leastR s).1).actions), sl 2 stateE (((leastR s).1).states)], sl 1 intE ((leastR s).2)]) ⟨fun h => agg_le (cs := [fre N (sl 1 strE (((leastR s).1).actions)), fre N (sl 2 stateE (((leastR s).1).states))]) (ds := [sl 1 strE (((leastR s).1).actions), sl 2 stateE (((leastR s).1).states)]) ⟨fun h => nw_le h, fun h => nw_le h, trivial⟩ h, fun h => nw_le h, trivial⟩ h) (mv (xt rfl rfl (xt rfl rfl (al (key := 4) T.z25 (ex_cons (ex_cons (ex_nil))) fun b4 => (sPA (cs' := [sl 1 strE (((leastR s).1).actions), sl 2 stateE (((leastR s).1).states)]) rfl rfl rfl T.agg25 rfl rfl (ag (nl (th (sq (rg (lPA rfl rfl T.agg25 rfl (lPA rfl rfl T.agg25 rfl (cal0 (φs := [agg [sl 1 strE s.actions, sl 2 stateE s.states], agg [sl 1 strE (((leastR s).1).actions), sl 2 stateE (((leastR s).1).states)]]) (φ := bl (decide (s = ((leastR s).1)))) ⟨rfl, rfl, trivial⟩ (prog3.Same_ok s ((leastR s).1)) T.ent42 (ag (ag (nl (th (rt ?_))))))))))))))))))))))))
    have hr0 : (decide (s = ((leastR s).1))) = (isOf s) := by
      unfold isOf; rw [hc0]; rfl
    have hr1 : (0 : Int) = (errOf s) := by
      unfold errOf; rw [if_pos hc0]
    have hall : ∀ x0 x1, (decide (s = ((leastR s).1))) = x0 → 0 = x1 → resAV [bl (decide (s = ((leastR s).1))), int 0] = resAV [bl x0, int x1] := by rintro _ _ rfl rfl; rfl
    exact rE () [.tmp 2, .tmp 3] rfl [bl (decide (s = ((leastR s).1))), int 0] ⟨.tmp rfl, .tmp rfl, trivial⟩ (hall _ _ hr0 hr1) trivial (by first | exact .inr rfl | exact .inl rfl)
end prog13
end Go.Proofs.YtolpjmllmlahfaaDoor

/- The chapter's example, reckoned: plain Lean. -/

namespace Go.Proofs.YtolpjmllmlahfaaDoor
open AL ref01 ref03 ref04 ref06 Part Rungs LeftM TrimM Itoa Keys RoundM MergeM
namespace RingM
def ringS : SSpec := ⟨[⟨#[97]⟩], [⟨[1], [1]⟩, ⟨[1], [0]⟩]⟩
def ringT : SSpec := ⟨[⟨#[97]⟩], [⟨[1], [0]⟩]⟩
theorem ring_is : specOK ringS = true := by decide
theorem ring_ok : okSpec ringS := okSpec_of ring_is
theorem ring_hol (x : Nat) (hx : x < 2) : ix (hollow ringS) x = false := by
  cases hv : ix (hollow ringS) x with
  | false => rfl
  | true =>
    exfalso
    have h := (hollow_ix (s := ringS) hx).1 hv
    refine h (fun _ => False) (fun y hy hc => ?_)
    have hy : y < 2 := hy
    have hl : 0 < (ix ringS.states y).accept.length := by
      rcases (show y = 0 ∨ y = 1 by omega) with rfl | rfl <;> decide
    obtain ⟨_, _, _, _, h⟩ := hc 0 hl
    exact h
theorem ring_hollow : hollow ringS = [false, false] := by
  have hl := hollow_len ringS
  have hl : (hollow ringS).length = 2 := hl
  apply List.ext_getElem?
  intro i
  by_cases hi : i < 2
  · rw [List.getElem?_eq_getElem (by omega), ← ix_get (by omega), ring_hol i hi]
    rcases (show i = 0 ∨ i = 1 by omega) with rfl | rfl <;> rfl
  · rw [List.getElem?_eq_none (by omega), List.getElem?_eq_none (by simp; omega)]
theorem ring_keep0 : keep ringS 0 = [1] := by
  unfold keep; rw [ring_hollow]; decide
theorem ring_keep1 : keep ringS 1 = [1] := by
  unfold keep; rw [ring_hollow]; decide
theorem ring_solid : solid ringS = ringS := by
  have h0 : solidState ringS 0 = ⟨[1], [1]⟩ := by unfold solidState; rw [ring_keep0]; decide
  have h1 : solidState ringS 1 = ⟨[1], [0]⟩ := by unfold solidState; rw [ring_keep1]; decide
  have : (solid ringS).states = [solidState ringS 0, solidState ringS 1] := rfl
  apply SSpec.ext
  · rfl
  · rw [this, h0, h1]; rfl
theorem ring_it1 : itR ringS 1 = ([0, 0], 1) := by
  show ((numBy (alike (solid ringS) (itR ringS 0).1) ringS.states.length).1, (numBy (alike (solid ringS) (itR ringS 0).1) ringS.states.length).2.length) = _
  rw [ring_solid]; decide
theorem ring_it2 : itR ringS 2 = ([0, 0], 1) := by
  show ((numBy (alike (solid ringS) (itR ringS 1).1) ringS.states.length).1, (numBy (alike (solid ringS) (itR ringS 1).1) ringS.states.length).2.length) = _
  rw [ring_solid, ring_it1]; decide
theorem ring_it3 : itR ringS 3 = ([0, 0], 1) := by
  show ((numBy (alike (solid ringS) (itR ringS 2).1) ringS.states.length).1, (numBy (alike (solid ringS) (itR ringS 2).1) ringS.states.length).2.length) = _
  rw [ring_solid, ring_it2]; decide
theorem ring_classes : classesR ringS = [0, 0] := by
  show (itR ringS 3).1 = _
  rw [ring_it3]
theorem ring_least : leastR ringS = (ringT, [0, 0]) := by
  unfold leastR
  rw [if_neg (by rw [ring_hol 0 (by omega)]; simp), ring_solid, ring_classes]
  decide
theorem ring_small (k : Nat) (hk : k < ringS.states.length) (i : Nat) (hi : i < (ix ringS.states k).accept.length) : ix (ix ringS.states k).accept i < 2 ^ 63 := by
  have hk : k < 2 := hk
  rcases (show k = 0 ∨ k = 1 by omega) with rfl | rfl
  · have hi : i < 1 := hi
    have : i = 0 := by omega
    subst this; decide
  · have hi : i < 1 := hi
    have : i = 0 := by omega
    subst this; decide
end RingM
end Go.Proofs.YtolpjmllmlahfaaDoor
