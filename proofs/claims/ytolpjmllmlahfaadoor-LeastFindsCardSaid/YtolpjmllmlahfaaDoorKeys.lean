/- Keys of classes: numerals behind blanks: plain Lean. -/
import Derived.Test.YtolpjmllmlahfaaDoorItoa
import Derived.Test.YtolpjmllmlahfaaDoorTrimM
namespace Go.Proofs.YtolpjmllmlahfaaDoor
open AL ref01 ref03 ref04 ref06 Rungs LeftM TrimM Itoa
namespace Keys
def dval (l : List UInt8) : Nat := l.foldl (fun a d => a * 10 + (d.toNat - 48)) 0
theorem dval_snoc (l : List UInt8) (d : UInt8) : dval (l ++ [d]) = dval l * 10 + (d.toNat - 48) := by simp [dval]
theorem dec_spec (u : Nat) : dval (Lib.decDigits u) = u ∧ (∀ d ∈ Lib.decDigits u, d ≠ 32) ∧ Lib.decDigits u ≠ [] := by
  induction u using Nat.strongRecOn with
  | ind u ih =>
    have hd : ∀ k, k < 10 → (UInt8.ofNat (48 + k)).toNat = 48 + k := fun k hk => by
      rw [UInt8.toNat_ofNat']; omega
    have hne : ∀ k, k < 10 → UInt8.ofNat (48 + k) ≠ 32 := fun k hk e => by
      have := congrArg UInt8.toNat e
      rw [hd k hk] at this
      have h2 : (32 : UInt8).toNat = 32 := rfl
      omega
    rw [Lib.decDigits]
    by_cases h : u < 10
    · rw [dif_pos h]
      refine ⟨?_, fun d hm => ?_, by simp⟩
      · have := dval_snoc [] (UInt8.ofNat (48 + u))
        rw [List.nil_append] at this
        rw [this, hd u h]
        show 0 * 10 + _ = u
        omega
      · have : d = UInt8.ofNat (48 + u) := by simpa using hm
        subst this; exact hne u h
    · rw [dif_neg h]
      obtain ⟨h1, h2, h3⟩ := ih (u / 10) (by omega)
      refine ⟨?_, fun d hm => ?_, by simp⟩
      · rw [dval_snoc, h1, hd _ (by omega)]; omega
      · rcases List.mem_append.1 hm with hm | hm
        · exact h2 d hm
        · have : d = UInt8.ofNat (48 + u % 10) := by simpa using hm
          subst this; exact hne _ (by omega)
theorem itoa_nn {n : Int} (h : 0 ≤ n) : Lib.itoa n = Lib.decDigits n.toNat := by unfold Lib.itoa; rw [if_neg (by omega)]
theorem itoa_inj {m n : Int} (hm : 0 ≤ m) (hn : 0 ≤ n) (h : Lib.itoa m = Lib.itoa n) : m = n := by
  rw [itoa_nn hm, itoa_nn hn] at h
  have h1 := (dec_spec m.toNat).1
  have h2 := (dec_spec n.toNat).1
  rw [h, h2] at h1
  omega
theorem itoa_no {m : Int} (hm : 0 ≤ m) : ∀ d ∈ Lib.itoa m, d ≠ 32 := by
  rw [itoa_nn hm]; exact (dec_spec _).2.1
/-- Numerals, a blank ahead of each. -/
def tail_ (l : List Int) : List UInt8 := l.flatMap fun t => 32 :: Lib.itoa t
theorem cut_eq {a b r s : List UInt8} (ha : ∀ d ∈ a, d ≠ 32) (hb : ∀ d ∈ b, d ≠ 32) (hr : r = [] ∨ ∃ t, r = 32 :: t) (hs : s = [] ∨ ∃ t, s = 32 :: t) (h : a ++ r = b ++ s) : a = b ∧ r = s := by
  induction a generalizing b with
  | nil =>
    cases b with
    | nil => exact ⟨rfl, h⟩
    | cons y b =>
      rcases hr with rfl | ⟨t, rfl⟩
      · simp at h
      · simp at h; exact absurd h.1.symm (hb y (by simp))
  | cons x a ih =>
    cases b with
    | nil =>
      rcases hs with rfl | ⟨t, rfl⟩
      · simp at h
      · simp at h; exact absurd h.1 (ha x (by simp))
    | cons y b =>
      simp at h
      obtain ⟨h1, h2⟩ := ih (fun d hd => ha d (by simp [hd])) (fun d hd => hb d (by simp [hd])) h.2
      exact ⟨by rw [h.1, h1], h2⟩
theorem tail_cases (l : List Int) : tail_ l = [] ∨ ∃ t, tail_ l = 32 :: t := by
  cases l with
  | nil => exact .inl rfl
  | cons x l => exact .inr ⟨_, rfl⟩
theorem tail_inj : ∀ {l m : List Int}, (∀ x ∈ l, 0 ≤ x) → (∀ x ∈ m, 0 ≤ x) → tail_ l = tail_ m → l = m
  | [], [], _, _, _ => rfl
  | [], y :: m, _, _, h => by simp [tail_] at h
  | x :: l, [], _, _, h => by simp [tail_] at h
  | x :: l, y :: m, hl, hm, h => by
    have h : 32 :: (Lib.itoa x ++ tail_ l) = 32 :: (Lib.itoa y ++ tail_ m) := h
    obtain ⟨h1, h2⟩ := cut_eq (itoa_no (hl x (by simp))) (itoa_no (hm y (by simp))) (tail_cases l) (tail_cases m) (List.cons.inj h).2
    rw [itoa_inj (hl x (by simp)) (hm y (by simp)) h1, tail_inj (fun z hz => hl z (by simp [hz])) (fun z hz => hm z (by simp [hz])) h2]
theorem tail_snoc (l : List Int) (x : Int) : tail_ (l ++ [x]) = tail_ l ++ 32 :: Lib.itoa x := by simp [tail_]
def blank : ByteArray := ⟨#[32]⟩
/-- The same, as strings. -/
def tailB (l : List Int) : ByteArray := ⟨(tail_ l).toArray⟩
theorem tailB_nil : tailB [] = ⟨#[]⟩ := rfl
theorem ba_append (a b : List UInt8) : (⟨a.toArray⟩ : ByteArray) ++ ⟨b.toArray⟩ = ⟨(a ++ b).toArray⟩ := by
  apply ByteArray.ext
  rw [ByteArray.data_append]
  simp
theorem tailB_snoc (l : List Int) (x : Int) : tailB l ++ (⟨#[32]⟩ ++ itoaB x) = tailB (l ++ [x]) := by
  unfold tailB itoaB
  rw [tail_snoc, show (⟨#[32]⟩ : ByteArray) = ⟨([32] : List UInt8).toArray⟩ from rfl, ba_append, ba_append]; rfl
/-- A numeral, and numerals behind blanks. -/
def keyB (c : Int) (l : List Int) : ByteArray := ⟨(Lib.itoa c ++ tail_ l).toArray⟩
theorem keyB_nil (c : Int) : itoaB c = keyB c [] := by unfold itoaB keyB; simp [tail_]
theorem keyB_snoc (c : Int) (l : List Int) (x : Int) : keyB c l ++ (⟨#[32]⟩ ++ itoaB x) = keyB c (l ++ [x]) := by
  unfold keyB itoaB
  rw [tail_snoc, show (⟨#[32]⟩ : ByteArray) = ⟨([32] : List UInt8).toArray⟩ from rfl, ba_append, ba_append]; simp
theorem ba_inj {a b : List UInt8} (h : (⟨a.toArray⟩ : ByteArray) = ⟨b.toArray⟩) : a = b := by
  have := congrArg (fun z : ByteArray => z.data.toList) h
  simpa using this
theorem tailB_inj {l m : List Int} (hl : ∀ x ∈ l, 0 ≤ x) (hm : ∀ x ∈ m, 0 ≤ x) (h : tailB l = tailB m) : l = m := tail_inj hl hm (ba_inj h)
theorem keyB_inj {c d : Int} {l m : List Int} (hc : 0 ≤ c) (hd : 0 ≤ d) (hl : ∀ x ∈ l, 0 ≤ x) (hm : ∀ x ∈ m, 0 ≤ x) (h : keyB c l = keyB d m) : c = d ∧ l = m := by
  obtain ⟨h1, h2⟩ := cut_eq (itoa_no hc) (itoa_no hd) (tail_cases l) (tail_cases m) (ba_inj h)
  exact ⟨itoa_inj hc hd h1, tail_inj hl hm h2⟩
theorem tail_len (l : List Int) (h : ∀ x ∈ l, 0 ≤ x ∧ x ≤ 9223372036854775807) : (tail_ l).length ≤ 22 * l.length := by
  induction l with
  | nil => simp [tail_]
  | cons x l ih =>
    have h1 := Lib.itoa_length_le x (by have := h x (by simp); omega) (h x (by simp)).2
    have h2 := ih (fun y hy => h y (by simp [hy]))
    have : tail_ (x :: l) = 32 :: (Lib.itoa x ++ tail_ l) := rfl
    rw [this]; simp; omega
theorem tailB_size (l : List Int) (h : ∀ x ∈ l, 0 ≤ x ∧ x ≤ 9223372036854775807) : (tailB l).size ≤ 22 * l.length := by
  have := tail_len l h
  show (tail_ l).toArray.size ≤ _
  simpa using this
theorem keyB_size (c : Int) (l : List Int) (hc : 0 ≤ c ∧ c ≤ 9223372036854775807) (h : ∀ x ∈ l, 0 ≤ x ∧ x ≤ 9223372036854775807) : (keyB c l).size ≤ 22 + 22 * l.length := by
  have h1 := tail_len l h
  have h2 := Lib.itoa_length_le c (by omega) hc.2
  show (Lib.itoa c ++ tail_ l).toArray.size ≤ _
  simp; omega
end Keys
end Go.Proofs.YtolpjmllmlahfaaDoor
