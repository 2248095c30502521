/-
  NARROWER THAN 'FOR EVERY INPUT', by the rows' own cells (each row's printed sentence says how): ProductMakes: laid · ProductParts: laid · ProductSeveral: laid · ProductBeside: laid · ProductOwn: laid · ProductSatisfied: laid · DivideAdjoins: laid · ProductOrders: laid.
  DERIVED. THE GIVEN ROWS OF THIS SEAT. 8 by the template 'for every input the law returns true; each argument reads behind the call as it read before'; 0 by the template 'total and deterministic' (their statements: YtcjemmihcplgdaaGreatDoorTotals.lean).
  GIVEN WITH THE SEED: the statements are not yours to turn. If you find one false, say at which input.
  Laid BY PROGRAM, IN A SANDBOX (cutbox-rows.mjs): the forced cells as the released guide's own fill.sh prints them over the translation c6e2692574d7b658… (all of the seat's roots in one cut). By AI agents, Wed Nov 11 2026. No macro, syntax, notation, axiom, sorry.
-/
import Derived.Test.YtcjemmihcplgdaaGreatDoorChecked
import GoSem.Claim
import GoSem.ClaimJoined
import GoSem.ClaimMapViews
import Derived.JoinedTies
import Derived.KernelRfl
namespace Go.Proofs.YtcjemmihcplgdaaGreatDoor
/- THE CELL 'sum', in the pinned program and in every row, IS THE sha256 OF THE DUMP (.gsa) THAT YtcjemmihcplgdaaGreatDoorProg.lean LOADS. Nothing in Lean hashes anything: it is a label: what it is worth is what the hold of that sum in a sandbox is worth. -/
noncomputable def Tryz.pinned : Pinned := { name := "ytcjemmihcplgdaagreatdoor", sum := "c6e2692574d7b65883a8da4d4a90bcaf13c5b650aa75713c54d6f7966b48f224", checked := Tryz.checked }
namespace Rows
def none {H : Type} : Left H := { results := [], args := [] }

/- WHAT THE LISTED PACKAGE-LEVEL VARIABLES READ AS WHEN THE CALL BEGINS. Each datum BY PROGRAM (the guide's laid-datum.mjs) off the statement by which the dump's own 'gosem.cut.vars' lays the variable. In a bare row this is a premise. The card (YtcjemmihcplgdaaGreatDoorCards.lean) ties it to the program's text. -/
def laid_math_bits_deBruijn32tab {H : Type} : DataW H := .agg [.lit (.int .u8 0), .lit (.int .u8 1), .lit (.int .u8 28), .lit (.int .u8 2), .lit (.int .u8 29), .lit (.int .u8 14), .lit (.int .u8 24), .lit (.int .u8 3), .lit (.int .u8 30), .lit (.int .u8 22), .lit (.int .u8 20), .lit (.int .u8 15), .lit (.int .u8 25), .lit (.int .u8 17), .lit (.int .u8 4), .lit (.int .u8 8), .lit (.int .u8 31), .lit (.int .u8 27), .lit (.int .u8 13), .lit (.int .u8 23), .lit (.int .u8 21), .lit (.int .u8 19), .lit (.int .u8 16), .lit (.int .u8 7), .lit (.int .u8 26), .lit (.int .u8 12), .lit (.int .u8 18), .lit (.int .u8 6), .lit (.int .u8 11), .lit (.int .u8 5), .lit (.int .u8 10), .lit (.int .u8 9)]
def laid_math_bits_deBruijn64tab {H : Type} : DataW H := .agg [.lit (.int .u8 0), .lit (.int .u8 1), .lit (.int .u8 56), .lit (.int .u8 2), .lit (.int .u8 57), .lit (.int .u8 49), .lit (.int .u8 28), .lit (.int .u8 3), .lit (.int .u8 61), .lit (.int .u8 58), .lit (.int .u8 42), .lit (.int .u8 50), .lit (.int .u8 38), .lit (.int .u8 29), .lit (.int .u8 17), .lit (.int .u8 4), .lit (.int .u8 62), .lit (.int .u8 47), .lit (.int .u8 59), .lit (.int .u8 36), .lit (.int .u8 45), .lit (.int .u8 43), .lit (.int .u8 51), .lit (.int .u8 22), .lit (.int .u8 53), .lit (.int .u8 39), .lit (.int .u8 33), .lit (.int .u8 30), .lit (.int .u8 24), .lit (.int .u8 18), .lit (.int .u8 12), .lit (.int .u8 5), .lit (.int .u8 63), .lit (.int .u8 55), .lit (.int .u8 48), .lit (.int .u8 27), .lit (.int .u8 60), .lit (.int .u8 41), .lit (.int .u8 37), .lit (.int .u8 16), .lit (.int .u8 46), .lit (.int .u8 35), .lit (.int .u8 44), .lit (.int .u8 21), .lit (.int .u8 52), .lit (.int .u8 32), .lit (.int .u8 23), .lit (.int .u8 11), .lit (.int .u8 54), .lit (.int .u8 26), .lit (.int .u8 40), .lit (.int .u8 15), .lit (.int .u8 34), .lit (.int .u8 20), .lit (.int .u8 31), .lit (.int .u8 10), .lit (.int .u8 25), .lit (.int .u8 14), .lit (.int .u8 19), .lit (.int .u8 9), .lit (.int .u8 13), .lit (.int .u8 8), .lit (.int .u8 7), .lit (.int .u8 6)]
def laid_internal_strconv_uint64pow10 {H : Type} : DataW H := .agg [.lit (.int .u64 1), .lit (.int .u64 10), .lit (.int .u64 100), .lit (.int .u64 1000), .lit (.int .u64 10000), .lit (.int .u64 100000), .lit (.int .u64 1000000), .lit (.int .u64 10000000), .lit (.int .u64 100000000), .lit (.int .u64 1000000000), .lit (.int .u64 10000000000), .lit (.int .u64 100000000000), .lit (.int .u64 1000000000000), .lit (.int .u64 10000000000000), .lit (.int .u64 100000000000000), .lit (.int .u64 1000000000000000), .lit (.int .u64 10000000000000000), .lit (.int .u64 100000000000000000), .lit (.int .u64 1000000000000000000), .lit (.int .u64 10000000000000000000)]

/-- 'makeweightlaw08.ProductMakes': WHATEVER THE INPUT: true; the input reads as it did. -/
def productMakesSpec : ChangeSpec := { name := "productMakes", fn := fun _ => fun
  | [d1, d2] => { results := [.lit (.bool true)], args := [d1, d2] }
  | _ => none }
def productMakesRow : OpenClaim := { program := "ytcjemmihcplgdaagreatdoor", sum := "c6e2692574d7b65883a8da4d4a90bcaf13c5b650aa75713c54d6f7966b48f224", func := "makeweight/makeweightlaw08.ProductMakes", spec := "productMakes", unfollowed := true, recurses := true, named := ["internal/strconv.uint64pow10", "math/bits.deBruijn32tab", "math/bits.deBruijn64tab"], plainKeys := false, apart := false, laid := [("math/bits.deBruijn32tab", laid_math_bits_deBruijn32tab), ("math/bits.deBruijn64tab", laid_math_bits_deBruijn64tab), ("internal/strconv.uint64pow10", laid_internal_strconv_uint64pow10)] }
def ProductMakesSaid : Prop := productMakesRow.holds Tryz.pinned (OpenSpec.ofChange productMakesSpec)

/-- ITS FALSE NEIGHBOUR: 'it returns false'. Refute it at one input. -/
def productMakesWrong : ChangeSpec := { name := "productMakes", fn := fun _ => fun
  | [d1, d2] => { results := [.lit (.bool false)], args := [d1, d2] }
  | _ => none }
def ProductMakesWrongFalsely : Prop := productMakesRow.holds Tryz.pinned (OpenSpec.ofChange productMakesWrong)

/-- 'makeweightlaw08.ProductParts': WHATEVER THE INPUT: true; the input reads as it did. -/
def productPartsSpec : ChangeSpec := { name := "productParts", fn := fun _ => fun
  | [d1, d2, d3, d4] => { results := [.lit (.bool true)], args := [d1, d2, d3, d4] }
  | _ => none }
def productPartsRow : OpenClaim := { program := "ytcjemmihcplgdaagreatdoor", sum := "c6e2692574d7b65883a8da4d4a90bcaf13c5b650aa75713c54d6f7966b48f224", func := "makeweight/makeweightlaw08.ProductParts", spec := "productParts", unfollowed := true, recurses := true, named := ["internal/strconv.uint64pow10", "math/bits.deBruijn32tab", "math/bits.deBruijn64tab"], plainKeys := false, apart := false, laid := [("math/bits.deBruijn32tab", laid_math_bits_deBruijn32tab), ("math/bits.deBruijn64tab", laid_math_bits_deBruijn64tab), ("internal/strconv.uint64pow10", laid_internal_strconv_uint64pow10)] }
def ProductPartsSaid : Prop := productPartsRow.holds Tryz.pinned (OpenSpec.ofChange productPartsSpec)

/-- ITS FALSE NEIGHBOUR: 'it returns false'. Refute it at one input. -/
def productPartsWrong : ChangeSpec := { name := "productParts", fn := fun _ => fun
  | [d1, d2, d3, d4] => { results := [.lit (.bool false)], args := [d1, d2, d3, d4] }
  | _ => none }
def ProductPartsWrongFalsely : Prop := productPartsRow.holds Tryz.pinned (OpenSpec.ofChange productPartsWrong)

/-- 'makeweightlaw08.ProductSeveral': WHATEVER THE INPUT: true; the input reads as it did. -/
def productSeveralSpec : ChangeSpec := { name := "productSeveral", fn := fun _ => fun
  | [d1, d2] => { results := [.lit (.bool true)], args := [d1, d2] }
  | _ => none }
def productSeveralRow : OpenClaim := { program := "ytcjemmihcplgdaagreatdoor", sum := "c6e2692574d7b65883a8da4d4a90bcaf13c5b650aa75713c54d6f7966b48f224", func := "makeweight/makeweightlaw08.ProductSeveral", spec := "productSeveral", unfollowed := true, recurses := true, named := ["internal/strconv.uint64pow10", "math/bits.deBruijn32tab", "math/bits.deBruijn64tab"], plainKeys := false, apart := false, laid := [("math/bits.deBruijn32tab", laid_math_bits_deBruijn32tab), ("math/bits.deBruijn64tab", laid_math_bits_deBruijn64tab), ("internal/strconv.uint64pow10", laid_internal_strconv_uint64pow10)] }
def ProductSeveralSaid : Prop := productSeveralRow.holds Tryz.pinned (OpenSpec.ofChange productSeveralSpec)

/-- ITS FALSE NEIGHBOUR: 'it returns false'. Refute it at one input. -/
def productSeveralWrong : ChangeSpec := { name := "productSeveral", fn := fun _ => fun
  | [d1, d2] => { results := [.lit (.bool false)], args := [d1, d2] }
  | _ => none }
def ProductSeveralWrongFalsely : Prop := productSeveralRow.holds Tryz.pinned (OpenSpec.ofChange productSeveralWrong)

/-- 'makeweightlaw08.ProductBeside': WHATEVER THE INPUT: true; the input reads as it did. -/
def productBesideSpec : ChangeSpec := { name := "productBeside", fn := fun _ => fun
  | [d1, d2] => { results := [.lit (.bool true)], args := [d1, d2] }
  | _ => none }
def productBesideRow : OpenClaim := { program := "ytcjemmihcplgdaagreatdoor", sum := "c6e2692574d7b65883a8da4d4a90bcaf13c5b650aa75713c54d6f7966b48f224", func := "makeweight/makeweightlaw08.ProductBeside", spec := "productBeside", unfollowed := true, recurses := true, named := ["internal/strconv.uint64pow10", "math/bits.deBruijn32tab", "math/bits.deBruijn64tab"], plainKeys := false, apart := false, laid := [("math/bits.deBruijn32tab", laid_math_bits_deBruijn32tab), ("math/bits.deBruijn64tab", laid_math_bits_deBruijn64tab), ("internal/strconv.uint64pow10", laid_internal_strconv_uint64pow10)] }
def ProductBesideSaid : Prop := productBesideRow.holds Tryz.pinned (OpenSpec.ofChange productBesideSpec)

/-- ITS FALSE NEIGHBOUR: 'it returns false'. Refute it at one input. -/
def productBesideWrong : ChangeSpec := { name := "productBeside", fn := fun _ => fun
  | [d1, d2] => { results := [.lit (.bool false)], args := [d1, d2] }
  | _ => none }
def ProductBesideWrongFalsely : Prop := productBesideRow.holds Tryz.pinned (OpenSpec.ofChange productBesideWrong)

/-- 'makeweightlaw08.ProductOwn': WHATEVER THE INPUT: true; the input reads as it did. -/
def productOwnSpec : ChangeSpec := { name := "productOwn", fn := fun _ => fun
  | [d1, d2, d3] => { results := [.lit (.bool true)], args := [d1, d2, d3] }
  | _ => none }
def productOwnRow : OpenClaim := { program := "ytcjemmihcplgdaagreatdoor", sum := "c6e2692574d7b65883a8da4d4a90bcaf13c5b650aa75713c54d6f7966b48f224", func := "makeweight/makeweightlaw08.ProductOwn", spec := "productOwn", unfollowed := true, recurses := true, named := ["internal/strconv.uint64pow10", "math/bits.deBruijn32tab", "math/bits.deBruijn64tab"], plainKeys := false, apart := false, laid := [("math/bits.deBruijn32tab", laid_math_bits_deBruijn32tab), ("math/bits.deBruijn64tab", laid_math_bits_deBruijn64tab), ("internal/strconv.uint64pow10", laid_internal_strconv_uint64pow10)] }
def ProductOwnSaid : Prop := productOwnRow.holds Tryz.pinned (OpenSpec.ofChange productOwnSpec)

/-- ITS FALSE NEIGHBOUR: 'it returns false'. Refute it at one input. -/
def productOwnWrong : ChangeSpec := { name := "productOwn", fn := fun _ => fun
  | [d1, d2, d3] => { results := [.lit (.bool false)], args := [d1, d2, d3] }
  | _ => none }
def ProductOwnWrongFalsely : Prop := productOwnRow.holds Tryz.pinned (OpenSpec.ofChange productOwnWrong)

/-- 'makeweightlaw08.ProductSatisfied': WHATEVER THE INPUT: true; the input reads as it did. -/
def productSatisfiedSpec : ChangeSpec := { name := "productSatisfied", fn := fun _ => fun
  | [d1, d2, d3] => { results := [.lit (.bool true)], args := [d1, d2, d3] }
  | _ => none }
def productSatisfiedRow : OpenClaim := { program := "ytcjemmihcplgdaagreatdoor", sum := "c6e2692574d7b65883a8da4d4a90bcaf13c5b650aa75713c54d6f7966b48f224", func := "makeweight/makeweightlaw08.ProductSatisfied", spec := "productSatisfied", unfollowed := true, recurses := true, named := ["internal/strconv.uint64pow10", "math/bits.deBruijn32tab", "math/bits.deBruijn64tab"], plainKeys := false, apart := false, laid := [("math/bits.deBruijn32tab", laid_math_bits_deBruijn32tab), ("math/bits.deBruijn64tab", laid_math_bits_deBruijn64tab), ("internal/strconv.uint64pow10", laid_internal_strconv_uint64pow10)] }
def ProductSatisfiedSaid : Prop := productSatisfiedRow.holds Tryz.pinned (OpenSpec.ofChange productSatisfiedSpec)

/-- ITS FALSE NEIGHBOUR: 'it returns false'. Refute it at one input. -/
def productSatisfiedWrong : ChangeSpec := { name := "productSatisfied", fn := fun _ => fun
  | [d1, d2, d3] => { results := [.lit (.bool false)], args := [d1, d2, d3] }
  | _ => none }
def ProductSatisfiedWrongFalsely : Prop := productSatisfiedRow.holds Tryz.pinned (OpenSpec.ofChange productSatisfiedWrong)

/-- 'makeweightlaw09.DivideAdjoins': WHATEVER THE INPUT: true; the input reads as it did. -/
def divideAdjoinsSpec : ChangeSpec := { name := "divideAdjoins", fn := fun _ => fun
  | [d1, d2, d3] => { results := [.lit (.bool true)], args := [d1, d2, d3] }
  | _ => none }
def divideAdjoinsRow : OpenClaim := { program := "ytcjemmihcplgdaagreatdoor", sum := "c6e2692574d7b65883a8da4d4a90bcaf13c5b650aa75713c54d6f7966b48f224", func := "makeweight/makeweightlaw09.DivideAdjoins", spec := "divideAdjoins", unfollowed := true, recurses := true, named := ["internal/strconv.uint64pow10", "math/bits.deBruijn32tab", "math/bits.deBruijn64tab"], plainKeys := false, apart := false, laid := [("math/bits.deBruijn32tab", laid_math_bits_deBruijn32tab), ("math/bits.deBruijn64tab", laid_math_bits_deBruijn64tab), ("internal/strconv.uint64pow10", laid_internal_strconv_uint64pow10)] }
def DivideAdjoinsSaid : Prop := divideAdjoinsRow.holds Tryz.pinned (OpenSpec.ofChange divideAdjoinsSpec)

/-- ITS FALSE NEIGHBOUR: 'it returns false'. Refute it at one input. -/
def divideAdjoinsWrong : ChangeSpec := { name := "divideAdjoins", fn := fun _ => fun
  | [d1, d2, d3] => { results := [.lit (.bool false)], args := [d1, d2, d3] }
  | _ => none }
def DivideAdjoinsWrongFalsely : Prop := divideAdjoinsRow.holds Tryz.pinned (OpenSpec.ofChange divideAdjoinsWrong)

/-- 'makeweightlaw08.ProductOrders': WHATEVER THE INPUT: true; the input reads as it did. -/
def productOrdersSpec : ChangeSpec := { name := "productOrders", fn := fun _ => fun
  | [d1, d2] => { results := [.lit (.bool true)], args := [d1, d2] }
  | _ => none }
def productOrdersRow : OpenClaim := { program := "ytcjemmihcplgdaagreatdoor", sum := "c6e2692574d7b65883a8da4d4a90bcaf13c5b650aa75713c54d6f7966b48f224", func := "makeweight/makeweightlaw08.ProductOrders", spec := "productOrders", unfollowed := true, recurses := true, named := ["internal/strconv.uint64pow10", "math/bits.deBruijn32tab", "math/bits.deBruijn64tab"], plainKeys := false, apart := false, laid := [("math/bits.deBruijn32tab", laid_math_bits_deBruijn32tab), ("math/bits.deBruijn64tab", laid_math_bits_deBruijn64tab), ("internal/strconv.uint64pow10", laid_internal_strconv_uint64pow10)] }
def ProductOrdersSaid : Prop := productOrdersRow.holds Tryz.pinned (OpenSpec.ofChange productOrdersSpec)

/-- ITS FALSE NEIGHBOUR: 'it returns false'. Refute it at one input. -/
def productOrdersWrong : ChangeSpec := { name := "productOrders", fn := fun _ => fun
  | [d1, d2] => { results := [.lit (.bool false)], args := [d1, d2] }
  | _ => none }
def ProductOrdersWrongFalsely : Prop := productOrdersRow.holds Tryz.pinned (OpenSpec.ofChange productOrdersWrong)

/- THE SECOND FORM. 'bulk': how many values and letters a reading holds, each counted each time it is reached (what is shared counts as often as it is met; a slice's spare places count too). A statement '..UptoSaid' is the law's where the arguments, and the package variables that the reading takes, are together of bulk at most 1048576: NARROWER than '..Said'. Prove '..Said' where nothing that the law and all that it calls make is longer than what came in: it says more and counts as full. Else prove '..UptoSaid'. A law counts once. -/
mutual
def uptoBulk {H : Type} : DataW H → Nat
  | .lit (.string bytes) => bytes.length + 1
  | .lit _ => 1
  | .nil => 1
  | .ptr d => uptoBulk d + 1
  | .slice elems spare => uptoBulkAll elems + uptoBulkAll spare + 1
  | .agg parts => uptoBulkAll parts + 1
  | .iface _ d => uptoBulk d + 1
  | .map entries => uptoBulkEntries entries + 1
  | .held _ => 1
def uptoBulkAll {H : Type} : List (DataW H) → Nat
  | [] => 0
  | d :: r => uptoBulk d + uptoBulkAll r
def uptoBulkEntries {H : Type} : List (Lit × DataW H) → Nat
  | [] => 0
  | x :: r => uptoBulkEntry x + uptoBulkEntries r
def uptoBulkEntry {H : Type} : Lit × DataW H → Nat
  | (.string bytes, d) => bytes.length + uptoBulk d + 1
  | (_, d) => uptoBulk d + 1
 end
def uptoSmall : (H : Type) → List (DataW H) → Bool := fun _ ds => decide (uptoBulkAll ds ≤ 1048576)
def OpenSpec.upto (s : _root_.Go.ChangeSpec) : _root_.Go.OpenSpec := { _root_.Go.OpenSpec.ofChange s with cond := some uptoSmall }

/-- 'makeweightlaw08.ProductMakes', WHERE WHAT IT READS IS OF BULK AT MOST 1048576: true; the input reads as it did. -/
def productMakesUptoRow : OpenClaim := { program := "ytcjemmihcplgdaagreatdoor", sum := "c6e2692574d7b65883a8da4d4a90bcaf13c5b650aa75713c54d6f7966b48f224", func := "makeweight/makeweightlaw08.ProductMakes", spec := "productMakes", unfollowed := true, recurses := true, named := ["internal/strconv.uint64pow10", "math/bits.deBruijn32tab", "math/bits.deBruijn64tab"], plainKeys := false, apart := false, laid := [("math/bits.deBruijn32tab", laid_math_bits_deBruijn32tab), ("math/bits.deBruijn64tab", laid_math_bits_deBruijn64tab), ("internal/strconv.uint64pow10", laid_internal_strconv_uint64pow10)], narrowed := true }
def ProductMakesUptoSaid : Prop := productMakesUptoRow.holds Tryz.pinned (OpenSpec.upto productMakesSpec)

/-- 'makeweightlaw08.ProductParts', WHERE WHAT IT READS IS OF BULK AT MOST 1048576: true; the input reads as it did. -/
def productPartsUptoRow : OpenClaim := { program := "ytcjemmihcplgdaagreatdoor", sum := "c6e2692574d7b65883a8da4d4a90bcaf13c5b650aa75713c54d6f7966b48f224", func := "makeweight/makeweightlaw08.ProductParts", spec := "productParts", unfollowed := true, recurses := true, named := ["internal/strconv.uint64pow10", "math/bits.deBruijn32tab", "math/bits.deBruijn64tab"], plainKeys := false, apart := false, laid := [("math/bits.deBruijn32tab", laid_math_bits_deBruijn32tab), ("math/bits.deBruijn64tab", laid_math_bits_deBruijn64tab), ("internal/strconv.uint64pow10", laid_internal_strconv_uint64pow10)], narrowed := true }
def ProductPartsUptoSaid : Prop := productPartsUptoRow.holds Tryz.pinned (OpenSpec.upto productPartsSpec)

/-- 'makeweightlaw08.ProductSeveral', WHERE WHAT IT READS IS OF BULK AT MOST 1048576: true; the input reads as it did. -/
def productSeveralUptoRow : OpenClaim := { program := "ytcjemmihcplgdaagreatdoor", sum := "c6e2692574d7b65883a8da4d4a90bcaf13c5b650aa75713c54d6f7966b48f224", func := "makeweight/makeweightlaw08.ProductSeveral", spec := "productSeveral", unfollowed := true, recurses := true, named := ["internal/strconv.uint64pow10", "math/bits.deBruijn32tab", "math/bits.deBruijn64tab"], plainKeys := false, apart := false, laid := [("math/bits.deBruijn32tab", laid_math_bits_deBruijn32tab), ("math/bits.deBruijn64tab", laid_math_bits_deBruijn64tab), ("internal/strconv.uint64pow10", laid_internal_strconv_uint64pow10)], narrowed := true }
def ProductSeveralUptoSaid : Prop := productSeveralUptoRow.holds Tryz.pinned (OpenSpec.upto productSeveralSpec)

/-- 'makeweightlaw08.ProductBeside', WHERE WHAT IT READS IS OF BULK AT MOST 1048576: true; the input reads as it did. -/
def productBesideUptoRow : OpenClaim := { program := "ytcjemmihcplgdaagreatdoor", sum := "c6e2692574d7b65883a8da4d4a90bcaf13c5b650aa75713c54d6f7966b48f224", func := "makeweight/makeweightlaw08.ProductBeside", spec := "productBeside", unfollowed := true, recurses := true, named := ["internal/strconv.uint64pow10", "math/bits.deBruijn32tab", "math/bits.deBruijn64tab"], plainKeys := false, apart := false, laid := [("math/bits.deBruijn32tab", laid_math_bits_deBruijn32tab), ("math/bits.deBruijn64tab", laid_math_bits_deBruijn64tab), ("internal/strconv.uint64pow10", laid_internal_strconv_uint64pow10)], narrowed := true }
def ProductBesideUptoSaid : Prop := productBesideUptoRow.holds Tryz.pinned (OpenSpec.upto productBesideSpec)

/-- 'makeweightlaw08.ProductOwn', WHERE WHAT IT READS IS OF BULK AT MOST 1048576: true; the input reads as it did. -/
def productOwnUptoRow : OpenClaim := { program := "ytcjemmihcplgdaagreatdoor", sum := "c6e2692574d7b65883a8da4d4a90bcaf13c5b650aa75713c54d6f7966b48f224", func := "makeweight/makeweightlaw08.ProductOwn", spec := "productOwn", unfollowed := true, recurses := true, named := ["internal/strconv.uint64pow10", "math/bits.deBruijn32tab", "math/bits.deBruijn64tab"], plainKeys := false, apart := false, laid := [("math/bits.deBruijn32tab", laid_math_bits_deBruijn32tab), ("math/bits.deBruijn64tab", laid_math_bits_deBruijn64tab), ("internal/strconv.uint64pow10", laid_internal_strconv_uint64pow10)], narrowed := true }
def ProductOwnUptoSaid : Prop := productOwnUptoRow.holds Tryz.pinned (OpenSpec.upto productOwnSpec)

/-- 'makeweightlaw08.ProductSatisfied', WHERE WHAT IT READS IS OF BULK AT MOST 1048576: true; the input reads as it did. -/
def productSatisfiedUptoRow : OpenClaim := { program := "ytcjemmihcplgdaagreatdoor", sum := "c6e2692574d7b65883a8da4d4a90bcaf13c5b650aa75713c54d6f7966b48f224", func := "makeweight/makeweightlaw08.ProductSatisfied", spec := "productSatisfied", unfollowed := true, recurses := true, named := ["internal/strconv.uint64pow10", "math/bits.deBruijn32tab", "math/bits.deBruijn64tab"], plainKeys := false, apart := false, laid := [("math/bits.deBruijn32tab", laid_math_bits_deBruijn32tab), ("math/bits.deBruijn64tab", laid_math_bits_deBruijn64tab), ("internal/strconv.uint64pow10", laid_internal_strconv_uint64pow10)], narrowed := true }
def ProductSatisfiedUptoSaid : Prop := productSatisfiedUptoRow.holds Tryz.pinned (OpenSpec.upto productSatisfiedSpec)

/-- 'makeweightlaw09.DivideAdjoins', WHERE WHAT IT READS IS OF BULK AT MOST 1048576: true; the input reads as it did. -/
def divideAdjoinsUptoRow : OpenClaim := { program := "ytcjemmihcplgdaagreatdoor", sum := "c6e2692574d7b65883a8da4d4a90bcaf13c5b650aa75713c54d6f7966b48f224", func := "makeweight/makeweightlaw09.DivideAdjoins", spec := "divideAdjoins", unfollowed := true, recurses := true, named := ["internal/strconv.uint64pow10", "math/bits.deBruijn32tab", "math/bits.deBruijn64tab"], plainKeys := false, apart := false, laid := [("math/bits.deBruijn32tab", laid_math_bits_deBruijn32tab), ("math/bits.deBruijn64tab", laid_math_bits_deBruijn64tab), ("internal/strconv.uint64pow10", laid_internal_strconv_uint64pow10)], narrowed := true }
def DivideAdjoinsUptoSaid : Prop := divideAdjoinsUptoRow.holds Tryz.pinned (OpenSpec.upto divideAdjoinsSpec)

/-- 'makeweightlaw08.ProductOrders', WHERE WHAT IT READS IS OF BULK AT MOST 1048576: true; the input reads as it did. -/
def productOrdersUptoRow : OpenClaim := { program := "ytcjemmihcplgdaagreatdoor", sum := "c6e2692574d7b65883a8da4d4a90bcaf13c5b650aa75713c54d6f7966b48f224", func := "makeweight/makeweightlaw08.ProductOrders", spec := "productOrders", unfollowed := true, recurses := true, named := ["internal/strconv.uint64pow10", "math/bits.deBruijn32tab", "math/bits.deBruijn64tab"], plainKeys := false, apart := false, laid := [("math/bits.deBruijn32tab", laid_math_bits_deBruijn32tab), ("math/bits.deBruijn64tab", laid_math_bits_deBruijn64tab), ("internal/strconv.uint64pow10", laid_internal_strconv_uint64pow10)], narrowed := true }
def ProductOrdersUptoSaid : Prop := productOrdersUptoRow.holds Tryz.pinned (OpenSpec.upto productOrdersSpec)

end Rows
end Go.Proofs.YtcjemmihcplgdaaGreatDoor
