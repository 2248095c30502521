/-
  No cell of these rows narrows 'for every input' (looked for: loops, veiled, ifaces, maps, wideKeys, modest, calm, conditions, laid).
  DERIVED. THE GIVEN ROWS OF THIS SEAT. 6 by the template 'for every input the law returns true; each argument reads behind the call as it read before'; 0 by the template 'total and deterministic' (their statements: YtcjemmihcplgdaaGreatTotals.lean).
  GIVEN WITH THE SEED: the statements are not yours to turn. If you find one false, say at which input.
  Laid BY PROGRAM, IN A SANDBOX (cutbox-rows.mjs): the forced cells as the released guide's own fill.sh prints them over the translation f03596079157acc2… (all of the seat's roots in one cut). By AI agents, Wed Nov 11 2026. No macro, syntax, notation, axiom, sorry.
-/
import Derived.Test.YtcjemmihcplgdaaGreatChecked
import GoSem.Claim
import GoSem.ClaimJoined
import GoSem.ClaimMapViews
import Derived.JoinedTies
import Derived.KernelRfl
namespace Go.Proofs.YtcjemmihcplgdaaGreat
/- THE CELL 'sum', in the pinned program and in every row, IS THE sha256 OF THE DUMP (.gsa) THAT YtcjemmihcplgdaaGreatProg.lean LOADS. Nothing in Lean hashes anything: it is a label: what it is worth is what the hold of that sum in a sandbox is worth. -/
noncomputable def Tryz.pinned : Pinned := { name := "ytcjemmihcplgdaagreat", sum := "f03596079157acc220bd2c4d86c6c87ad0127926529c7baf236ed6ca05c657eb", checked := Tryz.checked }
namespace Rows
def none {H : Type} : Left H := { results := [], args := [] }

/-- 'makeweightlaw09.DivideMakes': WHATEVER THE INPUT: true; the input reads as it did. -/
def divideMakesSpec : ChangeSpec := { name := "divideMakes", fn := fun _ => fun
  | [d1, d2] => { results := [.lit (.bool true)], args := [d1, d2] }
  | _ => none }
def divideMakesRow : OpenClaim := { program := "ytcjemmihcplgdaagreat", sum := "f03596079157acc220bd2c4d86c6c87ad0127926529c7baf236ed6ca05c657eb", func := "makeweight/makeweightlaw09.DivideMakes", spec := "divideMakes", unfollowed := true, recurses := true, plainKeys := false, apart := false }
def DivideMakesSaid : Prop := divideMakesRow.holds Tryz.pinned (OpenSpec.ofChange divideMakesSpec)

/-- ITS FALSE NEIGHBOUR: 'it returns false'. Refute it at one input. -/
def divideMakesWrong : ChangeSpec := { name := "divideMakes", fn := fun _ => fun
  | [d1, d2] => { results := [.lit (.bool false)], args := [d1, d2] }
  | _ => none }
def DivideMakesWrongFalsely : Prop := divideMakesRow.holds Tryz.pinned (OpenSpec.ofChange divideMakesWrong)

/-- 'makeweightlaw09.DivideFits': WHATEVER THE INPUT: true; the input reads as it did. -/
def divideFitsSpec : ChangeSpec := { name := "divideFits", fn := fun _ => fun
  | [d1, d2, d3] => { results := [.lit (.bool true)], args := [d1, d2, d3] }
  | _ => none }
def divideFitsRow : OpenClaim := { program := "ytcjemmihcplgdaagreat", sum := "f03596079157acc220bd2c4d86c6c87ad0127926529c7baf236ed6ca05c657eb", func := "makeweight/makeweightlaw09.DivideFits", spec := "divideFits", unfollowed := true, recurses := true, plainKeys := false, apart := false }
def DivideFitsSaid : Prop := divideFitsRow.holds Tryz.pinned (OpenSpec.ofChange divideFitsSpec)

/-- ITS FALSE NEIGHBOUR: 'it returns false'. Refute it at one input. -/
def divideFitsWrong : ChangeSpec := { name := "divideFits", fn := fun _ => fun
  | [d1, d2, d3] => { results := [.lit (.bool false)], args := [d1, d2, d3] }
  | _ => none }
def DivideFitsWrongFalsely : Prop := divideFitsRow.holds Tryz.pinned (OpenSpec.ofChange divideFitsWrong)

/-- 'makeweightlaw09.DivideOther': WHATEVER THE INPUT: true; the input reads as it did. -/
def divideOtherSpec : ChangeSpec := { name := "divideOther", fn := fun _ => fun
  | [d1, d2] => { results := [.lit (.bool true)], args := [d1, d2] }
  | _ => none }
def divideOtherRow : OpenClaim := { program := "ytcjemmihcplgdaagreat", sum := "f03596079157acc220bd2c4d86c6c87ad0127926529c7baf236ed6ca05c657eb", func := "makeweight/makeweightlaw09.DivideOther", spec := "divideOther", unfollowed := true, recurses := true, plainKeys := false, apart := false }
def DivideOtherSaid : Prop := divideOtherRow.holds Tryz.pinned (OpenSpec.ofChange divideOtherSpec)

/-- ITS FALSE NEIGHBOUR: 'it returns false'. Refute it at one input. -/
def divideOtherWrong : ChangeSpec := { name := "divideOther", fn := fun _ => fun
  | [d1, d2] => { results := [.lit (.bool false)], args := [d1, d2] }
  | _ => none }
def DivideOtherWrongFalsely : Prop := divideOtherRow.holds Tryz.pinned (OpenSpec.ofChange divideOtherWrong)

/-- 'makeweightlaw09.DivideRight': WHATEVER THE INPUT: true; the input reads as it did. -/
def divideRightSpec : ChangeSpec := { name := "divideRight", fn := fun _ => fun
  | [d1, d2, d3] => { results := [.lit (.bool true)], args := [d1, d2, d3] }
  | _ => none }
def divideRightRow : OpenClaim := { program := "ytcjemmihcplgdaagreat", sum := "f03596079157acc220bd2c4d86c6c87ad0127926529c7baf236ed6ca05c657eb", func := "makeweight/makeweightlaw09.DivideRight", spec := "divideRight", unfollowed := true, recurses := true, plainKeys := false, apart := false }
def DivideRightSaid : Prop := divideRightRow.holds Tryz.pinned (OpenSpec.ofChange divideRightSpec)

/-- ITS FALSE NEIGHBOUR: 'it returns false'. Refute it at one input. -/
def divideRightWrong : ChangeSpec := { name := "divideRight", fn := fun _ => fun
  | [d1, d2, d3] => { results := [.lit (.bool false)], args := [d1, d2, d3] }
  | _ => none }
def DivideRightWrongFalsely : Prop := divideRightRow.holds Tryz.pinned (OpenSpec.ofChange divideRightWrong)

/-- 'makeweightlaw09.DivideOwn': WHATEVER THE INPUT: true; the input reads as it did. -/
def divideOwnSpec : ChangeSpec := { name := "divideOwn", fn := fun _ => fun
  | [d1, d2, d3] => { results := [.lit (.bool true)], args := [d1, d2, d3] }
  | _ => none }
def divideOwnRow : OpenClaim := { program := "ytcjemmihcplgdaagreat", sum := "f03596079157acc220bd2c4d86c6c87ad0127926529c7baf236ed6ca05c657eb", func := "makeweight/makeweightlaw09.DivideOwn", spec := "divideOwn", unfollowed := true, recurses := true, plainKeys := false, apart := false }
def DivideOwnSaid : Prop := divideOwnRow.holds Tryz.pinned (OpenSpec.ofChange divideOwnSpec)

/-- ITS FALSE NEIGHBOUR: 'it returns false'. Refute it at one input. -/
def divideOwnWrong : ChangeSpec := { name := "divideOwn", fn := fun _ => fun
  | [d1, d2, d3] => { results := [.lit (.bool false)], args := [d1, d2, d3] }
  | _ => none }
def DivideOwnWrongFalsely : Prop := divideOwnRow.holds Tryz.pinned (OpenSpec.ofChange divideOwnWrong)

/-- 'makeweightlaw09.DivideMeans': WHATEVER THE INPUT: true; the input reads as it did. -/
def divideMeansSpec : ChangeSpec := { name := "divideMeans", fn := fun _ => fun
  | [d1, d2, d3] => { results := [.lit (.bool true)], args := [d1, d2, d3] }
  | _ => none }
def divideMeansRow : OpenClaim := { program := "ytcjemmihcplgdaagreat", sum := "f03596079157acc220bd2c4d86c6c87ad0127926529c7baf236ed6ca05c657eb", func := "makeweight/makeweightlaw09.DivideMeans", spec := "divideMeans", unfollowed := true, recurses := true, plainKeys := false, apart := false }
def DivideMeansSaid : Prop := divideMeansRow.holds Tryz.pinned (OpenSpec.ofChange divideMeansSpec)

/-- ITS FALSE NEIGHBOUR: 'it returns false'. Refute it at one input. -/
def divideMeansWrong : ChangeSpec := { name := "divideMeans", fn := fun _ => fun
  | [d1, d2, d3] => { results := [.lit (.bool false)], args := [d1, d2, d3] }
  | _ => none }
def DivideMeansWrongFalsely : Prop := divideMeansRow.holds Tryz.pinned (OpenSpec.ofChange divideMeansWrong)

/- THE SECOND FORM. 'bulk': how many values and letters a reading holds, each counted each time it is reached (what is shared counts as often as it is met; a slice's spare places count too). A statement '..UptoSaid' is the law's where the arguments, and the package variables that the reading takes, are together of bulk at most 1048576: NARROWER than '..Said'. Prove '..Said' where nothing that the law and all that it calls make is longer than what came in: it says more and counts as full. Else prove '..UptoSaid'. A law counts once. -/
mutual
def uptoBulk {H : Type} : DataW H → Nat
  | .lit (.string bytes) => bytes.length + 1
  | .lit _ => 1
  | .nil => 1
  | .ptr d => uptoBulk d + 1
  | .slice elems spare => uptoBulkAll elems + uptoBulkAll spare + 1
  | .agg parts => uptoBulkAll parts + 1
  | .iface _ d => uptoBulk d + 1
  | .map entries => uptoBulkEntries entries + 1
  | .held _ => 1
def uptoBulkAll {H : Type} : List (DataW H) → Nat
  | [] => 0
  | d :: r => uptoBulk d + uptoBulkAll r
def uptoBulkEntries {H : Type} : List (Lit × DataW H) → Nat
  | [] => 0
  | x :: r => uptoBulkEntry x + uptoBulkEntries r
def uptoBulkEntry {H : Type} : Lit × DataW H → Nat
  | (.string bytes, d) => bytes.length + uptoBulk d + 1
  | (_, d) => uptoBulk d + 1
 end
def uptoSmall : (H : Type) → List (DataW H) → Bool := fun _ ds => decide (uptoBulkAll ds ≤ 1048576)
def OpenSpec.upto (s : _root_.Go.ChangeSpec) : _root_.Go.OpenSpec := { _root_.Go.OpenSpec.ofChange s with cond := some uptoSmall }

/-- 'makeweightlaw09.DivideMakes', WHERE WHAT IT READS IS OF BULK AT MOST 1048576: true; the input reads as it did. -/
def divideMakesUptoRow : OpenClaim := { program := "ytcjemmihcplgdaagreat", sum := "f03596079157acc220bd2c4d86c6c87ad0127926529c7baf236ed6ca05c657eb", func := "makeweight/makeweightlaw09.DivideMakes", spec := "divideMakes", unfollowed := true, recurses := true, plainKeys := false, apart := false, narrowed := true }
def DivideMakesUptoSaid : Prop := divideMakesUptoRow.holds Tryz.pinned (OpenSpec.upto divideMakesSpec)

/-- 'makeweightlaw09.DivideFits', WHERE WHAT IT READS IS OF BULK AT MOST 1048576: true; the input reads as it did. -/
def divideFitsUptoRow : OpenClaim := { program := "ytcjemmihcplgdaagreat", sum := "f03596079157acc220bd2c4d86c6c87ad0127926529c7baf236ed6ca05c657eb", func := "makeweight/makeweightlaw09.DivideFits", spec := "divideFits", unfollowed := true, recurses := true, plainKeys := false, apart := false, narrowed := true }
def DivideFitsUptoSaid : Prop := divideFitsUptoRow.holds Tryz.pinned (OpenSpec.upto divideFitsSpec)

/-- 'makeweightlaw09.DivideOther', WHERE WHAT IT READS IS OF BULK AT MOST 1048576: true; the input reads as it did. -/
def divideOtherUptoRow : OpenClaim := { program := "ytcjemmihcplgdaagreat", sum := "f03596079157acc220bd2c4d86c6c87ad0127926529c7baf236ed6ca05c657eb", func := "makeweight/makeweightlaw09.DivideOther", spec := "divideOther", unfollowed := true, recurses := true, plainKeys := false, apart := false, narrowed := true }
def DivideOtherUptoSaid : Prop := divideOtherUptoRow.holds Tryz.pinned (OpenSpec.upto divideOtherSpec)

/-- 'makeweightlaw09.DivideRight', WHERE WHAT IT READS IS OF BULK AT MOST 1048576: true; the input reads as it did. -/
def divideRightUptoRow : OpenClaim := { program := "ytcjemmihcplgdaagreat", sum := "f03596079157acc220bd2c4d86c6c87ad0127926529c7baf236ed6ca05c657eb", func := "makeweight/makeweightlaw09.DivideRight", spec := "divideRight", unfollowed := true, recurses := true, plainKeys := false, apart := false, narrowed := true }
def DivideRightUptoSaid : Prop := divideRightUptoRow.holds Tryz.pinned (OpenSpec.upto divideRightSpec)

/-- 'makeweightlaw09.DivideOwn', WHERE WHAT IT READS IS OF BULK AT MOST 1048576: true; the input reads as it did. -/
def divideOwnUptoRow : OpenClaim := { program := "ytcjemmihcplgdaagreat", sum := "f03596079157acc220bd2c4d86c6c87ad0127926529c7baf236ed6ca05c657eb", func := "makeweight/makeweightlaw09.DivideOwn", spec := "divideOwn", unfollowed := true, recurses := true, plainKeys := false, apart := false, narrowed := true }
def DivideOwnUptoSaid : Prop := divideOwnUptoRow.holds Tryz.pinned (OpenSpec.upto divideOwnSpec)

/-- 'makeweightlaw09.DivideMeans', WHERE WHAT IT READS IS OF BULK AT MOST 1048576: true; the input reads as it did. -/
def divideMeansUptoRow : OpenClaim := { program := "ytcjemmihcplgdaagreat", sum := "f03596079157acc220bd2c4d86c6c87ad0127926529c7baf236ed6ca05c657eb", func := "makeweight/makeweightlaw09.DivideMeans", spec := "divideMeans", unfollowed := true, recurses := true, plainKeys := false, apart := false, narrowed := true }
def DivideMeansUptoSaid : Prop := divideMeansUptoRow.holds Tryz.pinned (OpenSpec.upto divideMeansSpec)

end Rows
end Go.Proofs.YtcjemmihcplgdaaGreat
