/-
  DERIVED. GIVEN WITH THE SEED: THE CARDS: each row of YtnlfjojfgghchaaGreatDoorRows.lean that lists a variable, with what it lists TIED to the program's text (the seventh form; the later family's looks); each row that meets fmt, with fmt's text TOLD by the authors' own Lean function (tested against real Go, not proved from fmt's source: count such statements apart). THE CARD IS WHAT COUNTS. Prove the row's statement (the work); the ties are given (YtnlfjojfgghchaaGreatDoorTie.lean); close each card by the builder's one call (the guide's Derived/Test/ToyasCard.lean, 'card_holds'). Laid BY PROGRAM, IN A SANDBOX (cutbox-door.mjs). By AI agents, Wed Nov 11 2026. No macro, syntax, notation, axiom, sorry.
-/
import Derived.Test.YtnlfjojfgghchaaGreatDoorRows
import GoSem.ClaimSeven
namespace Go.Proofs.YtnlfjojfgghchaaGreatDoor
namespace Rows

/-- THE TIED CARD OF 'makeweightlaw18.MakeGuards'. -/
def makeGuardsCard : Claim7 := { stood := { row := makeGuardsRow, standIns := [], harness := (true, "03266252fa2c15fbe9c1cbe4f7add887d2e0cbdfc2343e4f22eebb66909e24ae"), looks := false }, kinds := [], alts := [], laidByText := true, laidKinds := [.data, .data, .data], laidTests := true, laidLooks := .later }
def MakeGuardsCardSaid : Prop := Claim7.holds Tryz.pinned (.plain (OpenSpec.ofChange makeGuardsSpec)) makeGuardsCard

/-- THE TIED CARD OF 'makeweightlaw18.MakeControls'. -/
def makeControlsCard : Claim7 := { stood := { row := makeControlsRow, standIns := [], harness := (true, "03266252fa2c15fbe9c1cbe4f7add887d2e0cbdfc2343e4f22eebb66909e24ae"), looks := false }, kinds := [], alts := [], laidByText := true, laidKinds := [.data, .data, .data], laidTests := true, laidLooks := .later }
def MakeControlsCardSaid : Prop := Claim7.holds Tryz.pinned (.plain (OpenSpec.ofChange makeControlsSpec)) makeControlsCard

/-- THE TIED CARD OF 'makeweightlaw18.MakeRight'. -/
def makeRightCard : Claim7 := { stood := { row := makeRightRow, standIns := [], harness := (true, "03266252fa2c15fbe9c1cbe4f7add887d2e0cbdfc2343e4f22eebb66909e24ae"), looks := false }, kinds := [], alts := [], laidByText := true, laidKinds := [.data, .data, .data], laidTests := true, laidLooks := .later }
def MakeRightCardSaid : Prop := Claim7.holds Tryz.pinned (.plain (OpenSpec.ofChange makeRightSpec)) makeRightCard

/-- THE TIED CARD OF 'makeweightlaw18.MakeKeeping'. -/
def makeKeepingCard : Claim7 := { stood := { row := makeKeepingRow, standIns := [], harness := (true, "03266252fa2c15fbe9c1cbe4f7add887d2e0cbdfc2343e4f22eebb66909e24ae"), looks := false }, kinds := [], alts := [], laidByText := true, laidKinds := [.data, .data, .data], laidTests := true, laidLooks := .later }
def MakeKeepingCardSaid : Prop := Claim7.holds Tryz.pinned (.plain (OpenSpec.ofChange makeKeepingSpec)) makeKeepingCard

/-- THE TIED CARD OF 'makeweightlaw18.MakeSmall'. -/
def makeSmallCard : Claim7 := { stood := { row := makeSmallRow, standIns := [], harness := (true, "03266252fa2c15fbe9c1cbe4f7add887d2e0cbdfc2343e4f22eebb66909e24ae"), looks := false }, kinds := [], alts := [], laidByText := true, laidKinds := [.data, .data, .data], laidTests := true, laidLooks := .later }
def MakeSmallCardSaid : Prop := Claim7.holds Tryz.pinned (.plain (OpenSpec.ofChange makeSmallSpec)) makeSmallCard

/-- THE TIED CARD OF 'makeweightlaw18.MakeParts'. -/
def makePartsCard : Claim7 := { stood := { row := makePartsRow, standIns := [], harness := (true, "03266252fa2c15fbe9c1cbe4f7add887d2e0cbdfc2343e4f22eebb66909e24ae"), looks := false }, kinds := [], alts := [], laidByText := true, laidKinds := [.data, .data, .data], laidTests := true, laidLooks := .later }
def MakePartsCardSaid : Prop := Claim7.holds Tryz.pinned (.plain (OpenSpec.ofChange makePartsSpec)) makePartsCard

/-- THE TIED CARD OF 'makeweightlaw18.MakeOwn'. -/
def makeOwnCard : Claim7 := { stood := { row := makeOwnRow, standIns := [], harness := (true, "03266252fa2c15fbe9c1cbe4f7add887d2e0cbdfc2343e4f22eebb66909e24ae"), looks := false }, kinds := [], alts := [], laidByText := true, laidKinds := [.data, .data, .data], laidTests := true, laidLooks := .later }
def MakeOwnCardSaid : Prop := Claim7.holds Tryz.pinned (.plain (OpenSpec.ofChange makeOwnSpec)) makeOwnCard

/-- THE TIED CARD OF 'makeweightlaw18.MakeMeans'. -/
def makeMeansCard : Claim7 := { stood := { row := makeMeansRow, standIns := [], harness := (true, "03266252fa2c15fbe9c1cbe4f7add887d2e0cbdfc2343e4f22eebb66909e24ae"), looks := false }, kinds := [], alts := [], laidByText := true, laidKinds := [.data, .data, .data], laidTests := true, laidLooks := .later }
def MakeMeansCardSaid : Prop := Claim7.holds Tryz.pinned (.plain (OpenSpec.ofChange makeMeansSpec)) makeMeansCard

/-- THE SECOND FORM's CARD OF 'makeweightlaw18.MakeGuards'. -/
def makeGuardsUptoCard : Claim7 := { stood := { row := makeGuardsUptoRow, standIns := [], harness := (true, "03266252fa2c15fbe9c1cbe4f7add887d2e0cbdfc2343e4f22eebb66909e24ae"), looks := false }, kinds := [], alts := [], laidByText := true, laidKinds := [.data, .data, .data], laidTests := true, laidLooks := .later }
def MakeGuardsUptoCardSaid : Prop := Claim7.holds Tryz.pinned (.plain (OpenSpec.upto makeGuardsSpec)) makeGuardsUptoCard

/-- THE SECOND FORM's CARD OF 'makeweightlaw18.MakeControls'. -/
def makeControlsUptoCard : Claim7 := { stood := { row := makeControlsUptoRow, standIns := [], harness := (true, "03266252fa2c15fbe9c1cbe4f7add887d2e0cbdfc2343e4f22eebb66909e24ae"), looks := false }, kinds := [], alts := [], laidByText := true, laidKinds := [.data, .data, .data], laidTests := true, laidLooks := .later }
def MakeControlsUptoCardSaid : Prop := Claim7.holds Tryz.pinned (.plain (OpenSpec.upto makeControlsSpec)) makeControlsUptoCard

/-- THE SECOND FORM's CARD OF 'makeweightlaw18.MakeRight'. -/
def makeRightUptoCard : Claim7 := { stood := { row := makeRightUptoRow, standIns := [], harness := (true, "03266252fa2c15fbe9c1cbe4f7add887d2e0cbdfc2343e4f22eebb66909e24ae"), looks := false }, kinds := [], alts := [], laidByText := true, laidKinds := [.data, .data, .data], laidTests := true, laidLooks := .later }
def MakeRightUptoCardSaid : Prop := Claim7.holds Tryz.pinned (.plain (OpenSpec.upto makeRightSpec)) makeRightUptoCard

/-- THE SECOND FORM's CARD OF 'makeweightlaw18.MakeKeeping'. -/
def makeKeepingUptoCard : Claim7 := { stood := { row := makeKeepingUptoRow, standIns := [], harness := (true, "03266252fa2c15fbe9c1cbe4f7add887d2e0cbdfc2343e4f22eebb66909e24ae"), looks := false }, kinds := [], alts := [], laidByText := true, laidKinds := [.data, .data, .data], laidTests := true, laidLooks := .later }
def MakeKeepingUptoCardSaid : Prop := Claim7.holds Tryz.pinned (.plain (OpenSpec.upto makeKeepingSpec)) makeKeepingUptoCard

/-- THE SECOND FORM's CARD OF 'makeweightlaw18.MakeSmall'. -/
def makeSmallUptoCard : Claim7 := { stood := { row := makeSmallUptoRow, standIns := [], harness := (true, "03266252fa2c15fbe9c1cbe4f7add887d2e0cbdfc2343e4f22eebb66909e24ae"), looks := false }, kinds := [], alts := [], laidByText := true, laidKinds := [.data, .data, .data], laidTests := true, laidLooks := .later }
def MakeSmallUptoCardSaid : Prop := Claim7.holds Tryz.pinned (.plain (OpenSpec.upto makeSmallSpec)) makeSmallUptoCard

/-- THE SECOND FORM's CARD OF 'makeweightlaw18.MakeParts'. -/
def makePartsUptoCard : Claim7 := { stood := { row := makePartsUptoRow, standIns := [], harness := (true, "03266252fa2c15fbe9c1cbe4f7add887d2e0cbdfc2343e4f22eebb66909e24ae"), looks := false }, kinds := [], alts := [], laidByText := true, laidKinds := [.data, .data, .data], laidTests := true, laidLooks := .later }
def MakePartsUptoCardSaid : Prop := Claim7.holds Tryz.pinned (.plain (OpenSpec.upto makePartsSpec)) makePartsUptoCard

/-- THE SECOND FORM's CARD OF 'makeweightlaw18.MakeOwn'. -/
def makeOwnUptoCard : Claim7 := { stood := { row := makeOwnUptoRow, standIns := [], harness := (true, "03266252fa2c15fbe9c1cbe4f7add887d2e0cbdfc2343e4f22eebb66909e24ae"), looks := false }, kinds := [], alts := [], laidByText := true, laidKinds := [.data, .data, .data], laidTests := true, laidLooks := .later }
def MakeOwnUptoCardSaid : Prop := Claim7.holds Tryz.pinned (.plain (OpenSpec.upto makeOwnSpec)) makeOwnUptoCard

/-- THE SECOND FORM's CARD OF 'makeweightlaw18.MakeMeans'. -/
def makeMeansUptoCard : Claim7 := { stood := { row := makeMeansUptoRow, standIns := [], harness := (true, "03266252fa2c15fbe9c1cbe4f7add887d2e0cbdfc2343e4f22eebb66909e24ae"), looks := false }, kinds := [], alts := [], laidByText := true, laidKinds := [.data, .data, .data], laidTests := true, laidLooks := .later }
def MakeMeansUptoCardSaid : Prop := Claim7.holds Tryz.pinned (.plain (OpenSpec.upto makeMeansSpec)) makeMeansUptoCard
end Rows
end Go.Proofs.YtnlfjojfgghchaaGreatDoor
