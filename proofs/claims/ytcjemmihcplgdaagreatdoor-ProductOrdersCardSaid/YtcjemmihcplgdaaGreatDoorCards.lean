/-
  DERIVED. GIVEN WITH THE SEED: THE CARDS: each row of YtcjemmihcplgdaaGreatDoorRows.lean that lists a variable, with what it lists TIED to the program's text (the seventh form; the later family's looks); each row that meets fmt, with fmt's text TOLD by the authors' own Lean function (tested against real Go, not proved from fmt's source: count such statements apart). THE CARD IS WHAT COUNTS. Prove the row's statement (the work); the ties are given (YtcjemmihcplgdaaGreatDoorTie.lean); close each card by the builder's one call (the guide's Derived/Test/ToyasCard.lean, 'card_holds'). Laid BY PROGRAM, IN A SANDBOX (cutbox-door.mjs). By AI agents, Wed Nov 11 2026. No macro, syntax, notation, axiom, sorry.
-/
import Derived.Test.YtcjemmihcplgdaaGreatDoorRows
import GoSem.ClaimSeven
namespace Go.Proofs.YtcjemmihcplgdaaGreatDoor
namespace Rows

/-- THE TIED CARD OF 'makeweightlaw08.ProductMakes'. -/
def productMakesCard : Claim7 := { stood := { row := productMakesRow, standIns := [], harness := (true, "84534473cdde0873518c4e87d44c0a9d7510ec21752ac60d82c7b750f414ae91"), looks := false }, kinds := [], alts := [], laidByText := true, laidKinds := [.data, .data, .data], laidTests := true, laidLooks := .later }
def ProductMakesCardSaid : Prop := Claim7.holds Tryz.pinned (.plain (OpenSpec.ofChange productMakesSpec)) productMakesCard

/-- THE TIED CARD OF 'makeweightlaw08.ProductParts'. -/
def productPartsCard : Claim7 := { stood := { row := productPartsRow, standIns := [], harness := (true, "84534473cdde0873518c4e87d44c0a9d7510ec21752ac60d82c7b750f414ae91"), looks := false }, kinds := [], alts := [], laidByText := true, laidKinds := [.data, .data, .data], laidTests := true, laidLooks := .later }
def ProductPartsCardSaid : Prop := Claim7.holds Tryz.pinned (.plain (OpenSpec.ofChange productPartsSpec)) productPartsCard

/-- THE TIED CARD OF 'makeweightlaw08.ProductSeveral'. -/
def productSeveralCard : Claim7 := { stood := { row := productSeveralRow, standIns := [], harness := (true, "84534473cdde0873518c4e87d44c0a9d7510ec21752ac60d82c7b750f414ae91"), looks := false }, kinds := [], alts := [], laidByText := true, laidKinds := [.data, .data, .data], laidTests := true, laidLooks := .later }
def ProductSeveralCardSaid : Prop := Claim7.holds Tryz.pinned (.plain (OpenSpec.ofChange productSeveralSpec)) productSeveralCard

/-- THE TIED CARD OF 'makeweightlaw08.ProductBeside'. -/
def productBesideCard : Claim7 := { stood := { row := productBesideRow, standIns := [], harness := (true, "84534473cdde0873518c4e87d44c0a9d7510ec21752ac60d82c7b750f414ae91"), looks := false }, kinds := [], alts := [], laidByText := true, laidKinds := [.data, .data, .data], laidTests := true, laidLooks := .later }
def ProductBesideCardSaid : Prop := Claim7.holds Tryz.pinned (.plain (OpenSpec.ofChange productBesideSpec)) productBesideCard

/-- THE TIED CARD OF 'makeweightlaw08.ProductOwn'. -/
def productOwnCard : Claim7 := { stood := { row := productOwnRow, standIns := [], harness := (true, "84534473cdde0873518c4e87d44c0a9d7510ec21752ac60d82c7b750f414ae91"), looks := false }, kinds := [], alts := [], laidByText := true, laidKinds := [.data, .data, .data], laidTests := true, laidLooks := .later }
def ProductOwnCardSaid : Prop := Claim7.holds Tryz.pinned (.plain (OpenSpec.ofChange productOwnSpec)) productOwnCard

/-- THE TIED CARD OF 'makeweightlaw08.ProductSatisfied'. -/
def productSatisfiedCard : Claim7 := { stood := { row := productSatisfiedRow, standIns := [], harness := (true, "84534473cdde0873518c4e87d44c0a9d7510ec21752ac60d82c7b750f414ae91"), looks := false }, kinds := [], alts := [], laidByText := true, laidKinds := [.data, .data, .data], laidTests := true, laidLooks := .later }
def ProductSatisfiedCardSaid : Prop := Claim7.holds Tryz.pinned (.plain (OpenSpec.ofChange productSatisfiedSpec)) productSatisfiedCard

/-- THE TIED CARD OF 'makeweightlaw09.DivideAdjoins'. -/
def divideAdjoinsCard : Claim7 := { stood := { row := divideAdjoinsRow, standIns := [], harness := (true, "84534473cdde0873518c4e87d44c0a9d7510ec21752ac60d82c7b750f414ae91"), looks := false }, kinds := [], alts := [], laidByText := true, laidKinds := [.data, .data, .data], laidTests := true, laidLooks := .later }
def DivideAdjoinsCardSaid : Prop := Claim7.holds Tryz.pinned (.plain (OpenSpec.ofChange divideAdjoinsSpec)) divideAdjoinsCard

/-- THE TIED CARD OF 'makeweightlaw08.ProductOrders'. -/
def productOrdersCard : Claim7 := { stood := { row := productOrdersRow, standIns := [], harness := (true, "84534473cdde0873518c4e87d44c0a9d7510ec21752ac60d82c7b750f414ae91"), looks := false }, kinds := [], alts := [], laidByText := true, laidKinds := [.data, .data, .data], laidTests := true, laidLooks := .later }
def ProductOrdersCardSaid : Prop := Claim7.holds Tryz.pinned (.plain (OpenSpec.ofChange productOrdersSpec)) productOrdersCard

/-- THE SECOND FORM's CARD OF 'makeweightlaw08.ProductMakes'. -/
def productMakesUptoCard : Claim7 := { stood := { row := productMakesUptoRow, standIns := [], harness := (true, "84534473cdde0873518c4e87d44c0a9d7510ec21752ac60d82c7b750f414ae91"), looks := false }, kinds := [], alts := [], laidByText := true, laidKinds := [.data, .data, .data], laidTests := true, laidLooks := .later }
def ProductMakesUptoCardSaid : Prop := Claim7.holds Tryz.pinned (.plain (OpenSpec.upto productMakesSpec)) productMakesUptoCard

/-- THE SECOND FORM's CARD OF 'makeweightlaw08.ProductParts'. -/
def productPartsUptoCard : Claim7 := { stood := { row := productPartsUptoRow, standIns := [], harness := (true, "84534473cdde0873518c4e87d44c0a9d7510ec21752ac60d82c7b750f414ae91"), looks := false }, kinds := [], alts := [], laidByText := true, laidKinds := [.data, .data, .data], laidTests := true, laidLooks := .later }
def ProductPartsUptoCardSaid : Prop := Claim7.holds Tryz.pinned (.plain (OpenSpec.upto productPartsSpec)) productPartsUptoCard

/-- THE SECOND FORM's CARD OF 'makeweightlaw08.ProductSeveral'. -/
def productSeveralUptoCard : Claim7 := { stood := { row := productSeveralUptoRow, standIns := [], harness := (true, "84534473cdde0873518c4e87d44c0a9d7510ec21752ac60d82c7b750f414ae91"), looks := false }, kinds := [], alts := [], laidByText := true, laidKinds := [.data, .data, .data], laidTests := true, laidLooks := .later }
def ProductSeveralUptoCardSaid : Prop := Claim7.holds Tryz.pinned (.plain (OpenSpec.upto productSeveralSpec)) productSeveralUptoCard

/-- THE SECOND FORM's CARD OF 'makeweightlaw08.ProductBeside'. -/
def productBesideUptoCard : Claim7 := { stood := { row := productBesideUptoRow, standIns := [], harness := (true, "84534473cdde0873518c4e87d44c0a9d7510ec21752ac60d82c7b750f414ae91"), looks := false }, kinds := [], alts := [], laidByText := true, laidKinds := [.data, .data, .data], laidTests := true, laidLooks := .later }
def ProductBesideUptoCardSaid : Prop := Claim7.holds Tryz.pinned (.plain (OpenSpec.upto productBesideSpec)) productBesideUptoCard

/-- THE SECOND FORM's CARD OF 'makeweightlaw08.ProductOwn'. -/
def productOwnUptoCard : Claim7 := { stood := { row := productOwnUptoRow, standIns := [], harness := (true, "84534473cdde0873518c4e87d44c0a9d7510ec21752ac60d82c7b750f414ae91"), looks := false }, kinds := [], alts := [], laidByText := true, laidKinds := [.data, .data, .data], laidTests := true, laidLooks := .later }
def ProductOwnUptoCardSaid : Prop := Claim7.holds Tryz.pinned (.plain (OpenSpec.upto productOwnSpec)) productOwnUptoCard

/-- THE SECOND FORM's CARD OF 'makeweightlaw08.ProductSatisfied'. -/
def productSatisfiedUptoCard : Claim7 := { stood := { row := productSatisfiedUptoRow, standIns := [], harness := (true, "84534473cdde0873518c4e87d44c0a9d7510ec21752ac60d82c7b750f414ae91"), looks := false }, kinds := [], alts := [], laidByText := true, laidKinds := [.data, .data, .data], laidTests := true, laidLooks := .later }
def ProductSatisfiedUptoCardSaid : Prop := Claim7.holds Tryz.pinned (.plain (OpenSpec.upto productSatisfiedSpec)) productSatisfiedUptoCard

/-- THE SECOND FORM's CARD OF 'makeweightlaw09.DivideAdjoins'. -/
def divideAdjoinsUptoCard : Claim7 := { stood := { row := divideAdjoinsUptoRow, standIns := [], harness := (true, "84534473cdde0873518c4e87d44c0a9d7510ec21752ac60d82c7b750f414ae91"), looks := false }, kinds := [], alts := [], laidByText := true, laidKinds := [.data, .data, .data], laidTests := true, laidLooks := .later }
def DivideAdjoinsUptoCardSaid : Prop := Claim7.holds Tryz.pinned (.plain (OpenSpec.upto divideAdjoinsSpec)) divideAdjoinsUptoCard

/-- THE SECOND FORM's CARD OF 'makeweightlaw08.ProductOrders'. -/
def productOrdersUptoCard : Claim7 := { stood := { row := productOrdersUptoRow, standIns := [], harness := (true, "84534473cdde0873518c4e87d44c0a9d7510ec21752ac60d82c7b750f414ae91"), looks := false }, kinds := [], alts := [], laidByText := true, laidKinds := [.data, .data, .data], laidTests := true, laidLooks := .later }
def ProductOrdersUptoCardSaid : Prop := Claim7.holds Tryz.pinned (.plain (OpenSpec.upto productOrdersSpec)) productOrdersUptoCard
end Rows
end Go.Proofs.YtcjemmihcplgdaaGreatDoor
