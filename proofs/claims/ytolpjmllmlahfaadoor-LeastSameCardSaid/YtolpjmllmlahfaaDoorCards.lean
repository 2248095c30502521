/-
  DERIVED. GIVEN WITH THE SEED: THE CARDS: each row of YtolpjmllmlahfaaDoorRows.lean that lists a variable, with what it lists TIED to the program's text (the seventh form; the later family's looks); each row that meets fmt, with fmt's text TOLD by the authors' own Lean function (tested against real Go, not proved from fmt's source: count such statements apart). THE CARD IS WHAT COUNTS. Prove the row's statement (the work); the ties are given (YtolpjmllmlahfaaDoorTie.lean); close each card by the builder's one call (the guide's Derived/Test/ToyasCard.lean, 'card_holds'). Laid BY PROGRAM, IN A SANDBOX (cutbox-door.mjs). By AI agents, Wed Nov 11 2026. No macro, syntax, notation, axiom, sorry.
-/
import Derived.Test.YtolpjmllmlahfaaDoorRows
import GoSem.ClaimSeven
namespace Go.Proofs.YtolpjmllmlahfaaDoor
namespace Rows

/-- THE TIED CARD OF 'makeweightlaw06.LeastFinds'. -/
def leastFindsCard : Claim7 := { stood := { row := leastFindsRow, standIns := [], harness := (true, "67ba1485ad798b89e448a1fe7d81af26fccf6589e6ce5c7ba304a4795016c9e5"), looks := false }, kinds := [], alts := [], laidByText := true, laidKinds := [.data, .data, .data], laidTests := true, laidLooks := .later }
def LeastFindsCardSaid : Prop := Claim7.holds Tryd.pinned (.plain (OpenSpec.ofChange leastFindsSpec)) leastFindsCard

/-- THE TIED CARD OF 'makeweightlaw06.LeastStarts'. -/
def leastStartsCard : Claim7 := { stood := { row := leastStartsRow, standIns := [], harness := (true, "67ba1485ad798b89e448a1fe7d81af26fccf6589e6ce5c7ba304a4795016c9e5"), looks := false }, kinds := [], alts := [], laidByText := true, laidKinds := [.data, .data, .data], laidTests := true, laidLooks := .later }
def LeastStartsCardSaid : Prop := Claim7.holds Tryd.pinned (.plain (OpenSpec.ofChange leastStartsSpec)) leastStartsCard

/-- THE TIED CARD OF 'makeweightlaw06.LeastOwn'. -/
def leastOwnCard : Claim7 := { stood := { row := leastOwnRow, standIns := [], harness := (true, "67ba1485ad798b89e448a1fe7d81af26fccf6589e6ce5c7ba304a4795016c9e5"), looks := false }, kinds := [], alts := [], laidByText := true, laidKinds := [.data, .data, .data], laidTests := true, laidLooks := .later }
def LeastOwnCardSaid : Prop := Claim7.holds Tryd.pinned (.plain (OpenSpec.ofChange leastOwnSpec)) leastOwnCard

/-- THE TIED CARD OF 'makeweightlaw06.LeastUnique'. -/
def leastUniqueCard : Claim7 := { stood := { row := leastUniqueRow, standIns := [], harness := (true, "67ba1485ad798b89e448a1fe7d81af26fccf6589e6ce5c7ba304a4795016c9e5"), looks := false }, kinds := [], alts := [], laidByText := true, laidKinds := [.data, .data, .data], laidTests := true, laidLooks := .later }
def LeastUniqueCardSaid : Prop := Claim7.holds Tryd.pinned (.plain (OpenSpec.ofChange leastUniqueSpec)) leastUniqueCard

/-- THE TIED CARD OF 'makeweightlaw06.LeastSame'. -/
def leastSameCard : Claim7 := { stood := { row := leastSameRow, standIns := [], harness := (true, "67ba1485ad798b89e448a1fe7d81af26fccf6589e6ce5c7ba304a4795016c9e5"), looks := false }, kinds := [], alts := [], laidByText := true, laidKinds := [.data, .data, .data], laidTests := true, laidLooks := .later }
def LeastSameCardSaid : Prop := Claim7.holds Tryd.pinned (.plain (OpenSpec.ofChange leastSameSpec)) leastSameCard

/-- THE SECOND FORM's CARD OF 'makeweightlaw06.LeastFinds'. -/
def leastFindsUptoCard : Claim7 := { stood := { row := leastFindsUptoRow, standIns := [], harness := (true, "67ba1485ad798b89e448a1fe7d81af26fccf6589e6ce5c7ba304a4795016c9e5"), looks := false }, kinds := [], alts := [], laidByText := true, laidKinds := [.data, .data, .data], laidTests := true, laidLooks := .later }
def LeastFindsUptoCardSaid : Prop := Claim7.holds Tryd.pinned (.plain (OpenSpec.upto leastFindsSpec)) leastFindsUptoCard

/-- THE SECOND FORM's CARD OF 'makeweightlaw06.LeastStarts'. -/
def leastStartsUptoCard : Claim7 := { stood := { row := leastStartsUptoRow, standIns := [], harness := (true, "67ba1485ad798b89e448a1fe7d81af26fccf6589e6ce5c7ba304a4795016c9e5"), looks := false }, kinds := [], alts := [], laidByText := true, laidKinds := [.data, .data, .data], laidTests := true, laidLooks := .later }
def LeastStartsUptoCardSaid : Prop := Claim7.holds Tryd.pinned (.plain (OpenSpec.upto leastStartsSpec)) leastStartsUptoCard

/-- THE SECOND FORM's CARD OF 'makeweightlaw06.LeastOwn'. -/
def leastOwnUptoCard : Claim7 := { stood := { row := leastOwnUptoRow, standIns := [], harness := (true, "67ba1485ad798b89e448a1fe7d81af26fccf6589e6ce5c7ba304a4795016c9e5"), looks := false }, kinds := [], alts := [], laidByText := true, laidKinds := [.data, .data, .data], laidTests := true, laidLooks := .later }
def LeastOwnUptoCardSaid : Prop := Claim7.holds Tryd.pinned (.plain (OpenSpec.upto leastOwnSpec)) leastOwnUptoCard

/-- THE SECOND FORM's CARD OF 'makeweightlaw06.LeastUnique'. -/
def leastUniqueUptoCard : Claim7 := { stood := { row := leastUniqueUptoRow, standIns := [], harness := (true, "67ba1485ad798b89e448a1fe7d81af26fccf6589e6ce5c7ba304a4795016c9e5"), looks := false }, kinds := [], alts := [], laidByText := true, laidKinds := [.data, .data, .data], laidTests := true, laidLooks := .later }
def LeastUniqueUptoCardSaid : Prop := Claim7.holds Tryd.pinned (.plain (OpenSpec.upto leastUniqueSpec)) leastUniqueUptoCard

/-- THE SECOND FORM's CARD OF 'makeweightlaw06.LeastSame'. -/
def leastSameUptoCard : Claim7 := { stood := { row := leastSameUptoRow, standIns := [], harness := (true, "67ba1485ad798b89e448a1fe7d81af26fccf6589e6ce5c7ba304a4795016c9e5"), looks := false }, kinds := [], alts := [], laidByText := true, laidKinds := [.data, .data, .data], laidTests := true, laidLooks := .later }
def LeastSameUptoCardSaid : Prop := Claim7.holds Tryd.pinned (.plain (OpenSpec.upto leastSameSpec)) leastSameUptoCard
end Rows
end Go.Proofs.YtolpjmllmlahfaaDoor
