/-
  DERIVED. GIVEN WITH THE SEED: THE CARDS: each row of YtfbkkcigkpffiaaDoorRows.lean that lists a variable, with what it lists TIED to the program's text (the seventh form; the later family's looks); each row that meets fmt, with fmt's text TOLD by the authors' own Lean function (tested against real Go, not proved from fmt's source: count such statements apart). THE CARD IS WHAT COUNTS. Prove the row's statement (the work); the ties are given (YtfbkkcigkpffiaaDoorTie.lean); close each card by the builder's one call (the guide's Derived/Test/ToyasCard.lean, 'card_holds'). Laid BY PROGRAM, IN A SANDBOX (cutbox-door.mjs). By AI agents, Wed Nov 11 2026. No macro, syntax, notation, axiom, sorry.
-/
import Derived.Test.YtfbkkcigkpffiaaDoorRows
import GoSem.ClaimSeven
namespace Go.Proofs.YtfbkkcigkpffiaaDoor
namespace Rows

/-- THE TIED CARD OF 'satchellaw4.StoreFull'. -/
def storeFullCard : Claim7 := { stood := { row := storeFullRow, standIns := [], harness := (true, "bb765f17dce10fab5a8ea9b053da575994e54fc4bddbec72d9eecb98d9324e60"), looks := true }, kinds := [], alts := [], laidByText := true, laidKinds := [.data, .data, .data], laidTests := true, laidLooks := .later }
def StoreFullCardSaid : Prop := Claim7.holds Tryd.pinned (.plain (OpenSpec.ofChange storeFullSpec)) storeFullCard

/-- THE TIED CARD OF 'satchellaw4.StoreMany'. -/
def storeManyCard : Claim7 := { stood := { row := storeManyRow, standIns := [], harness := (true, "bb765f17dce10fab5a8ea9b053da575994e54fc4bddbec72d9eecb98d9324e60"), looks := true }, kinds := [], alts := [], laidByText := true, laidKinds := [.data, .data, .data], laidTests := true, laidLooks := .later }
def StoreManyCardSaid : Prop := Claim7.holds Tryd.pinned (.plain (OpenSpec.ofChange storeManySpec)) storeManyCard

/-- THE TIED CARD OF 'satchellaw4.StoreCopies'. -/
def storeCopiesCard : Claim7 := { stood := { row := storeCopiesRow, standIns := [], harness := (true, "bb765f17dce10fab5a8ea9b053da575994e54fc4bddbec72d9eecb98d9324e60"), looks := true }, kinds := [], alts := [], laidByText := true, laidKinds := [.data, .data, .data], laidTests := true, laidLooks := .later }
def StoreCopiesCardSaid : Prop := Claim7.holds Tryd.pinned (.plain (OpenSpec.ofChange storeCopiesSpec)) storeCopiesCard

/-- THE TIED CARD OF 'satchellaw4.StoreNested'. -/
def storeNestedCard : Claim7 := { stood := { row := storeNestedRow, standIns := [], harness := (true, "bb765f17dce10fab5a8ea9b053da575994e54fc4bddbec72d9eecb98d9324e60"), looks := true }, kinds := [], alts := [], laidByText := true, laidKinds := [.data, .data, .data], laidTests := true, laidLooks := .later }
def StoreNestedCardSaid : Prop := Claim7.holds Tryd.pinned (.plain (OpenSpec.ofChange storeNestedSpec)) storeNestedCard

/-- THE TIED CARD OF 'satchellaw4.StoreWalked'. -/
def storeWalkedCard : Claim7 := { stood := { row := storeWalkedRow, standIns := [], harness := (true, "bb765f17dce10fab5a8ea9b053da575994e54fc4bddbec72d9eecb98d9324e60"), looks := true }, kinds := [], alts := [], laidByText := true, laidKinds := [.data, .data, .data], laidTests := true, laidLooks := .later }
def StoreWalkedCardSaid : Prop := Claim7.holds Tryd.pinned (.plain (OpenSpec.ofChange storeWalkedSpec)) storeWalkedCard

/-- THE TIED CARD OF 'satchellaw4.StoreKeeps'. -/
def storeKeepsCard : Claim7 := { stood := { row := storeKeepsRow, standIns := [], harness := (true, "bb765f17dce10fab5a8ea9b053da575994e54fc4bddbec72d9eecb98d9324e60"), looks := true }, kinds := [], alts := [], laidByText := true, laidKinds := [.data, .data, .data], laidTests := true, laidLooks := .later }
def StoreKeepsCardSaid : Prop := Claim7.holds Tryd.pinned (.plain (OpenSpec.ofChange storeKeepsSpec)) storeKeepsCard

/-- THE SECOND FORM's CARD OF 'satchellaw4.StoreFull'. -/
def storeFullUptoCard : Claim7 := { stood := { row := storeFullUptoRow, standIns := [], harness := (true, "bb765f17dce10fab5a8ea9b053da575994e54fc4bddbec72d9eecb98d9324e60"), looks := true }, kinds := [], alts := [], laidByText := true, laidKinds := [.data, .data, .data], laidTests := true, laidLooks := .later }
def StoreFullUptoCardSaid : Prop := Claim7.holds Tryd.pinned (.plain (OpenSpec.upto storeFullSpec)) storeFullUptoCard

/-- THE SECOND FORM's CARD OF 'satchellaw4.StoreMany'. -/
def storeManyUptoCard : Claim7 := { stood := { row := storeManyUptoRow, standIns := [], harness := (true, "bb765f17dce10fab5a8ea9b053da575994e54fc4bddbec72d9eecb98d9324e60"), looks := true }, kinds := [], alts := [], laidByText := true, laidKinds := [.data, .data, .data], laidTests := true, laidLooks := .later }
def StoreManyUptoCardSaid : Prop := Claim7.holds Tryd.pinned (.plain (OpenSpec.upto storeManySpec)) storeManyUptoCard

/-- THE SECOND FORM's CARD OF 'satchellaw4.StoreCopies'. -/
def storeCopiesUptoCard : Claim7 := { stood := { row := storeCopiesUptoRow, standIns := [], harness := (true, "bb765f17dce10fab5a8ea9b053da575994e54fc4bddbec72d9eecb98d9324e60"), looks := true }, kinds := [], alts := [], laidByText := true, laidKinds := [.data, .data, .data], laidTests := true, laidLooks := .later }
def StoreCopiesUptoCardSaid : Prop := Claim7.holds Tryd.pinned (.plain (OpenSpec.upto storeCopiesSpec)) storeCopiesUptoCard

/-- THE SECOND FORM's CARD OF 'satchellaw4.StoreNested'. -/
def storeNestedUptoCard : Claim7 := { stood := { row := storeNestedUptoRow, standIns := [], harness := (true, "bb765f17dce10fab5a8ea9b053da575994e54fc4bddbec72d9eecb98d9324e60"), looks := true }, kinds := [], alts := [], laidByText := true, laidKinds := [.data, .data, .data], laidTests := true, laidLooks := .later }
def StoreNestedUptoCardSaid : Prop := Claim7.holds Tryd.pinned (.plain (OpenSpec.upto storeNestedSpec)) storeNestedUptoCard

/-- THE SECOND FORM's CARD OF 'satchellaw4.StoreWalked'. -/
def storeWalkedUptoCard : Claim7 := { stood := { row := storeWalkedUptoRow, standIns := [], harness := (true, "bb765f17dce10fab5a8ea9b053da575994e54fc4bddbec72d9eecb98d9324e60"), looks := true }, kinds := [], alts := [], laidByText := true, laidKinds := [.data, .data, .data], laidTests := true, laidLooks := .later }
def StoreWalkedUptoCardSaid : Prop := Claim7.holds Tryd.pinned (.plain (OpenSpec.upto storeWalkedSpec)) storeWalkedUptoCard

/-- THE SECOND FORM's CARD OF 'satchellaw4.StoreKeeps'. -/
def storeKeepsUptoCard : Claim7 := { stood := { row := storeKeepsUptoRow, standIns := [], harness := (true, "bb765f17dce10fab5a8ea9b053da575994e54fc4bddbec72d9eecb98d9324e60"), looks := true }, kinds := [], alts := [], laidByText := true, laidKinds := [.data, .data, .data], laidTests := true, laidLooks := .later }
def StoreKeepsUptoCardSaid : Prop := Claim7.holds Tryd.pinned (.plain (OpenSpec.upto storeKeepsSpec)) storeKeepsUptoCard
end Rows
end Go.Proofs.YtfbkkcigkpffiaaDoor
