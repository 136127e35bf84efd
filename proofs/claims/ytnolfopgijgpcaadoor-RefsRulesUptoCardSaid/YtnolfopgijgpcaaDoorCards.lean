/-
  DERIVED. GIVEN WITH THE SEED: THE CARDS: each row of YtnolfopgijgpcaaDoorRows.lean that lists a variable, with what it lists TIED to the program's text (the seventh form; the later family's looks); each row that meets fmt, with fmt's text TOLD by the authors' own Lean function (tested against real Go, not proved from fmt's source: count such statements apart). THE CARD IS WHAT COUNTS. Prove the row's statement (the work); the ties are given (YtnolfopgijgpcaaDoorTie.lean); close each card by the builder's one call (the guide's Derived/Test/ToyasCard.lean, 'card_holds'). Laid BY PROGRAM, IN A SANDBOX (cutbox-door.mjs). By AI agents, Wed Nov 11 2026. No macro, syntax, notation, axiom, sorry.
-/
import Derived.Test.YtnolfopgijgpcaaDoorRows
import GoSem.ClaimSeven
namespace Go.Proofs.YtnolfopgijgpcaaDoor
namespace Rows

/-- THE TIED CARD OF 'satchellaw14.RefsNames'. -/
def refsNamesCard : Claim7 := { stood := { row := refsNamesRow, standIns := [], harness := (true, "dbd82cf94c00172e591f6a87698b0044db3050fd8d7b08e33615dde2e9837c80"), looks := true }, kinds := [], alts := [], laidByText := true, laidKinds := [.data, .pinned], laidTests := true, laidLooks := .later }
def RefsNamesCardSaid : Prop := Claim7.holds Tryd.pinned (.plain (OpenSpec.ofChange refsNamesSpec)) refsNamesCard

/-- THE TIED CARD OF 'satchellaw0.ApiChains'. -/
def apiChainsCard : Claim7 := { stood := { row := apiChainsRow, standIns := [], harness := (true, "dbd82cf94c00172e591f6a87698b0044db3050fd8d7b08e33615dde2e9837c80"), looks := true }, kinds := [], alts := [], laidByText := true, laidKinds := [.handle], laidTests := true, laidLooks := .later }
def ApiChainsCardSaid : Prop := Claim7.holds Tryd.pinned (.plain (OpenSpec.ofChange apiChainsSpec)) apiChainsCard

/-- THE TIED CARD OF 'satchellaw14.RefsMapped'. -/
def refsMappedCard : Claim7 := { stood := { row := refsMappedRow, standIns := [], harness := (true, "dbd82cf94c00172e591f6a87698b0044db3050fd8d7b08e33615dde2e9837c80"), looks := true }, kinds := [], alts := [], laidByText := true, laidKinds := [.data, .pinned], laidTests := true, laidLooks := .later }
def RefsMappedCardSaid : Prop := Claim7.holds Tryd.pinned (.plain (OpenSpec.ofChange refsMappedSpec)) refsMappedCard

/-- THE TIED CARD OF 'satchellaw14.RefsBack'. -/
def refsBackCard : Claim7 := { stood := { row := refsBackRow, standIns := [], harness := (true, "dbd82cf94c00172e591f6a87698b0044db3050fd8d7b08e33615dde2e9837c80"), looks := true }, kinds := [], alts := [], laidByText := true, laidKinds := [.data, .pinned], laidTests := true, laidLooks := .later }
def RefsBackCardSaid : Prop := Claim7.holds Tryd.pinned (.plain (OpenSpec.ofChange refsBackSpec)) refsBackCard

/-- THE TIED CARD OF 'satchellaw14.RefsRules'. -/
def refsRulesCard : Claim7 := { stood := { row := refsRulesRow, standIns := [], harness := (true, "dbd82cf94c00172e591f6a87698b0044db3050fd8d7b08e33615dde2e9837c80"), looks := true }, kinds := [], alts := [], laidByText := true, laidKinds := [.data, .pinned], laidTests := true, laidLooks := .later }
def RefsRulesCardSaid : Prop := Claim7.holds Tryd.pinned (.plain (OpenSpec.ofChange refsRulesSpec)) refsRulesCard

/-- THE SECOND FORM's CARD OF 'satchellaw14.RefsNames'. -/
def refsNamesUptoCard : Claim7 := { stood := { row := refsNamesUptoRow, standIns := [], harness := (true, "dbd82cf94c00172e591f6a87698b0044db3050fd8d7b08e33615dde2e9837c80"), looks := true }, kinds := [], alts := [], laidByText := true, laidKinds := [.data, .pinned], laidTests := true, laidLooks := .later }
def RefsNamesUptoCardSaid : Prop := Claim7.holds Tryd.pinned (.plain (OpenSpec.upto refsNamesSpec)) refsNamesUptoCard

/-- THE SECOND FORM's CARD OF 'satchellaw0.ApiChains'. -/
def apiChainsUptoCard : Claim7 := { stood := { row := apiChainsUptoRow, standIns := [], harness := (true, "dbd82cf94c00172e591f6a87698b0044db3050fd8d7b08e33615dde2e9837c80"), looks := true }, kinds := [], alts := [], laidByText := true, laidKinds := [.handle], laidTests := true, laidLooks := .later }
def ApiChainsUptoCardSaid : Prop := Claim7.holds Tryd.pinned (.plain (OpenSpec.upto apiChainsSpec)) apiChainsUptoCard

/-- THE SECOND FORM's CARD OF 'satchellaw14.RefsMapped'. -/
def refsMappedUptoCard : Claim7 := { stood := { row := refsMappedUptoRow, standIns := [], harness := (true, "dbd82cf94c00172e591f6a87698b0044db3050fd8d7b08e33615dde2e9837c80"), looks := true }, kinds := [], alts := [], laidByText := true, laidKinds := [.data, .pinned], laidTests := true, laidLooks := .later }
def RefsMappedUptoCardSaid : Prop := Claim7.holds Tryd.pinned (.plain (OpenSpec.upto refsMappedSpec)) refsMappedUptoCard

/-- THE SECOND FORM's CARD OF 'satchellaw14.RefsBack'. -/
def refsBackUptoCard : Claim7 := { stood := { row := refsBackUptoRow, standIns := [], harness := (true, "dbd82cf94c00172e591f6a87698b0044db3050fd8d7b08e33615dde2e9837c80"), looks := true }, kinds := [], alts := [], laidByText := true, laidKinds := [.data, .pinned], laidTests := true, laidLooks := .later }
def RefsBackUptoCardSaid : Prop := Claim7.holds Tryd.pinned (.plain (OpenSpec.upto refsBackSpec)) refsBackUptoCard

/-- THE SECOND FORM's CARD OF 'satchellaw14.RefsRules'. -/
def refsRulesUptoCard : Claim7 := { stood := { row := refsRulesUptoRow, standIns := [], harness := (true, "dbd82cf94c00172e591f6a87698b0044db3050fd8d7b08e33615dde2e9837c80"), looks := true }, kinds := [], alts := [], laidByText := true, laidKinds := [.data, .pinned], laidTests := true, laidLooks := .later }
def RefsRulesUptoCardSaid : Prop := Claim7.holds Tryd.pinned (.plain (OpenSpec.upto refsRulesSpec)) refsRulesUptoCard
end Rows
end Go.Proofs.YtnolfopgijgpcaaDoor
