/-
  DERIVED. GIVEN WITH THE SEED: THE CARDS: each row of YtblmgmhjlbkncaaDoorRows.lean that lists a variable, with what it lists TIED to the program's text (the seventh form; the later family's looks); each row that meets fmt, with fmt's text TOLD by the authors' own Lean function (tested against real Go, not proved from fmt's source: count such statements apart). THE CARD IS WHAT COUNTS. Prove the row's statement (the work); the ties are given (YtblmgmhjlbkncaaDoorTie.lean); close each card by the builder's one call (the guide's Derived/Test/ToyasCard.lean, 'card_holds'). Laid BY PROGRAM, IN A SANDBOX (cutbox-door.mjs). By AI agents, Wed Nov 11 2026. No macro, syntax, notation, axiom, sorry.
-/
import Derived.Test.YtblmgmhjlbkncaaDoorRows
import GoSem.ClaimSeven
namespace Go.Proofs.YtblmgmhjlbkncaaDoor
namespace Rows

/-- THE TIED CARD OF 'sawmilllaw46.OrderChecks'. -/
def orderChecksCard : Claim7 := { stood := { row := orderChecksRow, standIns := [], harness := (true, "95deeee2c4f6ec132febba205094001f2b02a19ebbcbe581e7889cb04c1ba353"), looks := true }, kinds := [], alts := [], laidByText := true, laidKinds := [.data, .data, .data, .sentinel, .sentinel], laidTests := true, laidLooks := .later }
def OrderChecksCardSaid : Prop := Claim7.holds Tryd.pinned (.plain (OpenSpec.ofChange orderChecksSpec)) orderChecksCard

/-- THE TIED CARD OF 'sawmilllaw46.OrderFits'. -/
def orderFitsCard : Claim7 := { stood := { row := orderFitsRow, standIns := [], harness := (true, "95deeee2c4f6ec132febba205094001f2b02a19ebbcbe581e7889cb04c1ba353"), looks := true }, kinds := [], alts := [], laidByText := true, laidKinds := [.data, .data, .data, .sentinel, .sentinel], laidTests := true, laidLooks := .later }
def OrderFitsCardSaid : Prop := Claim7.holds Tryd.pinned (.plain (OpenSpec.ofChange orderFitsSpec)) orderFitsCard

/-- THE TIED CARD OF 'sawmilllaw46.OrderFills'. -/
def orderFillsCard : Claim7 := { stood := { row := orderFillsRow, standIns := [], harness := (true, "95deeee2c4f6ec132febba205094001f2b02a19ebbcbe581e7889cb04c1ba353"), looks := true }, kinds := [], alts := [], laidByText := true, laidKinds := [.data, .data, .data, .sentinel, .sentinel], laidTests := true, laidLooks := .later }
def OrderFillsCardSaid : Prop := Claim7.holds Tryd.pinned (.plain (OpenSpec.ofChange orderFillsSpec)) orderFillsCard

/-- THE TIED CARD OF 'sawmilllaw46.OrderTexts'. -/
def orderTextsCard : Claim7 := { stood := { row := orderTextsRow, standIns := [], harness := (true, "95deeee2c4f6ec132febba205094001f2b02a19ebbcbe581e7889cb04c1ba353"), looks := true }, kinds := [], alts := [], laidByText := true, laidKinds := [.data, .data, .data, .sentinel, .sentinel], laidTests := true, laidLooks := .later }
def OrderTextsCardSaid : Prop := Claim7.holds Tryd.pinned (.plain (OpenSpec.ofChange orderTextsSpec)) orderTextsCard

/-- THE TIED CARD OF 'sawmilllaw46.OrderBack'. -/
def orderBackCard : Claim7 := { stood := { row := orderBackRow, standIns := [], harness := (true, "95deeee2c4f6ec132febba205094001f2b02a19ebbcbe581e7889cb04c1ba353"), looks := true }, kinds := [], alts := [], laidByText := true, laidKinds := [.data, .data, .data, .sentinel, .sentinel], laidTests := true, laidLooks := .later }
def OrderBackCardSaid : Prop := Claim7.holds Tryd.pinned (.plain (OpenSpec.ofChange orderBackSpec)) orderBackCard

/-- THE TIED CARD OF 'sawmilllaw46.OrderCounts'. -/
def orderCountsCard : Claim7 := { stood := { row := orderCountsRow, standIns := [], harness := (true, "95deeee2c4f6ec132febba205094001f2b02a19ebbcbe581e7889cb04c1ba353"), looks := true }, kinds := [], alts := [], laidByText := true, laidKinds := [.data, .data, .data, .sentinel, .sentinel], laidTests := true, laidLooks := .later }
def OrderCountsCardSaid : Prop := Claim7.holds Tryd.pinned (.plain (OpenSpec.ofChange orderCountsSpec)) orderCountsCard

/-- THE TIED CARD OF 'sawmilllaw46.OrderBetter'. -/
def orderBetterCard : Claim7 := { stood := { row := orderBetterRow, standIns := [], harness := (true, "95deeee2c4f6ec132febba205094001f2b02a19ebbcbe581e7889cb04c1ba353"), looks := true }, kinds := [], alts := [], laidByText := true, laidKinds := [.data, .data, .data, .sentinel, .sentinel], laidTests := true, laidLooks := .later }
def OrderBetterCardSaid : Prop := Claim7.holds Tryd.pinned (.plain (OpenSpec.ofChange orderBetterSpec)) orderBetterCard

/-- THE SECOND FORM's CARD OF 'sawmilllaw46.OrderChecks'. -/
def orderChecksUptoCard : Claim7 := { stood := { row := orderChecksUptoRow, standIns := [], harness := (true, "95deeee2c4f6ec132febba205094001f2b02a19ebbcbe581e7889cb04c1ba353"), looks := true }, kinds := [], alts := [], laidByText := true, laidKinds := [.data, .data, .data, .sentinel, .sentinel], laidTests := true, laidLooks := .later }
def OrderChecksUptoCardSaid : Prop := Claim7.holds Tryd.pinned (.plain (OpenSpec.upto orderChecksSpec)) orderChecksUptoCard

/-- THE SECOND FORM's CARD OF 'sawmilllaw46.OrderFits'. -/
def orderFitsUptoCard : Claim7 := { stood := { row := orderFitsUptoRow, standIns := [], harness := (true, "95deeee2c4f6ec132febba205094001f2b02a19ebbcbe581e7889cb04c1ba353"), looks := true }, kinds := [], alts := [], laidByText := true, laidKinds := [.data, .data, .data, .sentinel, .sentinel], laidTests := true, laidLooks := .later }
def OrderFitsUptoCardSaid : Prop := Claim7.holds Tryd.pinned (.plain (OpenSpec.upto orderFitsSpec)) orderFitsUptoCard

/-- THE SECOND FORM's CARD OF 'sawmilllaw46.OrderFills'. -/
def orderFillsUptoCard : Claim7 := { stood := { row := orderFillsUptoRow, standIns := [], harness := (true, "95deeee2c4f6ec132febba205094001f2b02a19ebbcbe581e7889cb04c1ba353"), looks := true }, kinds := [], alts := [], laidByText := true, laidKinds := [.data, .data, .data, .sentinel, .sentinel], laidTests := true, laidLooks := .later }
def OrderFillsUptoCardSaid : Prop := Claim7.holds Tryd.pinned (.plain (OpenSpec.upto orderFillsSpec)) orderFillsUptoCard

/-- THE SECOND FORM's CARD OF 'sawmilllaw46.OrderTexts'. -/
def orderTextsUptoCard : Claim7 := { stood := { row := orderTextsUptoRow, standIns := [], harness := (true, "95deeee2c4f6ec132febba205094001f2b02a19ebbcbe581e7889cb04c1ba353"), looks := true }, kinds := [], alts := [], laidByText := true, laidKinds := [.data, .data, .data, .sentinel, .sentinel], laidTests := true, laidLooks := .later }
def OrderTextsUptoCardSaid : Prop := Claim7.holds Tryd.pinned (.plain (OpenSpec.upto orderTextsSpec)) orderTextsUptoCard

/-- THE SECOND FORM's CARD OF 'sawmilllaw46.OrderBack'. -/
def orderBackUptoCard : Claim7 := { stood := { row := orderBackUptoRow, standIns := [], harness := (true, "95deeee2c4f6ec132febba205094001f2b02a19ebbcbe581e7889cb04c1ba353"), looks := true }, kinds := [], alts := [], laidByText := true, laidKinds := [.data, .data, .data, .sentinel, .sentinel], laidTests := true, laidLooks := .later }
def OrderBackUptoCardSaid : Prop := Claim7.holds Tryd.pinned (.plain (OpenSpec.upto orderBackSpec)) orderBackUptoCard

/-- THE SECOND FORM's CARD OF 'sawmilllaw46.OrderCounts'. -/
def orderCountsUptoCard : Claim7 := { stood := { row := orderCountsUptoRow, standIns := [], harness := (true, "95deeee2c4f6ec132febba205094001f2b02a19ebbcbe581e7889cb04c1ba353"), looks := true }, kinds := [], alts := [], laidByText := true, laidKinds := [.data, .data, .data, .sentinel, .sentinel], laidTests := true, laidLooks := .later }
def OrderCountsUptoCardSaid : Prop := Claim7.holds Tryd.pinned (.plain (OpenSpec.upto orderCountsSpec)) orderCountsUptoCard

/-- THE SECOND FORM's CARD OF 'sawmilllaw46.OrderBetter'. -/
def orderBetterUptoCard : Claim7 := { stood := { row := orderBetterUptoRow, standIns := [], harness := (true, "95deeee2c4f6ec132febba205094001f2b02a19ebbcbe581e7889cb04c1ba353"), looks := true }, kinds := [], alts := [], laidByText := true, laidKinds := [.data, .data, .data, .sentinel, .sentinel], laidTests := true, laidLooks := .later }
def OrderBetterUptoCardSaid : Prop := Claim7.holds Tryd.pinned (.plain (OpenSpec.upto orderBetterSpec)) orderBetterUptoCard
end Rows
end Go.Proofs.YtblmgmhjlbkncaaDoor
