/-
  DERIVED. GIVEN WITH THE SEED: THE CARDS: each row of YtihhkjhpicelgaaDoorRows.lean that lists a variable, with what it lists TIED to the program's text (the seventh form; the later family's looks); each row that meets fmt, with fmt's text TOLD by the authors' own Lean function (tested against real Go, not proved from fmt's source: count such statements apart). THE CARD IS WHAT COUNTS. Prove the row's statement (the work); the ties are given (YtihhkjhpicelgaaDoorTie.lean); close each card by the builder's one call (the guide's Derived/Test/ToyasCard.lean, 'card_holds'). Laid BY PROGRAM, IN A SANDBOX (cutbox-door.mjs). By AI agents, Wed Nov 11 2026. No macro, syntax, notation, axiom, sorry.
-/
import Derived.Test.YtihhkjhpicelgaaDoorRows
import GoSem.ClaimSeven
namespace Go.Proofs.YtihhkjhpicelgaaDoor
namespace Rows

/-- THE TIED CARD OF 'crossdocklaw04.CrcTells'. -/
def crcTellsCard : Claim7 := { stood := { row := crcTellsRow, standIns := [], harness := (true, "26a4ec5f5339adc35588ec61d7ac39a3ba7fe5fc10931a80036e686f1b6d4e61"), looks := false }, kinds := [], alts := [], laidByText := true, laidKinds := [.data], laidTests := true, laidLooks := .later }
def CrcTellsCardSaid : Prop := Claim7.holds Tryd.pinned (.plain (OpenSpec.ofChange crcTellsSpec)) crcTellsCard

/-- THE TIED CARD OF 'crossdocklaw04.CrcCuts'. -/
def crcCutsCard : Claim7 := { stood := { row := crcCutsRow, standIns := [], harness := (true, "26a4ec5f5339adc35588ec61d7ac39a3ba7fe5fc10931a80036e686f1b6d4e61"), looks := false }, kinds := [], alts := [], laidByText := true, laidKinds := [.data], laidTests := true, laidLooks := .later }
def CrcCutsCardSaid : Prop := Claim7.holds Tryd.pinned (.plain (OpenSpec.ofChange crcCutsSpec)) crcCutsCard

/-- THE TIED CARD OF 'crossdocklaw04.CrcFinds'. -/
def crcFindsCard : Claim7 := { stood := { row := crcFindsRow, standIns := [], harness := (true, "26a4ec5f5339adc35588ec61d7ac39a3ba7fe5fc10931a80036e686f1b6d4e61"), looks := false }, kinds := [], alts := [], laidByText := true, laidKinds := [.data], laidTests := true, laidLooks := .later }
def CrcFindsCardSaid : Prop := Claim7.holds Tryd.pinned (.plain (OpenSpec.ofChange crcFindsSpec)) crcFindsCard

/-- THE TIED CARD OF 'crossdocklaw04.CrcTable'. -/
def crcTableCard : Claim7 := { stood := { row := crcTableRow, standIns := [], harness := (true, "26a4ec5f5339adc35588ec61d7ac39a3ba7fe5fc10931a80036e686f1b6d4e61"), looks := false }, kinds := [], alts := [], laidByText := true, laidKinds := [.data], laidTests := true, laidLooks := .later }
def CrcTableCardSaid : Prop := Claim7.holds Tryd.pinned (.plain (OpenSpec.ofChange crcTableSpec)) crcTableCard

/-- THE SECOND FORM's CARD OF 'crossdocklaw04.CrcTells'. -/
def crcTellsUptoCard : Claim7 := { stood := { row := crcTellsUptoRow, standIns := [], harness := (true, "26a4ec5f5339adc35588ec61d7ac39a3ba7fe5fc10931a80036e686f1b6d4e61"), looks := false }, kinds := [], alts := [], laidByText := true, laidKinds := [.data], laidTests := true, laidLooks := .later }
def CrcTellsUptoCardSaid : Prop := Claim7.holds Tryd.pinned (.plain (OpenSpec.upto crcTellsSpec)) crcTellsUptoCard

/-- THE SECOND FORM's CARD OF 'crossdocklaw04.CrcCuts'. -/
def crcCutsUptoCard : Claim7 := { stood := { row := crcCutsUptoRow, standIns := [], harness := (true, "26a4ec5f5339adc35588ec61d7ac39a3ba7fe5fc10931a80036e686f1b6d4e61"), looks := false }, kinds := [], alts := [], laidByText := true, laidKinds := [.data], laidTests := true, laidLooks := .later }
def CrcCutsUptoCardSaid : Prop := Claim7.holds Tryd.pinned (.plain (OpenSpec.upto crcCutsSpec)) crcCutsUptoCard

/-- THE SECOND FORM's CARD OF 'crossdocklaw04.CrcFinds'. -/
def crcFindsUptoCard : Claim7 := { stood := { row := crcFindsUptoRow, standIns := [], harness := (true, "26a4ec5f5339adc35588ec61d7ac39a3ba7fe5fc10931a80036e686f1b6d4e61"), looks := false }, kinds := [], alts := [], laidByText := true, laidKinds := [.data], laidTests := true, laidLooks := .later }
def CrcFindsUptoCardSaid : Prop := Claim7.holds Tryd.pinned (.plain (OpenSpec.upto crcFindsSpec)) crcFindsUptoCard

/-- THE SECOND FORM's CARD OF 'crossdocklaw04.CrcTable'. -/
def crcTableUptoCard : Claim7 := { stood := { row := crcTableUptoRow, standIns := [], harness := (true, "26a4ec5f5339adc35588ec61d7ac39a3ba7fe5fc10931a80036e686f1b6d4e61"), looks := false }, kinds := [], alts := [], laidByText := true, laidKinds := [.data], laidTests := true, laidLooks := .later }
def CrcTableUptoCardSaid : Prop := Claim7.holds Tryd.pinned (.plain (OpenSpec.upto crcTableSpec)) crcTableUptoCard
end Rows
end Go.Proofs.YtihhkjhpicelgaaDoor
