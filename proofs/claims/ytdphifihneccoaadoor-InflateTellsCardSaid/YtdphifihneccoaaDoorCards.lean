/-
  DERIVED. GIVEN WITH THE SEED: THE CARDS: each row of YtdphifihneccoaaDoorRows.lean that lists a variable, with what it lists TIED to the program's text (the seventh form; the later family's looks); each row that meets fmt, with fmt's text TOLD by the authors' own Lean function (tested against real Go, not proved from fmt's source: count such statements apart). THE CARD IS WHAT COUNTS. Prove the row's statement (the work); the ties are given (YtdphifihneccoaaDoorTie.lean); close each card by the builder's one call (the guide's Derived/Test/ToyasCard.lean, 'card_holds'). Laid BY PROGRAM, IN A SANDBOX (cutbox-door.mjs). By AI agents, Wed Nov 11 2026. No macro, syntax, notation, axiom, sorry.
-/
import Derived.Test.YtdphifihneccoaaDoorRows
import GoSem.ClaimSeven
namespace Go.Proofs.YtdphifihneccoaaDoor
namespace Rows

/-- THE TIED CARD OF 'crossdocklaw08.InflateTells'. -/
def inflateTellsCard : Claim7 := { stood := { row := inflateTellsRow, standIns := [], harness := (true, "e030f2c42244fb29ce5176d49fe99cd1ded56349268bc8dd5e23ddb9a99294ef"), looks := true }, kinds := [], alts := [], laidByText := true, laidKinds := [.widerDeep], laidTests := true, laidLooks := .later }
def InflateTellsCardSaid : Prop := Claim7.holds Tryd.pinned (.plain (OpenSpec.ofChange inflateTellsSpec)) inflateTellsCard

/-- THE TIED CARD OF 'crossdocklaw08.InflateBounds'. -/
def inflateBoundsCard : Claim7 := { stood := { row := inflateBoundsRow, standIns := [], harness := (true, "e030f2c42244fb29ce5176d49fe99cd1ded56349268bc8dd5e23ddb9a99294ef"), looks := true }, kinds := [], alts := [], laidByText := true, laidKinds := [.widerDeep], laidTests := true, laidLooks := .later }
def InflateBoundsCardSaid : Prop := Claim7.holds Tryd.pinned (.plain (OpenSpec.ofChange inflateBoundsSpec)) inflateBoundsCard

/-- THE TIED CARD OF 'crossdocklaw08.InflateMore'. -/
def inflateMoreCard : Claim7 := { stood := { row := inflateMoreRow, standIns := [], harness := (true, "e030f2c42244fb29ce5176d49fe99cd1ded56349268bc8dd5e23ddb9a99294ef"), looks := true }, kinds := [], alts := [], laidByText := true, laidKinds := [.widerDeep], laidTests := true, laidLooks := .later }
def InflateMoreCardSaid : Prop := Claim7.holds Tryd.pinned (.plain (OpenSpec.ofChange inflateMoreSpec)) inflateMoreCard

/-- THE TIED CARD OF 'crossdocklaw08.InflateStored'. -/
def inflateStoredCard : Claim7 := { stood := { row := inflateStoredRow, standIns := [], harness := (true, "e030f2c42244fb29ce5176d49fe99cd1ded56349268bc8dd5e23ddb9a99294ef"), looks := true }, kinds := [], alts := [], laidByText := true, laidKinds := [.widerDeep], laidTests := true, laidLooks := .later }
def InflateStoredCardSaid : Prop := Claim7.holds Tryd.pinned (.plain (OpenSpec.ofChange inflateStoredSpec)) inflateStoredCard

/-- THE SECOND FORM's CARD OF 'crossdocklaw08.InflateTells'. -/
def inflateTellsUptoCard : Claim7 := { stood := { row := inflateTellsUptoRow, standIns := [], harness := (true, "e030f2c42244fb29ce5176d49fe99cd1ded56349268bc8dd5e23ddb9a99294ef"), looks := true }, kinds := [], alts := [], laidByText := true, laidKinds := [.widerDeep], laidTests := true, laidLooks := .later }
def InflateTellsUptoCardSaid : Prop := Claim7.holds Tryd.pinned (.plain (OpenSpec.upto inflateTellsSpec)) inflateTellsUptoCard

/-- THE SECOND FORM's CARD OF 'crossdocklaw08.InflateBounds'. -/
def inflateBoundsUptoCard : Claim7 := { stood := { row := inflateBoundsUptoRow, standIns := [], harness := (true, "e030f2c42244fb29ce5176d49fe99cd1ded56349268bc8dd5e23ddb9a99294ef"), looks := true }, kinds := [], alts := [], laidByText := true, laidKinds := [.widerDeep], laidTests := true, laidLooks := .later }
def InflateBoundsUptoCardSaid : Prop := Claim7.holds Tryd.pinned (.plain (OpenSpec.upto inflateBoundsSpec)) inflateBoundsUptoCard

/-- THE SECOND FORM's CARD OF 'crossdocklaw08.InflateMore'. -/
def inflateMoreUptoCard : Claim7 := { stood := { row := inflateMoreUptoRow, standIns := [], harness := (true, "e030f2c42244fb29ce5176d49fe99cd1ded56349268bc8dd5e23ddb9a99294ef"), looks := true }, kinds := [], alts := [], laidByText := true, laidKinds := [.widerDeep], laidTests := true, laidLooks := .later }
def InflateMoreUptoCardSaid : Prop := Claim7.holds Tryd.pinned (.plain (OpenSpec.upto inflateMoreSpec)) inflateMoreUptoCard

/-- THE SECOND FORM's CARD OF 'crossdocklaw08.InflateStored'. -/
def inflateStoredUptoCard : Claim7 := { stood := { row := inflateStoredUptoRow, standIns := [], harness := (true, "e030f2c42244fb29ce5176d49fe99cd1ded56349268bc8dd5e23ddb9a99294ef"), looks := true }, kinds := [], alts := [], laidByText := true, laidKinds := [.widerDeep], laidTests := true, laidLooks := .later }
def InflateStoredUptoCardSaid : Prop := Claim7.holds Tryd.pinned (.plain (OpenSpec.upto inflateStoredSpec)) inflateStoredUptoCard
end Rows
end Go.Proofs.YtdphifihneccoaaDoor
