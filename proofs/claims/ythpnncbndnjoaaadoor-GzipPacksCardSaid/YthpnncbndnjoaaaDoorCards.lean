/-
  DERIVED. GIVEN WITH THE SEED: THE CARDS: each row of YthpnncbndnjoaaaDoorRows.lean that lists a variable, with what it lists TIED to the program's text (the seventh form; the later family's looks); each row that meets fmt, with fmt's text TOLD by the authors' own Lean function (tested against real Go, not proved from fmt's source: count such statements apart). THE CARD IS WHAT COUNTS. Prove the row's statement (the work); the ties are given (YthpnncbndnjoaaaDoorTie.lean); close each card by the builder's one call (the guide's Derived/Test/ToyasCard.lean, 'card_holds'). Laid BY PROGRAM, IN A SANDBOX (cutbox-door.mjs). By AI agents, Wed Nov 11 2026. No macro, syntax, notation, axiom, sorry.
-/
import Derived.Test.YthpnncbndnjoaaaDoorRows
import GoSem.ClaimSeven
namespace Go.Proofs.YthpnncbndnjoaaaDoor
namespace Rows

/-- THE TIED CARD OF 'crossdocklaw10.GzipPacks'. -/
def gzipPacksCard : Claim7 := { stood := { row := gzipPacksRow, standIns := [], harness := (true, "e24881c28e784de1dee20e604dd33b1611aa499cfe87d870912363ee1e705e4b"), looks := true }, kinds := [], alts := [], laidByText := true, laidKinds := [.data], laidTests := true, laidLooks := .later }
def GzipPacksCardSaid : Prop := Claim7.holds Tryd.pinned (.plain (OpenSpec.ofChange gzipPacksSpec)) gzipPacksCard

/-- THE TIED CARD OF 'crossdocklaw10.GzipBack'. -/
def gzipBackCard : Claim7 := { stood := { row := gzipBackRow, standIns := [], harness := (true, "e24881c28e784de1dee20e604dd33b1611aa499cfe87d870912363ee1e705e4b"), looks := true }, kinds := [], alts := [], laidByText := true, laidKinds := [.data, .widerDeep], laidTests := true, laidLooks := .later }
def GzipBackCardSaid : Prop := Claim7.holds Tryd.pinned (.plain (OpenSpec.ofChange gzipBackSpec)) gzipBackCard

/-- THE TIED CARD OF 'crossdocklaw10.GzipSpoilt'. -/
def gzipSpoiltCard : Claim7 := { stood := { row := gzipSpoiltRow, standIns := [], harness := (true, "e24881c28e784de1dee20e604dd33b1611aa499cfe87d870912363ee1e705e4b"), looks := true }, kinds := [], alts := [], laidByText := true, laidKinds := [.data, .widerDeep], laidTests := true, laidLooks := .later }
def GzipSpoiltCardSaid : Prop := Claim7.holds Tryd.pinned (.plain (OpenSpec.ofChange gzipSpoiltSpec)) gzipSpoiltCard

/-- THE SECOND FORM's CARD OF 'crossdocklaw10.GzipPacks'. -/
def gzipPacksUptoCard : Claim7 := { stood := { row := gzipPacksUptoRow, standIns := [], harness := (true, "e24881c28e784de1dee20e604dd33b1611aa499cfe87d870912363ee1e705e4b"), looks := true }, kinds := [], alts := [], laidByText := true, laidKinds := [.data], laidTests := true, laidLooks := .later }
def GzipPacksUptoCardSaid : Prop := Claim7.holds Tryd.pinned (.plain (OpenSpec.upto gzipPacksSpec)) gzipPacksUptoCard

/-- THE SECOND FORM's CARD OF 'crossdocklaw10.GzipBack'. -/
def gzipBackUptoCard : Claim7 := { stood := { row := gzipBackUptoRow, standIns := [], harness := (true, "e24881c28e784de1dee20e604dd33b1611aa499cfe87d870912363ee1e705e4b"), looks := true }, kinds := [], alts := [], laidByText := true, laidKinds := [.data, .widerDeep], laidTests := true, laidLooks := .later }
def GzipBackUptoCardSaid : Prop := Claim7.holds Tryd.pinned (.plain (OpenSpec.upto gzipBackSpec)) gzipBackUptoCard

/-- THE SECOND FORM's CARD OF 'crossdocklaw10.GzipSpoilt'. -/
def gzipSpoiltUptoCard : Claim7 := { stood := { row := gzipSpoiltUptoRow, standIns := [], harness := (true, "e24881c28e784de1dee20e604dd33b1611aa499cfe87d870912363ee1e705e4b"), looks := true }, kinds := [], alts := [], laidByText := true, laidKinds := [.data, .widerDeep], laidTests := true, laidLooks := .later }
def GzipSpoiltUptoCardSaid : Prop := Claim7.holds Tryd.pinned (.plain (OpenSpec.upto gzipSpoiltSpec)) gzipSpoiltUptoCard
end Rows
end Go.Proofs.YthpnncbndnjoaaaDoor
