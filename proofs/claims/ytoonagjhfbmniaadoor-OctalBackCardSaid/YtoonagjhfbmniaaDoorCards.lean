/-
  DERIVED. GIVEN WITH THE SEED: THE CARDS: each row of YtoonagjhfbmniaaDoorRows.lean that lists a variable, with what it lists TIED to the program's text (the seventh form; the later family's looks); each row that meets fmt, with fmt's text TOLD by the authors' own Lean function (tested against real Go, not proved from fmt's source: count such statements apart). THE CARD IS WHAT COUNTS. Prove the row's statement (the work); the ties are given (YtoonagjhfbmniaaDoorTie.lean); close each card by the builder's one call (the guide's Derived/Test/ToyasCard.lean, 'card_holds'). Laid BY PROGRAM, IN A SANDBOX (cutbox-door.mjs). By AI agents, Wed Nov 11 2026. No macro, syntax, notation, axiom, sorry.
-/
import Derived.Test.YtoonagjhfbmniaaDoorRows
import GoSem.ClaimSeven
namespace Go.Proofs.YtoonagjhfbmniaaDoor
namespace Rows

/-- THE TIED CARD OF 'crossdocklaw17.OctalBack'. -/
def octalBackCard : Claim7 := { stood := { row := octalBackRow, standIns := [], harness := (true, "45c99edf1e27b5ef8ecc3128311944c947ac20231fba1dfe21d5c1ec120b54af"), looks := false }, kinds := [], alts := [], laidByText := true, laidKinds := [.data, .pinned], laidTests := true, laidLooks := .later }
def OctalBackCardSaid : Prop := Claim7.holds Tryd.pinned (.plain (OpenSpec.ofChange octalBackSpec)) octalBackCard

/-- THE SECOND FORM's CARD OF 'crossdocklaw17.OctalBack'. -/
def octalBackUptoCard : Claim7 := { stood := { row := octalBackUptoRow, standIns := [], harness := (true, "45c99edf1e27b5ef8ecc3128311944c947ac20231fba1dfe21d5c1ec120b54af"), looks := false }, kinds := [], alts := [], laidByText := true, laidKinds := [.data, .pinned], laidTests := true, laidLooks := .later }
def OctalBackUptoCardSaid : Prop := Claim7.holds Tryd.pinned (.plain (OpenSpec.upto octalBackSpec)) octalBackUptoCard
end Rows
end Go.Proofs.YtoonagjhfbmniaaDoor
