/-
  DERIVED. GIVEN WITH THE SEED: THE CARDS: each row of YtiioiikcjaiajaaDoorRows.lean that lists a variable, with what it lists TIED to the program's text (the seventh form; the later family's looks); each row that meets fmt, with fmt's text TOLD by the authors' own Lean function (tested against real Go, not proved from fmt's source: count such statements apart). THE CARD IS WHAT COUNTS. Prove the row's statement (the work); the ties are given (YtiioiikcjaiajaaDoorTie.lean); close each card by the builder's one call (the guide's Derived/Test/ToyasCard.lean, 'card_holds'). Laid BY PROGRAM, IN A SANDBOX (cutbox-door.mjs). By AI agents, Wed Nov 11 2026. No macro, syntax, notation, axiom, sorry.
-/
import Derived.Test.YtiioiikcjaiajaaDoorRows
import GoSem.ClaimSeven
namespace Go.Proofs.YtiioiikcjaiajaaDoor
namespace Rows

/-- THE TIED CARD OF 'crossdocklaw19.HeadPuts'. -/
def headPutsCard : Claim7 := { stood := { row := headPutsRow, standIns := [], harness := (true, "33e6a305cd3f7e245ef6cdecfab50538705aa76b8bfe9dac503adf9bb2468284"), looks := true }, kinds := [], alts := [], laidByText := true, laidKinds := [.wider, .data, .data, .data, .data, .data, .wider, .wider, .wider, .wider, .wider, .data, .data, .wider], laidTests := true, laidLooks := .later }
def HeadPutsCardSaid : Prop := Claim7.holds Tryd.pinned (.plain (OpenSpec.ofChange headPutsSpec)) headPutsCard

/-- THE TIED CARD OF 'crossdocklaw19.HeadBack'. -/
def headBackCard : Claim7 := { stood := { row := headBackRow, standIns := [], harness := (true, "33e6a305cd3f7e245ef6cdecfab50538705aa76b8bfe9dac503adf9bb2468284"), looks := true }, kinds := [], alts := [], laidByText := true, laidKinds := [.data, .wider, .data, .data, .data, .data, .data, .wider, .wider, .wider, .wider, .wider, .data, .data, .wider, .pinned], laidTests := true, laidLooks := .later }
def HeadBackCardSaid : Prop := Claim7.holds Tryd.pinned (.plain (OpenSpec.ofChange headBackSpec)) headBackCard

/-- THE TIED CARD OF 'crossdocklaw19.HeadSpoilt'. -/
def headSpoiltCard : Claim7 := { stood := { row := headSpoiltRow, standIns := [], harness := (true, "33e6a305cd3f7e245ef6cdecfab50538705aa76b8bfe9dac503adf9bb2468284"), looks := true }, kinds := [], alts := [], laidByText := true, laidKinds := [.data, .wider, .data, .data, .data, .data, .data, .wider, .wider, .wider, .wider, .wider, .data, .data, .wider, .pinned], laidTests := true, laidLooks := .later }
def HeadSpoiltCardSaid : Prop := Claim7.holds Tryd.pinned (.plain (OpenSpec.ofChange headSpoiltSpec)) headSpoiltCard

/-- THE TIED CARD OF 'crossdocklaw19.HeadTakes'. -/
def headTakesCard : Claim7 := { stood := { row := headTakesRow, standIns := [], harness := (true, "33e6a305cd3f7e245ef6cdecfab50538705aa76b8bfe9dac503adf9bb2468284"), looks := true }, kinds := [], alts := [], laidByText := true, laidKinds := [.data, .wider, .data, .data, .data, .data, .data, .wider, .wider, .wider, .wider, .wider, .data, .data, .wider, .pinned], laidTests := true, laidLooks := .later }
def HeadTakesCardSaid : Prop := Claim7.holds Tryd.pinned (.plain (OpenSpec.ofChange headTakesSpec)) headTakesCard

/-- THE SECOND FORM's CARD OF 'crossdocklaw19.HeadPuts'. -/
def headPutsUptoCard : Claim7 := { stood := { row := headPutsUptoRow, standIns := [], harness := (true, "33e6a305cd3f7e245ef6cdecfab50538705aa76b8bfe9dac503adf9bb2468284"), looks := true }, kinds := [], alts := [], laidByText := true, laidKinds := [.wider, .data, .data, .data, .data, .data, .wider, .wider, .wider, .wider, .wider, .data, .data, .wider], laidTests := true, laidLooks := .later }
def HeadPutsUptoCardSaid : Prop := Claim7.holds Tryd.pinned (.plain (OpenSpec.upto headPutsSpec)) headPutsUptoCard

/-- THE SECOND FORM's CARD OF 'crossdocklaw19.HeadBack'. -/
def headBackUptoCard : Claim7 := { stood := { row := headBackUptoRow, standIns := [], harness := (true, "33e6a305cd3f7e245ef6cdecfab50538705aa76b8bfe9dac503adf9bb2468284"), looks := true }, kinds := [], alts := [], laidByText := true, laidKinds := [.data, .wider, .data, .data, .data, .data, .data, .wider, .wider, .wider, .wider, .wider, .data, .data, .wider, .pinned], laidTests := true, laidLooks := .later }
def HeadBackUptoCardSaid : Prop := Claim7.holds Tryd.pinned (.plain (OpenSpec.upto headBackSpec)) headBackUptoCard

/-- THE SECOND FORM's CARD OF 'crossdocklaw19.HeadSpoilt'. -/
def headSpoiltUptoCard : Claim7 := { stood := { row := headSpoiltUptoRow, standIns := [], harness := (true, "33e6a305cd3f7e245ef6cdecfab50538705aa76b8bfe9dac503adf9bb2468284"), looks := true }, kinds := [], alts := [], laidByText := true, laidKinds := [.data, .wider, .data, .data, .data, .data, .data, .wider, .wider, .wider, .wider, .wider, .data, .data, .wider, .pinned], laidTests := true, laidLooks := .later }
def HeadSpoiltUptoCardSaid : Prop := Claim7.holds Tryd.pinned (.plain (OpenSpec.upto headSpoiltSpec)) headSpoiltUptoCard

/-- THE SECOND FORM's CARD OF 'crossdocklaw19.HeadTakes'. -/
def headTakesUptoCard : Claim7 := { stood := { row := headTakesUptoRow, standIns := [], harness := (true, "33e6a305cd3f7e245ef6cdecfab50538705aa76b8bfe9dac503adf9bb2468284"), looks := true }, kinds := [], alts := [], laidByText := true, laidKinds := [.data, .wider, .data, .data, .data, .data, .data, .wider, .wider, .wider, .wider, .wider, .data, .data, .wider, .pinned], laidTests := true, laidLooks := .later }
def HeadTakesUptoCardSaid : Prop := Claim7.holds Tryd.pinned (.plain (OpenSpec.upto headTakesSpec)) headTakesUptoCard
end Rows
end Go.Proofs.YtiioiikcjaiajaaDoor
