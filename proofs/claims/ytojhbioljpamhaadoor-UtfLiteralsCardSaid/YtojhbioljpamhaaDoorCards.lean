/-
  DERIVED. GIVEN WITH THE SEED: THE CARDS: each row of YtojhbioljpamhaaDoorRows.lean that lists a variable, with what it lists TIED to the program's text (the seventh form; the later family's looks); each row that meets fmt, with fmt's text TOLD by the authors' own Lean function (tested against real Go, not proved from fmt's source: count such statements apart). THE CARD IS WHAT COUNTS. Prove the row's statement (the work); the ties are given (YtojhbioljpamhaaDoorTie.lean); close each card by the builder's one call (the guide's Derived/Test/ToyasCard.lean, 'card_holds'). Laid BY PROGRAM, IN A SANDBOX (cutbox-door.mjs). By AI agents, Wed Nov 11 2026. No macro, syntax, notation, axiom, sorry.
-/
import Derived.Test.YtojhbioljpamhaaDoorRows
import GoSem.ClaimSeven
namespace Go.Proofs.YtojhbioljpamhaaDoor
namespace Rows

/-- THE TIED CARD OF 'crossdocklaw11.UtfRight'. -/
def utfRightCard : Claim7 := { stood := { row := utfRightRow, standIns := [], harness := (true, "b9490b95ad692220b74ae19d74a518e8d643031ef4692ef2acae75020fb55b46"), looks := true }, kinds := [], alts := [], laidByText := true, laidKinds := [.data, .pinned], laidTests := true, laidLooks := .later }
def UtfRightCardSaid : Prop := Claim7.holds Tryd.pinned (.plain (OpenSpec.ofChange utfRightSpec)) utfRightCard

/-- THE TIED CARD OF 'crossdocklaw11.UtfLiterals'. -/
def utfLiteralsCard : Claim7 := { stood := { row := utfLiteralsRow, standIns := [], harness := (true, "b9490b95ad692220b74ae19d74a518e8d643031ef4692ef2acae75020fb55b46"), looks := true }, kinds := [], alts := [], laidByText := true, laidKinds := [.data, .pinned], laidTests := true, laidLooks := .later }
def UtfLiteralsCardSaid : Prop := Claim7.holds Tryd.pinned (.plain (OpenSpec.ofChange utfLiteralsSpec)) utfLiteralsCard

/-- THE TIED CARD OF 'crossdocklaw11.UtfBack'. -/
def utfBackCard : Claim7 := { stood := { row := utfBackRow, standIns := [], harness := (true, "b9490b95ad692220b74ae19d74a518e8d643031ef4692ef2acae75020fb55b46"), looks := true }, kinds := [], alts := [], laidByText := true, laidKinds := [.data, .pinned], laidTests := true, laidLooks := .later }
def UtfBackCardSaid : Prop := Claim7.holds Tryd.pinned (.plain (OpenSpec.ofChange utfBackSpec)) utfBackCard

/-- THE TIED CARD OF 'crossdocklaw11.UtfJoins'. -/
def utfJoinsCard : Claim7 := { stood := { row := utfJoinsRow, standIns := [], harness := (true, "b9490b95ad692220b74ae19d74a518e8d643031ef4692ef2acae75020fb55b46"), looks := true }, kinds := [], alts := [], laidByText := true, laidKinds := [.data, .pinned], laidTests := true, laidLooks := .later }
def UtfJoinsCardSaid : Prop := Claim7.holds Tryd.pinned (.plain (OpenSpec.ofChange utfJoinsSpec)) utfJoinsCard

/-- THE SECOND FORM's CARD OF 'crossdocklaw11.UtfRight'. -/
def utfRightUptoCard : Claim7 := { stood := { row := utfRightUptoRow, standIns := [], harness := (true, "b9490b95ad692220b74ae19d74a518e8d643031ef4692ef2acae75020fb55b46"), looks := true }, kinds := [], alts := [], laidByText := true, laidKinds := [.data, .pinned], laidTests := true, laidLooks := .later }
def UtfRightUptoCardSaid : Prop := Claim7.holds Tryd.pinned (.plain (OpenSpec.upto utfRightSpec)) utfRightUptoCard

/-- THE SECOND FORM's CARD OF 'crossdocklaw11.UtfLiterals'. -/
def utfLiteralsUptoCard : Claim7 := { stood := { row := utfLiteralsUptoRow, standIns := [], harness := (true, "b9490b95ad692220b74ae19d74a518e8d643031ef4692ef2acae75020fb55b46"), looks := true }, kinds := [], alts := [], laidByText := true, laidKinds := [.data, .pinned], laidTests := true, laidLooks := .later }
def UtfLiteralsUptoCardSaid : Prop := Claim7.holds Tryd.pinned (.plain (OpenSpec.upto utfLiteralsSpec)) utfLiteralsUptoCard

/-- THE SECOND FORM's CARD OF 'crossdocklaw11.UtfBack'. -/
def utfBackUptoCard : Claim7 := { stood := { row := utfBackUptoRow, standIns := [], harness := (true, "b9490b95ad692220b74ae19d74a518e8d643031ef4692ef2acae75020fb55b46"), looks := true }, kinds := [], alts := [], laidByText := true, laidKinds := [.data, .pinned], laidTests := true, laidLooks := .later }
def UtfBackUptoCardSaid : Prop := Claim7.holds Tryd.pinned (.plain (OpenSpec.upto utfBackSpec)) utfBackUptoCard

/-- THE SECOND FORM's CARD OF 'crossdocklaw11.UtfJoins'. -/
def utfJoinsUptoCard : Claim7 := { stood := { row := utfJoinsUptoRow, standIns := [], harness := (true, "b9490b95ad692220b74ae19d74a518e8d643031ef4692ef2acae75020fb55b46"), looks := true }, kinds := [], alts := [], laidByText := true, laidKinds := [.data, .pinned], laidTests := true, laidLooks := .later }
def UtfJoinsUptoCardSaid : Prop := Claim7.holds Tryd.pinned (.plain (OpenSpec.upto utfJoinsSpec)) utfJoinsUptoCard
end Rows
end Go.Proofs.YtojhbioljpamhaaDoor
