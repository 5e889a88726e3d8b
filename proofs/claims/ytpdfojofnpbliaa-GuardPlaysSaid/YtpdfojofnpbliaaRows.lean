/-
  No cell of these rows narrows 'for every input' (looked for: loops, veiled, ifaces, maps, wideKeys, modest, calm, conditions, laid).
  DERIVED. THE GIVEN ROWS OF THIS SEAT. 4 by the template 'for every input the law returns true; each argument reads behind the call as it read before'; 0 by the template 'total and deterministic' (their statements: YtpdfojofnpbliaaTotals.lean).
  GIVEN WITH THE SEED: the statements are not yours to turn. If you find one false, say at which input.
  Laid BY PROGRAM, IN A SANDBOX (cutbox-rows.mjs): the forced cells as the released guide's own fill.sh prints them over the translation eb71b28affd64a1f… (all of the seat's roots in one cut). By AI agents, Wed Nov 11 2026. No macro, syntax, notation, axiom, sorry.
-/
import Derived.Test.YtpdfojofnpbliaaChecked
import GoSem.Claim
import GoSem.ClaimJoined
import GoSem.ClaimMapViews
import Derived.JoinedTies
import Derived.KernelRfl
namespace Go.Proofs.Ytpdfojofnpbliaa
/- THE CELL 'sum', in the pinned program and in every row, IS THE sha256 OF THE DUMP (.gsa) THAT YtpdfojofnpbliaaProg.lean LOADS. Nothing in Lean hashes anything: it is a label: what it is worth is what the hold of that sum in a sandbox is worth. -/
noncomputable def Try.pinned : Pinned := { name := "ytpdfojofnpbliaa", sum := "eb71b28affd64a1ff20cf388886b71c6cabb0f1d0d10e5009e49a76481fb2a39", checked := Try.checked }
namespace Rows
def none {H : Type} : Left H := { results := [], args := [] }

/-- 'crossdocklaw01.GuardPasses': WHATEVER THE INPUT: true; the input reads as it did. -/
def guardPassesSpec : ChangeSpec := { name := "guardPasses", fn := fun _ => fun
  | [d1, d2, d3] => { results := [.lit (.bool true)], args := [d1, d2, d3] }
  | _ => none }
def guardPassesRow : OpenClaim := { program := "ytpdfojofnpbliaa", sum := "eb71b28affd64a1ff20cf388886b71c6cabb0f1d0d10e5009e49a76481fb2a39", func := "crossdock/crossdocklaw01.GuardPasses", spec := "guardPasses", unfollowed := true, recurses := true, apart := false }
def GuardPassesSaid : Prop := guardPassesRow.holds Try.pinned (OpenSpec.ofChange guardPassesSpec)

/-- ITS FALSE NEIGHBOUR: 'it returns false'. Refute it at one input. -/
def guardPassesWrong : ChangeSpec := { name := "guardPasses", fn := fun _ => fun
  | [d1, d2, d3] => { results := [.lit (.bool false)], args := [d1, d2, d3] }
  | _ => none }
def GuardPassesWrongFalsely : Prop := guardPassesRow.holds Try.pinned (OpenSpec.ofChange guardPassesWrong)

/-- 'crossdocklaw01.GuardPlays': WHATEVER THE INPUT: true; the input reads as it did. -/
def guardPlaysSpec : ChangeSpec := { name := "guardPlays", fn := fun _ => fun
  | [d] => { results := [.lit (.bool true)], args := [d] }
  | _ => none }
def guardPlaysRow : OpenClaim := { program := "ytpdfojofnpbliaa", sum := "eb71b28affd64a1ff20cf388886b71c6cabb0f1d0d10e5009e49a76481fb2a39", func := "crossdock/crossdocklaw01.GuardPlays", spec := "guardPlays", unfollowed := true, recurses := true, apart := false }
def GuardPlaysSaid : Prop := guardPlaysRow.holds Try.pinned (OpenSpec.ofChange guardPlaysSpec)

/-- ITS FALSE NEIGHBOUR: 'it returns false'. Refute it at one input. -/
def guardPlaysWrong : ChangeSpec := { name := "guardPlays", fn := fun _ => fun
  | [d] => { results := [.lit (.bool false)], args := [d] }
  | _ => none }
def GuardPlaysWrongFalsely : Prop := guardPlaysRow.holds Try.pinned (OpenSpec.ofChange guardPlaysWrong)

/-- 'crossdocklaw01.GuardThrows': WHATEVER THE INPUT: true; the input reads as it did. -/
def guardThrowsSpec : ChangeSpec := { name := "guardThrows", fn := fun _ => fun
  | [d1, d2] => { results := [.lit (.bool true)], args := [d1, d2] }
  | _ => none }
def guardThrowsRow : OpenClaim := { program := "ytpdfojofnpbliaa", sum := "eb71b28affd64a1ff20cf388886b71c6cabb0f1d0d10e5009e49a76481fb2a39", func := "crossdock/crossdocklaw01.GuardThrows", spec := "guardThrows", unfollowed := true, recurses := true, apart := false }
def GuardThrowsSaid : Prop := guardThrowsRow.holds Try.pinned (OpenSpec.ofChange guardThrowsSpec)

/-- ITS FALSE NEIGHBOUR: 'it returns false'. Refute it at one input. -/
def guardThrowsWrong : ChangeSpec := { name := "guardThrows", fn := fun _ => fun
  | [d1, d2] => { results := [.lit (.bool false)], args := [d1, d2] }
  | _ => none }
def GuardThrowsWrongFalsely : Prop := guardThrowsRow.holds Try.pinned (OpenSpec.ofChange guardThrowsWrong)

/-- 'crossdocklaw01.GuardTells': WHATEVER THE INPUT: true; the input reads as it did. -/
def guardTellsSpec : ChangeSpec := { name := "guardTells", fn := fun _ => fun
  | [d1, d2] => { results := [.lit (.bool true)], args := [d1, d2] }
  | _ => none }
def guardTellsRow : OpenClaim := { program := "ytpdfojofnpbliaa", sum := "eb71b28affd64a1ff20cf388886b71c6cabb0f1d0d10e5009e49a76481fb2a39", func := "crossdock/crossdocklaw01.GuardTells", spec := "guardTells", unfollowed := true, recurses := true, apart := false }
def GuardTellsSaid : Prop := guardTellsRow.holds Try.pinned (OpenSpec.ofChange guardTellsSpec)

/-- ITS FALSE NEIGHBOUR: 'it returns false'. Refute it at one input. -/
def guardTellsWrong : ChangeSpec := { name := "guardTells", fn := fun _ => fun
  | [d1, d2] => { results := [.lit (.bool false)], args := [d1, d2] }
  | _ => none }
def GuardTellsWrongFalsely : Prop := guardTellsRow.holds Try.pinned (OpenSpec.ofChange guardTellsWrong)

/- THE SECOND FORM. 'bulk': how many values and letters a reading holds, each counted each time it is reached (what is shared counts as often as it is met; a slice's spare places count too). A statement '..UptoSaid' is the law's where the arguments, and the package variables that the reading takes, are together of bulk at most 1048576: NARROWER than '..Said'. Prove '..Said' where nothing that the law and all that it calls make is longer than what came in: it says more and counts as full. Else prove '..UptoSaid'. A law counts once. -/
mutual
def uptoBulk {H : Type} : DataW H → Nat
  | .lit (.string bytes) => bytes.length + 1
  | .lit _ => 1
  | .nil => 1
  | .ptr d => uptoBulk d + 1
  | .slice elems spare => uptoBulkAll elems + uptoBulkAll spare + 1
  | .agg parts => uptoBulkAll parts + 1
  | .iface _ d => uptoBulk d + 1
  | .map entries => uptoBulkEntries entries + 1
  | .held _ => 1
def uptoBulkAll {H : Type} : List (DataW H) → Nat
  | [] => 0
  | d :: r => uptoBulk d + uptoBulkAll r
def uptoBulkEntries {H : Type} : List (Lit × DataW H) → Nat
  | [] => 0
  | x :: r => uptoBulkEntry x + uptoBulkEntries r
def uptoBulkEntry {H : Type} : Lit × DataW H → Nat
  | (.string bytes, d) => bytes.length + uptoBulk d + 1
  | (_, d) => uptoBulk d + 1
 end
def uptoSmall : (H : Type) → List (DataW H) → Bool := fun _ ds => decide (uptoBulkAll ds ≤ 1048576)
def OpenSpec.upto (s : _root_.Go.ChangeSpec) : _root_.Go.OpenSpec := { _root_.Go.OpenSpec.ofChange s with cond := some uptoSmall }

/-- 'crossdocklaw01.GuardPasses', WHERE WHAT IT READS IS OF BULK AT MOST 1048576: true; the input reads as it did. -/
def guardPassesUptoRow : OpenClaim := { program := "ytpdfojofnpbliaa", sum := "eb71b28affd64a1ff20cf388886b71c6cabb0f1d0d10e5009e49a76481fb2a39", func := "crossdock/crossdocklaw01.GuardPasses", spec := "guardPasses", unfollowed := true, recurses := true, apart := false, narrowed := true }
def GuardPassesUptoSaid : Prop := guardPassesUptoRow.holds Try.pinned (OpenSpec.upto guardPassesSpec)

/-- 'crossdocklaw01.GuardPlays', WHERE WHAT IT READS IS OF BULK AT MOST 1048576: true; the input reads as it did. -/
def guardPlaysUptoRow : OpenClaim := { program := "ytpdfojofnpbliaa", sum := "eb71b28affd64a1ff20cf388886b71c6cabb0f1d0d10e5009e49a76481fb2a39", func := "crossdock/crossdocklaw01.GuardPlays", spec := "guardPlays", unfollowed := true, recurses := true, apart := false, narrowed := true }
def GuardPlaysUptoSaid : Prop := guardPlaysUptoRow.holds Try.pinned (OpenSpec.upto guardPlaysSpec)

/-- 'crossdocklaw01.GuardThrows', WHERE WHAT IT READS IS OF BULK AT MOST 1048576: true; the input reads as it did. -/
def guardThrowsUptoRow : OpenClaim := { program := "ytpdfojofnpbliaa", sum := "eb71b28affd64a1ff20cf388886b71c6cabb0f1d0d10e5009e49a76481fb2a39", func := "crossdock/crossdocklaw01.GuardThrows", spec := "guardThrows", unfollowed := true, recurses := true, apart := false, narrowed := true }
def GuardThrowsUptoSaid : Prop := guardThrowsUptoRow.holds Try.pinned (OpenSpec.upto guardThrowsSpec)

/-- 'crossdocklaw01.GuardTells', WHERE WHAT IT READS IS OF BULK AT MOST 1048576: true; the input reads as it did. -/
def guardTellsUptoRow : OpenClaim := { program := "ytpdfojofnpbliaa", sum := "eb71b28affd64a1ff20cf388886b71c6cabb0f1d0d10e5009e49a76481fb2a39", func := "crossdock/crossdocklaw01.GuardTells", spec := "guardTells", unfollowed := true, recurses := true, apart := false, narrowed := true }
def GuardTellsUptoSaid : Prop := guardTellsUptoRow.holds Try.pinned (OpenSpec.upto guardTellsSpec)

end Rows
end Go.Proofs.Ytpdfojofnpbliaa
