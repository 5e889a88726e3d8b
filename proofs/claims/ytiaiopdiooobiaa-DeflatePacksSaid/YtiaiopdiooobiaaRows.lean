/-
  No cell of these rows narrows 'for every input' (looked for: loops, veiled, ifaces, maps, wideKeys, modest, calm, conditions, laid).
  DERIVED. THE GIVEN ROWS OF THIS SEAT. 3 by the template 'for every input the law returns true; each argument reads behind the call as it read before'; 0 by the template 'total and deterministic' (their statements: YtiaiopdiooobiaaTotals.lean).
  GIVEN WITH THE SEED: the statements are not yours to turn. If you find one false, say at which input.
  Laid BY PROGRAM, IN A SANDBOX (cutbox-rows.mjs): the forced cells as the released guide's own fill.sh prints them over the translation aa36dbdabd3e0db4… (all of the seat's roots in one cut). By AI agents, Wed Nov 11 2026. No macro, syntax, notation, axiom, sorry.
-/
import Derived.Test.YtiaiopdiooobiaaChecked
import GoSem.Claim
import GoSem.ClaimJoined
import GoSem.ClaimMapViews
import Derived.JoinedTies
import Derived.KernelRfl
namespace Go.Proofs.Ytiaiopdiooobiaa
/- THE CELL 'sum', in the pinned program and in every row, IS THE sha256 OF THE DUMP (.gsa) THAT YtiaiopdiooobiaaProg.lean LOADS. Nothing in Lean hashes anything: it is a label: what it is worth is what the hold of that sum in a sandbox is worth. -/
noncomputable def Try.pinned : Pinned := { name := "ytiaiopdiooobiaa", sum := "aa36dbdabd3e0db460b63d7f88566d48a5273ea6b57d6003696f6f27803550eb", checked := Try.checked }
namespace Rows
def none {H : Type} : Left H := { results := [], args := [] }

/-- 'crossdocklaw09.DeflateTokens': WHATEVER THE INPUT: true; the input reads as it did. -/
def deflateTokensSpec : ChangeSpec := { name := "deflateTokens", fn := fun _ => fun
  | [d] => { results := [.lit (.bool true)], args := [d] }
  | _ => none }
def deflateTokensRow : OpenClaim := { program := "ytiaiopdiooobiaa", sum := "aa36dbdabd3e0db460b63d7f88566d48a5273ea6b57d6003696f6f27803550eb", func := "crossdock/crossdocklaw09.DeflateTokens", spec := "deflateTokens", apart := false }
def DeflateTokensSaid : Prop := deflateTokensRow.holds Try.pinned (OpenSpec.ofChange deflateTokensSpec)

/-- ITS FALSE NEIGHBOUR: 'it returns false'. Refute it at one input. -/
def deflateTokensWrong : ChangeSpec := { name := "deflateTokens", fn := fun _ => fun
  | [d] => { results := [.lit (.bool false)], args := [d] }
  | _ => none }
def DeflateTokensWrongFalsely : Prop := deflateTokensRow.holds Try.pinned (OpenSpec.ofChange deflateTokensWrong)

/-- 'crossdocklaw09.DeflateUntokens': WHATEVER THE INPUT: true; the input reads as it did. -/
def deflateUntokensSpec : ChangeSpec := { name := "deflateUntokens", fn := fun _ => fun
  | [d] => { results := [.lit (.bool true)], args := [d] }
  | _ => none }
def deflateUntokensRow : OpenClaim := { program := "ytiaiopdiooobiaa", sum := "aa36dbdabd3e0db460b63d7f88566d48a5273ea6b57d6003696f6f27803550eb", func := "crossdock/crossdocklaw09.DeflateUntokens", spec := "deflateUntokens", apart := false }
def DeflateUntokensSaid : Prop := deflateUntokensRow.holds Try.pinned (OpenSpec.ofChange deflateUntokensSpec)

/-- ITS FALSE NEIGHBOUR: 'it returns false'. Refute it at one input. -/
def deflateUntokensWrong : ChangeSpec := { name := "deflateUntokens", fn := fun _ => fun
  | [d] => { results := [.lit (.bool false)], args := [d] }
  | _ => none }
def DeflateUntokensWrongFalsely : Prop := deflateUntokensRow.holds Try.pinned (OpenSpec.ofChange deflateUntokensWrong)

/-- 'crossdocklaw09.DeflatePacks': WHATEVER THE INPUT: true; the input reads as it did. -/
def deflatePacksSpec : ChangeSpec := { name := "deflatePacks", fn := fun _ => fun
  | [d1, d2] => { results := [.lit (.bool true)], args := [d1, d2] }
  | _ => none }
def deflatePacksRow : OpenClaim := { program := "ytiaiopdiooobiaa", sum := "aa36dbdabd3e0db460b63d7f88566d48a5273ea6b57d6003696f6f27803550eb", func := "crossdock/crossdocklaw09.DeflatePacks", spec := "deflatePacks", unfollowed := true, recurses := true, apart := false }
def DeflatePacksSaid : Prop := deflatePacksRow.holds Try.pinned (OpenSpec.ofChange deflatePacksSpec)

/-- ITS FALSE NEIGHBOUR: 'it returns false'. Refute it at one input. -/
def deflatePacksWrong : ChangeSpec := { name := "deflatePacks", fn := fun _ => fun
  | [d1, d2] => { results := [.lit (.bool false)], args := [d1, d2] }
  | _ => none }
def DeflatePacksWrongFalsely : Prop := deflatePacksRow.holds Try.pinned (OpenSpec.ofChange deflatePacksWrong)

/- THE SECOND FORM. 'bulk': how many values and letters a reading holds, each counted each time it is reached (what is shared counts as often as it is met; a slice's spare places count too). A statement '..UptoSaid' is the law's where the arguments, and the package variables that the reading takes, are together of bulk at most 1048576: NARROWER than '..Said'. Prove '..Said' where nothing that the law and all that it calls make is longer than what came in: it says more and counts as full. Else prove '..UptoSaid'. A law counts once. -/
mutual
def uptoBulk {H : Type} : DataW H → Nat
  | .lit (.string bytes) => bytes.length + 1
  | .lit _ => 1
  | .nil => 1
  | .ptr d => uptoBulk d + 1
  | .slice elems spare => uptoBulkAll elems + uptoBulkAll spare + 1
  | .agg parts => uptoBulkAll parts + 1
  | .iface _ d => uptoBulk d + 1
  | .map entries => uptoBulkEntries entries + 1
  | .held _ => 1
def uptoBulkAll {H : Type} : List (DataW H) → Nat
  | [] => 0
  | d :: r => uptoBulk d + uptoBulkAll r
def uptoBulkEntries {H : Type} : List (Lit × DataW H) → Nat
  | [] => 0
  | x :: r => uptoBulkEntry x + uptoBulkEntries r
def uptoBulkEntry {H : Type} : Lit × DataW H → Nat
  | (.string bytes, d) => bytes.length + uptoBulk d + 1
  | (_, d) => uptoBulk d + 1
 end
def uptoSmall : (H : Type) → List (DataW H) → Bool := fun _ ds => decide (uptoBulkAll ds ≤ 1048576)
def OpenSpec.upto (s : _root_.Go.ChangeSpec) : _root_.Go.OpenSpec := { _root_.Go.OpenSpec.ofChange s with cond := some uptoSmall }

/-- 'crossdocklaw09.DeflateTokens', WHERE WHAT IT READS IS OF BULK AT MOST 1048576: true; the input reads as it did. -/
def deflateTokensUptoRow : OpenClaim := { program := "ytiaiopdiooobiaa", sum := "aa36dbdabd3e0db460b63d7f88566d48a5273ea6b57d6003696f6f27803550eb", func := "crossdock/crossdocklaw09.DeflateTokens", spec := "deflateTokens", apart := false, narrowed := true }
def DeflateTokensUptoSaid : Prop := deflateTokensUptoRow.holds Try.pinned (OpenSpec.upto deflateTokensSpec)

/-- 'crossdocklaw09.DeflateUntokens', WHERE WHAT IT READS IS OF BULK AT MOST 1048576: true; the input reads as it did. -/
def deflateUntokensUptoRow : OpenClaim := { program := "ytiaiopdiooobiaa", sum := "aa36dbdabd3e0db460b63d7f88566d48a5273ea6b57d6003696f6f27803550eb", func := "crossdock/crossdocklaw09.DeflateUntokens", spec := "deflateUntokens", apart := false, narrowed := true }
def DeflateUntokensUptoSaid : Prop := deflateUntokensUptoRow.holds Try.pinned (OpenSpec.upto deflateUntokensSpec)

/-- 'crossdocklaw09.DeflatePacks', WHERE WHAT IT READS IS OF BULK AT MOST 1048576: true; the input reads as it did. -/
def deflatePacksUptoRow : OpenClaim := { program := "ytiaiopdiooobiaa", sum := "aa36dbdabd3e0db460b63d7f88566d48a5273ea6b57d6003696f6f27803550eb", func := "crossdock/crossdocklaw09.DeflatePacks", spec := "deflatePacks", unfollowed := true, recurses := true, apart := false, narrowed := true }
def DeflatePacksUptoSaid : Prop := deflatePacksUptoRow.holds Try.pinned (OpenSpec.upto deflatePacksSpec)

end Rows
end Go.Proofs.Ytiaiopdiooobiaa
