/-
  DERIVED. GIVEN WITH THE SEED: THE PROGRAM's TIES (one call each: nine closed facts by the kernel) AND EACH ROW's TIE, after the 31st guide's Derived/Test/Toyas{Tie, Card}.lean. No idea stands in it: it is a product of the set-up. Laid BY PROGRAM, IN A SANDBOX (cutbox-door.mjs). By AI agents, Wed Nov 11 2026. No macro, syntax, notation, axiom, sorry.
-/
import Derived.Test.YthpnncbndnjoaaaDoorRows
import Derived.LaidByTextLater
import Derived.SevenTiedAt
import Derived.LaidSub
import Derived.LaidOnce
namespace Go.Proofs.YthpnncbndnjoaaaDoor
open Go
set_option maxRecDepth 100000
theorem seatTie1 : Tryd.prog.laidByTextLater [("crossdock/crc.table", Rows.laid_crossdock_crc_table), ("crossdock/inflate.order", Rows.laid_crossdock_inflate_order)] [.data, .widerDeep] true :=
  Program.laidByTextLater_by_one 19 8 20 (by kernel_rfl) (by kernel_rfl) (by kernel_rfl) (by kernel_rfl) (by kernel_rfl) (by kernel_rfl) (fun _ _ => by kernel_rfl)
theorem noOwnUnsafe : Tryd.pinned.checked.prog.headLifts.contains "ownunsafe" = false := by kernel_rfl
theorem tie : Tryd.prog.laidByTextLater [("crossdock/crc.table", Rows.laid_crossdock_crc_table)] [.data] true :=
  Program.laidByTextLater.sub seatTie1 ["crossdock/crc.table"] (by kernel_rfl) (by kernel_rfl)
theorem gzipPacks_row_tie : Rows.gzipPacksRow.laidByTextAt .later Tryd.pinned [.data] true :=
  OpenClaim.laidByTextAt_later rfl rfl tie noOwnUnsafe
theorem tie2 : Tryd.prog.laidByTextLater [("crossdock/crc.table", Rows.laid_crossdock_crc_table), ("crossdock/inflate.order", Rows.laid_crossdock_inflate_order)] [.data, .widerDeep] true :=
  Program.laidByTextLater.sub seatTie1 ["crossdock/crc.table", "crossdock/inflate.order"] (by kernel_rfl) (by kernel_rfl)
theorem gzipBack_row_tie : Rows.gzipBackRow.laidByTextAt .later Tryd.pinned [.data, .widerDeep] true :=
  OpenClaim.laidByTextAt_later rfl rfl tie2 noOwnUnsafe
theorem gzipSpoilt_row_tie : Rows.gzipSpoiltRow.laidByTextAt .later Tryd.pinned [.data, .widerDeep] true :=
  OpenClaim.laidByTextAt_later rfl rfl tie2 noOwnUnsafe
theorem gzipPacksUpto_row_tie : Rows.gzipPacksUptoRow.laidByTextAt .later Tryd.pinned [.data] true :=
  OpenClaim.laidByTextAt_later rfl rfl tie noOwnUnsafe
theorem gzipBackUpto_row_tie : Rows.gzipBackUptoRow.laidByTextAt .later Tryd.pinned [.data, .widerDeep] true :=
  OpenClaim.laidByTextAt_later rfl rfl tie2 noOwnUnsafe
theorem gzipSpoiltUpto_row_tie : Rows.gzipSpoiltUptoRow.laidByTextAt .later Tryd.pinned [.data, .widerDeep] true :=
  OpenClaim.laidByTextAt_later rfl rfl tie2 noOwnUnsafe
end Go.Proofs.YthpnncbndnjoaaaDoor
