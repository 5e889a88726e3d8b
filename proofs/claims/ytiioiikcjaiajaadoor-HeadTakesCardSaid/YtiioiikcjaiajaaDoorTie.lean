/-
  DERIVED. GIVEN WITH THE SEED: THE PROGRAM's TIES (one call each: nine closed facts by the kernel) AND EACH ROW's TIE, after the 31st guide's Derived/Test/Toyas{Tie, Card}.lean. No idea stands in it: it is a product of the set-up. Laid BY PROGRAM, IN A SANDBOX (cutbox-door.mjs). By AI agents, Wed Nov 11 2026. No macro, syntax, notation, axiom, sorry.
-/
import Derived.Test.YtiioiikcjaiajaaDoorRows
import Derived.LaidByTextLater
import Derived.SevenTiedAt
import Derived.LaidSub
import Derived.LaidOnce
namespace Go.Proofs.YtiioiikcjaiajaaDoor
open Go
set_option maxRecDepth 100000
theorem seatTie1 : Tryd.prog.laidByTextLater [("unicode/utf8.acceptRanges", Rows.laid_unicode_utf8_acceptRanges), ("crossdock/head.name", Rows.laid_crossdock_head_name), ("crossdock/head.mode", Rows.laid_crossdock_head_mode), ("crossdock/head.uid", Rows.laid_crossdock_head_uid), ("crossdock/head.gid", Rows.laid_crossdock_head_gid), ("crossdock/head.long", Rows.laid_crossdock_head_long), ("crossdock/head.time", Rows.laid_crossdock_head_time), ("crossdock/head.sum", Rows.laid_crossdock_head_sum), ("crossdock/head.link", Rows.laid_crossdock_head_link), ("crossdock/head.mark", Rows.laid_crossdock_head_mark), ("crossdock/head.user", Rows.laid_crossdock_head_user), ("crossdock/head.group", Rows.laid_crossdock_head_group), ("crossdock/head.major", Rows.laid_crossdock_head_major), ("crossdock/head.minor", Rows.laid_crossdock_head_minor), ("crossdock/head.front", Rows.laid_crossdock_head_front)] [.data, .wider, .data, .data, .data, .data, .data, .wider, .wider, .wider, .wider, .wider, .data, .data, .wider] true :=
  Program.laidByTextLater_by_one 89 8 33 (by kernel_rfl) (by kernel_rfl) (by kernel_rfl) (by kernel_rfl) (by kernel_rfl) (by kernel_rfl) (fun _ _ => by kernel_rfl)
theorem pin_laid_unicode_utf8_first : Tryd.pinned.checked.prog.pinnedFits "unicode/utf8.first" = true := by kernel_rfl
theorem noOwnUnsafe : Tryd.pinned.checked.prog.headLifts.contains "ownunsafe" = false := by kernel_rfl
theorem tie : Tryd.prog.laidByTextLater [("crossdock/head.name", Rows.laid_crossdock_head_name), ("crossdock/head.mode", Rows.laid_crossdock_head_mode), ("crossdock/head.uid", Rows.laid_crossdock_head_uid), ("crossdock/head.gid", Rows.laid_crossdock_head_gid), ("crossdock/head.long", Rows.laid_crossdock_head_long), ("crossdock/head.time", Rows.laid_crossdock_head_time), ("crossdock/head.sum", Rows.laid_crossdock_head_sum), ("crossdock/head.link", Rows.laid_crossdock_head_link), ("crossdock/head.mark", Rows.laid_crossdock_head_mark), ("crossdock/head.user", Rows.laid_crossdock_head_user), ("crossdock/head.group", Rows.laid_crossdock_head_group), ("crossdock/head.major", Rows.laid_crossdock_head_major), ("crossdock/head.minor", Rows.laid_crossdock_head_minor), ("crossdock/head.front", Rows.laid_crossdock_head_front)] [.wider, .data, .data, .data, .data, .data, .wider, .wider, .wider, .wider, .wider, .data, .data, .wider] true :=
  Program.laidByTextLater.sub seatTie1 ["crossdock/head.name", "crossdock/head.mode", "crossdock/head.uid", "crossdock/head.gid", "crossdock/head.long", "crossdock/head.time", "crossdock/head.sum", "crossdock/head.link", "crossdock/head.mark", "crossdock/head.user", "crossdock/head.group", "crossdock/head.major", "crossdock/head.minor", "crossdock/head.front"] (by kernel_rfl) (by kernel_rfl)
theorem headPuts_row_tie : Rows.headPutsRow.laidByTextAt .later Tryd.pinned [.wider, .data, .data, .data, .data, .data, .wider, .wider, .wider, .wider, .wider, .data, .data, .wider] true :=
  OpenClaim.laidByTextAt_later rfl rfl tie noOwnUnsafe
theorem fits2 : Tryd.pinned.checked.prog.listedFits [("unicode/utf8.acceptRanges", Rows.laid_unicode_utf8_acceptRanges), ("crossdock/head.name", Rows.laid_crossdock_head_name), ("crossdock/head.mode", Rows.laid_crossdock_head_mode), ("crossdock/head.uid", Rows.laid_crossdock_head_uid), ("crossdock/head.gid", Rows.laid_crossdock_head_gid), ("crossdock/head.long", Rows.laid_crossdock_head_long), ("crossdock/head.time", Rows.laid_crossdock_head_time), ("crossdock/head.sum", Rows.laid_crossdock_head_sum), ("crossdock/head.link", Rows.laid_crossdock_head_link), ("crossdock/head.mark", Rows.laid_crossdock_head_mark), ("crossdock/head.user", Rows.laid_crossdock_head_user), ("crossdock/head.group", Rows.laid_crossdock_head_group), ("crossdock/head.major", Rows.laid_crossdock_head_major), ("crossdock/head.minor", Rows.laid_crossdock_head_minor), ("crossdock/head.front", Rows.laid_crossdock_head_front), ("unicode/utf8.first", Rows.laid_unicode_utf8_first)] = true := by
  unfold Program.listedFits
  rw [noOwnUnsafe]
  kernel_rfl
theorem tie2 : Tryd.prog.laidByTextLater [("unicode/utf8.acceptRanges", Rows.laid_unicode_utf8_acceptRanges), ("crossdock/head.name", Rows.laid_crossdock_head_name), ("crossdock/head.mode", Rows.laid_crossdock_head_mode), ("crossdock/head.uid", Rows.laid_crossdock_head_uid), ("crossdock/head.gid", Rows.laid_crossdock_head_gid), ("crossdock/head.long", Rows.laid_crossdock_head_long), ("crossdock/head.time", Rows.laid_crossdock_head_time), ("crossdock/head.sum", Rows.laid_crossdock_head_sum), ("crossdock/head.link", Rows.laid_crossdock_head_link), ("crossdock/head.mark", Rows.laid_crossdock_head_mark), ("crossdock/head.user", Rows.laid_crossdock_head_user), ("crossdock/head.group", Rows.laid_crossdock_head_group), ("crossdock/head.major", Rows.laid_crossdock_head_major), ("crossdock/head.minor", Rows.laid_crossdock_head_minor), ("crossdock/head.front", Rows.laid_crossdock_head_front)] [.data, .wider, .data, .data, .data, .data, .data, .wider, .wider, .wider, .wider, .wider, .data, .data, .wider] true :=
  Program.laidByTextLater.sub seatTie1 ["unicode/utf8.acceptRanges", "crossdock/head.name", "crossdock/head.mode", "crossdock/head.uid", "crossdock/head.gid", "crossdock/head.long", "crossdock/head.time", "crossdock/head.sum", "crossdock/head.link", "crossdock/head.mark", "crossdock/head.user", "crossdock/head.group", "crossdock/head.major", "crossdock/head.minor", "crossdock/head.front"] (by kernel_rfl) (by kernel_rfl)
theorem headBack_row_tie : Rows.headBackRow.laidByTextAt .later Tryd.pinned [.data, .wider, .data, .data, .data, .data, .data, .wider, .wider, .wider, .wider, .wider, .data, .data, .wider, .pinned] true :=
  OpenClaim.laidByTextAt_pinned rfl rfl tie2 rfl rfl rfl rfl (fun y hy _e => by
    simp only [Rows.headBackRow, List.zip_cons_cons, List.zip_nil_right, List.mem_cons, List.mem_nil_iff, or_false] at hy
    rcases hy with rfl | rfl | rfl | rfl | rfl | rfl | rfl | rfl | rfl | rfl | rfl | rfl | rfl | rfl | rfl | rfl
    · cases _e
    · cases _e
    · cases _e
    · cases _e
    · cases _e
    · cases _e
    · cases _e
    · cases _e
    · cases _e
    · cases _e
    · cases _e
    · cases _e
    · cases _e
    · cases _e
    · cases _e
    · exact ⟨pin_laid_unicode_utf8_first, by kernel_rfl⟩) fits2
theorem headSpoilt_row_tie : Rows.headSpoiltRow.laidByTextAt .later Tryd.pinned [.data, .wider, .data, .data, .data, .data, .data, .wider, .wider, .wider, .wider, .wider, .data, .data, .wider, .pinned] true :=
  OpenClaim.laidByTextAt_pinned rfl rfl tie2 rfl rfl rfl rfl (fun y hy _e => by
    simp only [Rows.headSpoiltRow, List.zip_cons_cons, List.zip_nil_right, List.mem_cons, List.mem_nil_iff, or_false] at hy
    rcases hy with rfl | rfl | rfl | rfl | rfl | rfl | rfl | rfl | rfl | rfl | rfl | rfl | rfl | rfl | rfl | rfl
    · cases _e
    · cases _e
    · cases _e
    · cases _e
    · cases _e
    · cases _e
    · cases _e
    · cases _e
    · cases _e
    · cases _e
    · cases _e
    · cases _e
    · cases _e
    · cases _e
    · cases _e
    · exact ⟨pin_laid_unicode_utf8_first, by kernel_rfl⟩) fits2
theorem headTakes_row_tie : Rows.headTakesRow.laidByTextAt .later Tryd.pinned [.data, .wider, .data, .data, .data, .data, .data, .wider, .wider, .wider, .wider, .wider, .data, .data, .wider, .pinned] true :=
  OpenClaim.laidByTextAt_pinned rfl rfl tie2 rfl rfl rfl rfl (fun y hy _e => by
    simp only [Rows.headTakesRow, List.zip_cons_cons, List.zip_nil_right, List.mem_cons, List.mem_nil_iff, or_false] at hy
    rcases hy with rfl | rfl | rfl | rfl | rfl | rfl | rfl | rfl | rfl | rfl | rfl | rfl | rfl | rfl | rfl | rfl
    · cases _e
    · cases _e
    · cases _e
    · cases _e
    · cases _e
    · cases _e
    · cases _e
    · cases _e
    · cases _e
    · cases _e
    · cases _e
    · cases _e
    · cases _e
    · cases _e
    · cases _e
    · exact ⟨pin_laid_unicode_utf8_first, by kernel_rfl⟩) fits2
theorem headPutsUpto_row_tie : Rows.headPutsUptoRow.laidByTextAt .later Tryd.pinned [.wider, .data, .data, .data, .data, .data, .wider, .wider, .wider, .wider, .wider, .data, .data, .wider] true :=
  OpenClaim.laidByTextAt_later rfl rfl tie noOwnUnsafe
theorem headBackUpto_row_tie : Rows.headBackUptoRow.laidByTextAt .later Tryd.pinned [.data, .wider, .data, .data, .data, .data, .data, .wider, .wider, .wider, .wider, .wider, .data, .data, .wider, .pinned] true :=
  OpenClaim.laidByTextAt_pinned rfl rfl tie2 rfl rfl rfl rfl (fun y hy _e => by
    simp only [Rows.headBackUptoRow, List.zip_cons_cons, List.zip_nil_right, List.mem_cons, List.mem_nil_iff, or_false] at hy
    rcases hy with rfl | rfl | rfl | rfl | rfl | rfl | rfl | rfl | rfl | rfl | rfl | rfl | rfl | rfl | rfl | rfl
    · cases _e
    · cases _e
    · cases _e
    · cases _e
    · cases _e
    · cases _e
    · cases _e
    · cases _e
    · cases _e
    · cases _e
    · cases _e
    · cases _e
    · cases _e
    · cases _e
    · cases _e
    · exact ⟨pin_laid_unicode_utf8_first, by kernel_rfl⟩) fits2
theorem headSpoiltUpto_row_tie : Rows.headSpoiltUptoRow.laidByTextAt .later Tryd.pinned [.data, .wider, .data, .data, .data, .data, .data, .wider, .wider, .wider, .wider, .wider, .data, .data, .wider, .pinned] true :=
  OpenClaim.laidByTextAt_pinned rfl rfl tie2 rfl rfl rfl rfl (fun y hy _e => by
    simp only [Rows.headSpoiltUptoRow, List.zip_cons_cons, List.zip_nil_right, List.mem_cons, List.mem_nil_iff, or_false] at hy
    rcases hy with rfl | rfl | rfl | rfl | rfl | rfl | rfl | rfl | rfl | rfl | rfl | rfl | rfl | rfl | rfl | rfl
    · cases _e
    · cases _e
    · cases _e
    · cases _e
    · cases _e
    · cases _e
    · cases _e
    · cases _e
    · cases _e
    · cases _e
    · cases _e
    · cases _e
    · cases _e
    · cases _e
    · cases _e
    · exact ⟨pin_laid_unicode_utf8_first, by kernel_rfl⟩) fits2
theorem headTakesUpto_row_tie : Rows.headTakesUptoRow.laidByTextAt .later Tryd.pinned [.data, .wider, .data, .data, .data, .data, .data, .wider, .wider, .wider, .wider, .wider, .data, .data, .wider, .pinned] true :=
  OpenClaim.laidByTextAt_pinned rfl rfl tie2 rfl rfl rfl rfl (fun y hy _e => by
    simp only [Rows.headTakesUptoRow, List.zip_cons_cons, List.zip_nil_right, List.mem_cons, List.mem_nil_iff, or_false] at hy
    rcases hy with rfl | rfl | rfl | rfl | rfl | rfl | rfl | rfl | rfl | rfl | rfl | rfl | rfl | rfl | rfl | rfl
    · cases _e
    · cases _e
    · cases _e
    · cases _e
    · cases _e
    · cases _e
    · cases _e
    · cases _e
    · cases _e
    · cases _e
    · cases _e
    · cases _e
    · cases _e
    · cases _e
    · cases _e
    · exact ⟨pin_laid_unicode_utf8_first, by kernel_rfl⟩) fits2
end Go.Proofs.YtiioiikcjaiajaaDoor
