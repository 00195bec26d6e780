/-
  DERIVED. GIVEN WITH THE SEED: THE PROGRAM's TIES (one call each: nine closed facts by the kernel) AND EACH ROW's TIE, after the 31st guide's Derived/Test/Toyas{Tie, Card}.lean. No idea stands in it: it is a product of the set-up. Laid BY PROGRAM, IN A SANDBOX (cutbox-door.mjs). By AI agents, Wed Nov 11 2026. No macro, syntax, notation, axiom, sorry.
-/
import Derived.Test.YtofhnglgebllbaaDoorRows
import Derived.LaidByTextLater
import Derived.SevenTiedAt
import Derived.LaidSub
import Derived.LaidOnce
namespace Go.Proofs.YtofhnglgebllbaaDoor
open Go
set_option maxRecDepth 100000
theorem seatTie1 : Tryd.prog.laidByTextLater [("unicode/utf8.acceptRanges", Rows.laid_unicode_utf8_acceptRanges), ("errors.errorType", Rows.laid_errors_errorType), ("pigeonholes/api.ErrText", Rows.laid_pigeonholes_api_ErrText), ("pigeonholes/api.ErrBound", Rows.laid_pigeonholes_api_ErrBound), ("pigeonholes/api.ErrShape", Rows.laid_pigeonholes_api_ErrShape), ("pigeonholes/api.ErrName", Rows.laid_pigeonholes_api_ErrName), ("pigeonholes/api.ErrNone", Rows.laid_pigeonholes_api_ErrNone), ("pigeonholes/api.ErrExist", Rows.laid_pigeonholes_api_ErrExist), ("pigeonholes/api.ErrDir", Rows.laid_pigeonholes_api_ErrDir), ("pigeonholes/api.ErrFile", Rows.laid_pigeonholes_api_ErrFile), ("pigeonholes/api.ErrFull", Rows.laid_pigeonholes_api_ErrFull), ("pigeonholes/api.ErrStale", Rows.laid_pigeonholes_api_ErrStale), ("pigeonholes/api.ErrHeld", Rows.laid_pigeonholes_api_ErrHeld), ("pigeonholes/api.ErrSeq", Rows.laid_pigeonholes_api_ErrSeq), ("pigeonholes/api.ErrOld", Rows.laid_pigeonholes_api_ErrOld), ("pigeonholes/api.ErrGrace", Rows.laid_pigeonholes_api_ErrGrace), ("pigeonholes/api.ErrPower", Rows.laid_pigeonholes_api_ErrPower)] [.data, .handle, .sentinel, .sentinel, .sentinel, .sentinel, .sentinel, .sentinel, .sentinel, .sentinel, .sentinel, .sentinel, .sentinel, .sentinel, .sentinel, .sentinel, .sentinel] true :=
  Program.laidByTextLater_by_one 311 8 33 (by kernel_rfl) (by kernel_rfl) (by kernel_rfl) (by kernel_rfl) (by kernel_rfl) (by kernel_rfl) (fun _ _ => by kernel_rfl)
theorem pin_laid_unicode_utf8_first : Tryd.pinned.checked.prog.pinnedFits "unicode/utf8.first" = true := by kernel_rfl
theorem noOwnUnsafe : Tryd.pinned.checked.prog.headLifts.contains "ownunsafe" = false := by kernel_rfl
theorem tie : Tryd.prog.laidByTextLater [("errors.errorType", Rows.laid_errors_errorType), ("pigeonholes/api.ErrText", Rows.laid_pigeonholes_api_ErrText), ("pigeonholes/api.ErrBound", Rows.laid_pigeonholes_api_ErrBound), ("pigeonholes/api.ErrShape", Rows.laid_pigeonholes_api_ErrShape), ("pigeonholes/api.ErrName", Rows.laid_pigeonholes_api_ErrName), ("pigeonholes/api.ErrNone", Rows.laid_pigeonholes_api_ErrNone), ("pigeonholes/api.ErrExist", Rows.laid_pigeonholes_api_ErrExist), ("pigeonholes/api.ErrDir", Rows.laid_pigeonholes_api_ErrDir), ("pigeonholes/api.ErrFile", Rows.laid_pigeonholes_api_ErrFile), ("pigeonholes/api.ErrFull", Rows.laid_pigeonholes_api_ErrFull), ("pigeonholes/api.ErrStale", Rows.laid_pigeonholes_api_ErrStale), ("pigeonholes/api.ErrHeld", Rows.laid_pigeonholes_api_ErrHeld), ("pigeonholes/api.ErrSeq", Rows.laid_pigeonholes_api_ErrSeq), ("pigeonholes/api.ErrOld", Rows.laid_pigeonholes_api_ErrOld), ("pigeonholes/api.ErrGrace", Rows.laid_pigeonholes_api_ErrGrace), ("pigeonholes/api.ErrPower", Rows.laid_pigeonholes_api_ErrPower)] [.handle, .sentinel, .sentinel, .sentinel, .sentinel, .sentinel, .sentinel, .sentinel, .sentinel, .sentinel, .sentinel, .sentinel, .sentinel, .sentinel, .sentinel, .sentinel] true :=
  Program.laidByTextLater.sub seatTie1 ["errors.errorType", "pigeonholes/api.ErrText", "pigeonholes/api.ErrBound", "pigeonholes/api.ErrShape", "pigeonholes/api.ErrName", "pigeonholes/api.ErrNone", "pigeonholes/api.ErrExist", "pigeonholes/api.ErrDir", "pigeonholes/api.ErrFile", "pigeonholes/api.ErrFull", "pigeonholes/api.ErrStale", "pigeonholes/api.ErrHeld", "pigeonholes/api.ErrSeq", "pigeonholes/api.ErrOld", "pigeonholes/api.ErrGrace", "pigeonholes/api.ErrPower"] (by kernel_rfl) (by kernel_rfl)
theorem treeFull_row_tie : Rows.treeFullRow.laidByTextAt .later Tryd.pinned [.handle, .sentinel, .sentinel, .sentinel, .sentinel, .sentinel, .sentinel, .sentinel, .sentinel, .sentinel, .sentinel, .sentinel, .sentinel, .sentinel, .sentinel, .sentinel] true :=
  OpenClaim.laidByTextAt_later rfl rfl tie noOwnUnsafe
theorem netActs_row_tie : Rows.netActsRow.laidByTextAt .later Tryd.pinned [.handle, .sentinel, .sentinel, .sentinel, .sentinel, .sentinel, .sentinel, .sentinel, .sentinel, .sentinel, .sentinel, .sentinel, .sentinel, .sentinel, .sentinel, .sentinel] true :=
  OpenClaim.laidByTextAt_later rfl rfl tie noOwnUnsafe
theorem callNew_row_tie : Rows.callNewRow.laidByTextAt .later Tryd.pinned [.handle, .sentinel, .sentinel, .sentinel, .sentinel, .sentinel, .sentinel, .sentinel, .sentinel, .sentinel, .sentinel, .sentinel, .sentinel, .sentinel, .sentinel, .sentinel] true :=
  OpenClaim.laidByTextAt_later rfl rfl tie noOwnUnsafe
theorem lockFull_row_tie : Rows.lockFullRow.laidByTextAt .later Tryd.pinned [.handle, .sentinel, .sentinel, .sentinel, .sentinel, .sentinel, .sentinel, .sentinel, .sentinel, .sentinel, .sentinel, .sentinel, .sentinel, .sentinel, .sentinel, .sentinel] true :=
  OpenClaim.laidByTextAt_later rfl rfl tie noOwnUnsafe
theorem lockBytes_row_tie : Rows.lockBytesRow.laidByTextAt .later Tryd.pinned [.handle, .sentinel, .sentinel, .sentinel, .sentinel, .sentinel, .sentinel, .sentinel, .sentinel, .sentinel, .sentinel, .sentinel, .sentinel, .sentinel, .sentinel, .sentinel] true :=
  OpenClaim.laidByTextAt_later rfl rfl tie noOwnUnsafe
theorem shareActs_row_tie : Rows.shareActsRow.laidByTextAt .later Tryd.pinned [.handle, .sentinel, .sentinel, .sentinel, .sentinel, .sentinel, .sentinel, .sentinel, .sentinel, .sentinel, .sentinel, .sentinel, .sentinel, .sentinel, .sentinel, .sentinel] true :=
  OpenClaim.laidByTextAt_later rfl rfl tie noOwnUnsafe
theorem leaseActs_row_tie : Rows.leaseActsRow.laidByTextAt .later Tryd.pinned [.handle, .sentinel, .sentinel, .sentinel, .sentinel, .sentinel, .sentinel, .sentinel, .sentinel, .sentinel, .sentinel, .sentinel, .sentinel, .sentinel, .sentinel, .sentinel] true :=
  OpenClaim.laidByTextAt_later rfl rfl tie noOwnUnsafe
theorem leaseKeeps_row_tie : Rows.leaseKeepsRow.laidByTextAt .later Tryd.pinned [.handle, .sentinel, .sentinel, .sentinel, .sentinel, .sentinel, .sentinel, .sentinel, .sentinel, .sentinel, .sentinel, .sentinel, .sentinel, .sentinel, .sentinel, .sentinel] true :=
  OpenClaim.laidByTextAt_later rfl rfl tie noOwnUnsafe
theorem lockActs_row_tie : Rows.lockActsRow.laidByTextAt .later Tryd.pinned [.handle, .sentinel, .sentinel, .sentinel, .sentinel, .sentinel, .sentinel, .sentinel, .sentinel, .sentinel, .sentinel, .sentinel, .sentinel, .sentinel, .sentinel, .sentinel] true :=
  OpenClaim.laidByTextAt_later rfl rfl tie noOwnUnsafe
theorem tie2 : Tryd.prog.laidByTextLater [("pigeonholes/api.ErrBound", Rows.laid_pigeonholes_api_ErrBound), ("pigeonholes/api.ErrShape", Rows.laid_pigeonholes_api_ErrShape), ("pigeonholes/api.ErrNone", Rows.laid_pigeonholes_api_ErrNone), ("pigeonholes/api.ErrFull", Rows.laid_pigeonholes_api_ErrFull), ("pigeonholes/api.ErrHeld", Rows.laid_pigeonholes_api_ErrHeld)] [.sentinel, .sentinel, .sentinel, .sentinel, .sentinel] true :=
  Program.laidByTextLater.sub seatTie1 ["pigeonholes/api.ErrBound", "pigeonholes/api.ErrShape", "pigeonholes/api.ErrNone", "pigeonholes/api.ErrFull", "pigeonholes/api.ErrHeld"] (by kernel_rfl) (by kernel_rfl)
theorem shareSound_row_tie : Rows.shareSoundRow.laidByTextAt .later Tryd.pinned [.sentinel, .sentinel, .sentinel, .sentinel, .sentinel] true :=
  OpenClaim.laidByTextAt_later rfl rfl tie2 noOwnUnsafe
theorem tie3 : Tryd.prog.laidByTextLater [("pigeonholes/api.ErrBound", Rows.laid_pigeonholes_api_ErrBound), ("pigeonholes/api.ErrFull", Rows.laid_pigeonholes_api_ErrFull), ("pigeonholes/api.ErrHeld", Rows.laid_pigeonholes_api_ErrHeld)] [.sentinel, .sentinel, .sentinel] true :=
  Program.laidByTextLater.sub seatTie1 ["pigeonholes/api.ErrBound", "pigeonholes/api.ErrFull", "pigeonholes/api.ErrHeld"] (by kernel_rfl) (by kernel_rfl)
theorem lockSound_row_tie : Rows.lockSoundRow.laidByTextAt .later Tryd.pinned [.sentinel, .sentinel, .sentinel] true :=
  OpenClaim.laidByTextAt_later rfl rfl tie3 noOwnUnsafe
theorem fits4 : Tryd.pinned.checked.prog.listedFits [("unicode/utf8.acceptRanges", Rows.laid_unicode_utf8_acceptRanges), ("errors.errorType", Rows.laid_errors_errorType), ("pigeonholes/api.ErrText", Rows.laid_pigeonholes_api_ErrText), ("pigeonholes/api.ErrBound", Rows.laid_pigeonholes_api_ErrBound), ("pigeonholes/api.ErrShape", Rows.laid_pigeonholes_api_ErrShape), ("pigeonholes/api.ErrName", Rows.laid_pigeonholes_api_ErrName), ("pigeonholes/api.ErrNone", Rows.laid_pigeonholes_api_ErrNone), ("pigeonholes/api.ErrExist", Rows.laid_pigeonholes_api_ErrExist), ("pigeonholes/api.ErrDir", Rows.laid_pigeonholes_api_ErrDir), ("pigeonholes/api.ErrFile", Rows.laid_pigeonholes_api_ErrFile), ("pigeonholes/api.ErrFull", Rows.laid_pigeonholes_api_ErrFull), ("pigeonholes/api.ErrStale", Rows.laid_pigeonholes_api_ErrStale), ("pigeonholes/api.ErrHeld", Rows.laid_pigeonholes_api_ErrHeld), ("pigeonholes/api.ErrSeq", Rows.laid_pigeonholes_api_ErrSeq), ("pigeonholes/api.ErrOld", Rows.laid_pigeonholes_api_ErrOld), ("pigeonholes/api.ErrGrace", Rows.laid_pigeonholes_api_ErrGrace), ("pigeonholes/api.ErrPower", Rows.laid_pigeonholes_api_ErrPower), ("unicode/utf8.first", Rows.laid_unicode_utf8_first)] = true := by
  unfold Program.listedFits
  rw [noOwnUnsafe]
  kernel_rfl
theorem tie4 : Tryd.prog.laidByTextLater [("unicode/utf8.acceptRanges", Rows.laid_unicode_utf8_acceptRanges), ("errors.errorType", Rows.laid_errors_errorType), ("pigeonholes/api.ErrText", Rows.laid_pigeonholes_api_ErrText), ("pigeonholes/api.ErrBound", Rows.laid_pigeonholes_api_ErrBound), ("pigeonholes/api.ErrShape", Rows.laid_pigeonholes_api_ErrShape), ("pigeonholes/api.ErrName", Rows.laid_pigeonholes_api_ErrName), ("pigeonholes/api.ErrNone", Rows.laid_pigeonholes_api_ErrNone), ("pigeonholes/api.ErrExist", Rows.laid_pigeonholes_api_ErrExist), ("pigeonholes/api.ErrDir", Rows.laid_pigeonholes_api_ErrDir), ("pigeonholes/api.ErrFile", Rows.laid_pigeonholes_api_ErrFile), ("pigeonholes/api.ErrFull", Rows.laid_pigeonholes_api_ErrFull), ("pigeonholes/api.ErrStale", Rows.laid_pigeonholes_api_ErrStale), ("pigeonholes/api.ErrHeld", Rows.laid_pigeonholes_api_ErrHeld), ("pigeonholes/api.ErrSeq", Rows.laid_pigeonholes_api_ErrSeq), ("pigeonholes/api.ErrOld", Rows.laid_pigeonholes_api_ErrOld), ("pigeonholes/api.ErrGrace", Rows.laid_pigeonholes_api_ErrGrace), ("pigeonholes/api.ErrPower", Rows.laid_pigeonholes_api_ErrPower)] [.data, .handle, .sentinel, .sentinel, .sentinel, .sentinel, .sentinel, .sentinel, .sentinel, .sentinel, .sentinel, .sentinel, .sentinel, .sentinel, .sentinel, .sentinel, .sentinel] true :=
  Program.laidByTextLater.sub seatTie1 ["unicode/utf8.acceptRanges", "errors.errorType", "pigeonholes/api.ErrText", "pigeonholes/api.ErrBound", "pigeonholes/api.ErrShape", "pigeonholes/api.ErrName", "pigeonholes/api.ErrNone", "pigeonholes/api.ErrExist", "pigeonholes/api.ErrDir", "pigeonholes/api.ErrFile", "pigeonholes/api.ErrFull", "pigeonholes/api.ErrStale", "pigeonholes/api.ErrHeld", "pigeonholes/api.ErrSeq", "pigeonholes/api.ErrOld", "pigeonholes/api.ErrGrace", "pigeonholes/api.ErrPower"] (by kernel_rfl) (by kernel_rfl)
theorem callCodes_row_tie : Rows.callCodesRow.laidByTextAt .later Tryd.pinned [.data, .handle, .sentinel, .sentinel, .sentinel, .sentinel, .sentinel, .sentinel, .sentinel, .sentinel, .sentinel, .sentinel, .sentinel, .sentinel, .sentinel, .sentinel, .sentinel, .pinned] true :=
  OpenClaim.laidByTextAt_pinned rfl rfl tie4 rfl rfl rfl rfl (fun y hy _e => by
    simp only [Rows.callCodesRow, List.zip_cons_cons, List.zip_nil_right, List.mem_cons, List.mem_nil_iff, or_false] at hy
    rcases hy with rfl | rfl | rfl | rfl | rfl | rfl | rfl | rfl | rfl | rfl | rfl | rfl | rfl | rfl | rfl | rfl | rfl | rfl
    · cases _e
    · cases _e
    · cases _e
    · cases _e
    · cases _e
    · cases _e
    · cases _e
    · cases _e
    · cases _e
    · cases _e
    · cases _e
    · cases _e
    · cases _e
    · cases _e
    · cases _e
    · cases _e
    · cases _e
    · exact ⟨pin_laid_unicode_utf8_first, by kernel_rfl⟩) fits4
theorem treeFullUpto_row_tie : Rows.treeFullUptoRow.laidByTextAt .later Tryd.pinned [.handle, .sentinel, .sentinel, .sentinel, .sentinel, .sentinel, .sentinel, .sentinel, .sentinel, .sentinel, .sentinel, .sentinel, .sentinel, .sentinel, .sentinel, .sentinel] true :=
  OpenClaim.laidByTextAt_later rfl rfl tie noOwnUnsafe
theorem netActsUpto_row_tie : Rows.netActsUptoRow.laidByTextAt .later Tryd.pinned [.handle, .sentinel, .sentinel, .sentinel, .sentinel, .sentinel, .sentinel, .sentinel, .sentinel, .sentinel, .sentinel, .sentinel, .sentinel, .sentinel, .sentinel, .sentinel] true :=
  OpenClaim.laidByTextAt_later rfl rfl tie noOwnUnsafe
theorem shareSoundUpto_row_tie : Rows.shareSoundUptoRow.laidByTextAt .later Tryd.pinned [.sentinel, .sentinel, .sentinel, .sentinel, .sentinel] true :=
  OpenClaim.laidByTextAt_later rfl rfl tie2 noOwnUnsafe
theorem callNewUpto_row_tie : Rows.callNewUptoRow.laidByTextAt .later Tryd.pinned [.handle, .sentinel, .sentinel, .sentinel, .sentinel, .sentinel, .sentinel, .sentinel, .sentinel, .sentinel, .sentinel, .sentinel, .sentinel, .sentinel, .sentinel, .sentinel] true :=
  OpenClaim.laidByTextAt_later rfl rfl tie noOwnUnsafe
theorem lockSoundUpto_row_tie : Rows.lockSoundUptoRow.laidByTextAt .later Tryd.pinned [.sentinel, .sentinel, .sentinel] true :=
  OpenClaim.laidByTextAt_later rfl rfl tie3 noOwnUnsafe
theorem lockFullUpto_row_tie : Rows.lockFullUptoRow.laidByTextAt .later Tryd.pinned [.handle, .sentinel, .sentinel, .sentinel, .sentinel, .sentinel, .sentinel, .sentinel, .sentinel, .sentinel, .sentinel, .sentinel, .sentinel, .sentinel, .sentinel, .sentinel] true :=
  OpenClaim.laidByTextAt_later rfl rfl tie noOwnUnsafe
theorem lockBytesUpto_row_tie : Rows.lockBytesUptoRow.laidByTextAt .later Tryd.pinned [.handle, .sentinel, .sentinel, .sentinel, .sentinel, .sentinel, .sentinel, .sentinel, .sentinel, .sentinel, .sentinel, .sentinel, .sentinel, .sentinel, .sentinel, .sentinel] true :=
  OpenClaim.laidByTextAt_later rfl rfl tie noOwnUnsafe
theorem shareActsUpto_row_tie : Rows.shareActsUptoRow.laidByTextAt .later Tryd.pinned [.handle, .sentinel, .sentinel, .sentinel, .sentinel, .sentinel, .sentinel, .sentinel, .sentinel, .sentinel, .sentinel, .sentinel, .sentinel, .sentinel, .sentinel, .sentinel] true :=
  OpenClaim.laidByTextAt_later rfl rfl tie noOwnUnsafe
theorem leaseActsUpto_row_tie : Rows.leaseActsUptoRow.laidByTextAt .later Tryd.pinned [.handle, .sentinel, .sentinel, .sentinel, .sentinel, .sentinel, .sentinel, .sentinel, .sentinel, .sentinel, .sentinel, .sentinel, .sentinel, .sentinel, .sentinel, .sentinel] true :=
  OpenClaim.laidByTextAt_later rfl rfl tie noOwnUnsafe
theorem leaseKeepsUpto_row_tie : Rows.leaseKeepsUptoRow.laidByTextAt .later Tryd.pinned [.handle, .sentinel, .sentinel, .sentinel, .sentinel, .sentinel, .sentinel, .sentinel, .sentinel, .sentinel, .sentinel, .sentinel, .sentinel, .sentinel, .sentinel, .sentinel] true :=
  OpenClaim.laidByTextAt_later rfl rfl tie noOwnUnsafe
theorem callCodesUpto_row_tie : Rows.callCodesUptoRow.laidByTextAt .later Tryd.pinned [.data, .handle, .sentinel, .sentinel, .sentinel, .sentinel, .sentinel, .sentinel, .sentinel, .sentinel, .sentinel, .sentinel, .sentinel, .sentinel, .sentinel, .sentinel, .sentinel, .pinned] true :=
  OpenClaim.laidByTextAt_pinned rfl rfl tie4 rfl rfl rfl rfl (fun y hy _e => by
    simp only [Rows.callCodesUptoRow, List.zip_cons_cons, List.zip_nil_right, List.mem_cons, List.mem_nil_iff, or_false] at hy
    rcases hy with rfl | rfl | rfl | rfl | rfl | rfl | rfl | rfl | rfl | rfl | rfl | rfl | rfl | rfl | rfl | rfl | rfl | rfl
    · cases _e
    · cases _e
    · cases _e
    · cases _e
    · cases _e
    · cases _e
    · cases _e
    · cases _e
    · cases _e
    · cases _e
    · cases _e
    · cases _e
    · cases _e
    · cases _e
    · cases _e
    · cases _e
    · cases _e
    · exact ⟨pin_laid_unicode_utf8_first, by kernel_rfl⟩) fits4
theorem lockActsUpto_row_tie : Rows.lockActsUptoRow.laidByTextAt .later Tryd.pinned [.handle, .sentinel, .sentinel, .sentinel, .sentinel, .sentinel, .sentinel, .sentinel, .sentinel, .sentinel, .sentinel, .sentinel, .sentinel, .sentinel, .sentinel, .sentinel] true :=
  OpenClaim.laidByTextAt_later rfl rfl tie noOwnUnsafe
end Go.Proofs.YtofhnglgebllbaaDoor
