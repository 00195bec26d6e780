/-
  DERIVED. GIVEN WITH THE SEED: THE PROGRAM's TIES (one call each: nine closed facts by the kernel) AND EACH ROW's TIE, after the 31st guide's Derived/Test/Toyas{Tie, Card}.lean. No idea stands in it: it is a product of the set-up. Laid BY PROGRAM, IN A SANDBOX (cutbox-door.mjs). By AI agents, Wed Nov 11 2026. No macro, syntax, notation, axiom, sorry.
-/
import Derived.Test.YtfekiagdnlnggaaDoorRows
import Derived.LaidByTextLater
import Derived.SevenTiedAt
import Derived.LaidSub
import Derived.LaidOnce
namespace Go.Proofs.YtfekiagdnlnggaaDoor
open Go
set_option maxRecDepth 100000
theorem seatTie1 : Tryd.prog.laidByTextLater [("errors.errorType", Rows.laid_errors_errorType), ("pigeonholes/api.ErrText", Rows.laid_pigeonholes_api_ErrText), ("pigeonholes/api.ErrBound", Rows.laid_pigeonholes_api_ErrBound), ("pigeonholes/api.ErrShape", Rows.laid_pigeonholes_api_ErrShape), ("pigeonholes/api.ErrName", Rows.laid_pigeonholes_api_ErrName), ("pigeonholes/api.ErrNone", Rows.laid_pigeonholes_api_ErrNone), ("pigeonholes/api.ErrExist", Rows.laid_pigeonholes_api_ErrExist), ("pigeonholes/api.ErrDir", Rows.laid_pigeonholes_api_ErrDir), ("pigeonholes/api.ErrFile", Rows.laid_pigeonholes_api_ErrFile), ("pigeonholes/api.ErrFull", Rows.laid_pigeonholes_api_ErrFull), ("pigeonholes/api.ErrStale", Rows.laid_pigeonholes_api_ErrStale), ("pigeonholes/api.ErrHeld", Rows.laid_pigeonholes_api_ErrHeld), ("pigeonholes/api.ErrSeq", Rows.laid_pigeonholes_api_ErrSeq), ("pigeonholes/api.ErrOld", Rows.laid_pigeonholes_api_ErrOld), ("pigeonholes/api.ErrGrace", Rows.laid_pigeonholes_api_ErrGrace), ("pigeonholes/api.ErrPower", Rows.laid_pigeonholes_api_ErrPower)] [.handle, .sentinel, .sentinel, .sentinel, .sentinel, .sentinel, .sentinel, .sentinel, .sentinel, .sentinel, .sentinel, .sentinel, .sentinel, .sentinel, .sentinel, .sentinel] true :=
  Program.laidByTextLater_by_one 301 8 2 (by kernel_rfl) (by kernel_rfl) (by kernel_rfl) (by kernel_rfl) (by kernel_rfl) (by kernel_rfl) (fun _ _ => by kernel_rfl)
theorem noOwnUnsafe : Tryd.pinned.checked.prog.headLifts.contains "ownunsafe" = false := by kernel_rfl
theorem tie : Tryd.prog.laidByTextLater [("pigeonholes/api.ErrBound", Rows.laid_pigeonholes_api_ErrBound), ("pigeonholes/api.ErrFull", Rows.laid_pigeonholes_api_ErrFull), ("pigeonholes/api.ErrSeq", Rows.laid_pigeonholes_api_ErrSeq)] [.sentinel, .sentinel, .sentinel] true :=
  Program.laidByTextLater.sub seatTie1 ["pigeonholes/api.ErrBound", "pigeonholes/api.ErrFull", "pigeonholes/api.ErrSeq"] (by kernel_rfl) (by kernel_rfl)
theorem turnGoes_row_tie : Rows.turnGoesRow.laidByTextAt .later Tryd.pinned [.sentinel, .sentinel, .sentinel] true :=
  OpenClaim.laidByTextAt_later rfl rfl tie noOwnUnsafe
theorem tie2 : Tryd.prog.laidByTextLater [("pigeonholes/api.ErrBound", Rows.laid_pigeonholes_api_ErrBound), ("pigeonholes/api.ErrExist", Rows.laid_pigeonholes_api_ErrExist), ("pigeonholes/api.ErrSeq", Rows.laid_pigeonholes_api_ErrSeq)] [.sentinel, .sentinel, .sentinel] true :=
  Program.laidByTextLater.sub seatTie1 ["pigeonholes/api.ErrBound", "pigeonholes/api.ErrExist", "pigeonholes/api.ErrSeq"] (by kernel_rfl) (by kernel_rfl)
theorem cacheLast_row_tie : Rows.cacheLastRow.laidByTextAt .later Tryd.pinned [.sentinel, .sentinel, .sentinel] true :=
  OpenClaim.laidByTextAt_later rfl rfl tie2 noOwnUnsafe
theorem tie3 : Tryd.prog.laidByTextLater [("pigeonholes/api.ErrBound", Rows.laid_pigeonholes_api_ErrBound)] [.sentinel] true :=
  Program.laidByTextLater.sub seatTie1 ["pigeonholes/api.ErrBound"] (by kernel_rfl) (by kernel_rfl)
theorem dataKeeps_row_tie : Rows.dataKeepsRow.laidByTextAt .later Tryd.pinned [.sentinel] true :=
  OpenClaim.laidByTextAt_later rfl rfl tie3 noOwnUnsafe
theorem tie4 : Tryd.prog.laidByTextLater [("errors.errorType", Rows.laid_errors_errorType), ("pigeonholes/api.ErrText", Rows.laid_pigeonholes_api_ErrText), ("pigeonholes/api.ErrBound", Rows.laid_pigeonholes_api_ErrBound), ("pigeonholes/api.ErrShape", Rows.laid_pigeonholes_api_ErrShape), ("pigeonholes/api.ErrName", Rows.laid_pigeonholes_api_ErrName), ("pigeonholes/api.ErrNone", Rows.laid_pigeonholes_api_ErrNone), ("pigeonholes/api.ErrExist", Rows.laid_pigeonholes_api_ErrExist), ("pigeonholes/api.ErrDir", Rows.laid_pigeonholes_api_ErrDir), ("pigeonholes/api.ErrFile", Rows.laid_pigeonholes_api_ErrFile), ("pigeonholes/api.ErrFull", Rows.laid_pigeonholes_api_ErrFull), ("pigeonholes/api.ErrStale", Rows.laid_pigeonholes_api_ErrStale), ("pigeonholes/api.ErrHeld", Rows.laid_pigeonholes_api_ErrHeld), ("pigeonholes/api.ErrSeq", Rows.laid_pigeonholes_api_ErrSeq), ("pigeonholes/api.ErrOld", Rows.laid_pigeonholes_api_ErrOld), ("pigeonholes/api.ErrGrace", Rows.laid_pigeonholes_api_ErrGrace), ("pigeonholes/api.ErrPower", Rows.laid_pigeonholes_api_ErrPower)] [.handle, .sentinel, .sentinel, .sentinel, .sentinel, .sentinel, .sentinel, .sentinel, .sentinel, .sentinel, .sentinel, .sentinel, .sentinel, .sentinel, .sentinel, .sentinel] true :=
  Program.laidByTextLater.sub seatTie1 ["errors.errorType", "pigeonholes/api.ErrText", "pigeonholes/api.ErrBound", "pigeonholes/api.ErrShape", "pigeonholes/api.ErrName", "pigeonholes/api.ErrNone", "pigeonholes/api.ErrExist", "pigeonholes/api.ErrDir", "pigeonholes/api.ErrFile", "pigeonholes/api.ErrFull", "pigeonholes/api.ErrStale", "pigeonholes/api.ErrHeld", "pigeonholes/api.ErrSeq", "pigeonholes/api.ErrOld", "pigeonholes/api.ErrGrace", "pigeonholes/api.ErrPower"] (by kernel_rfl) (by kernel_rfl)
theorem names_row_tie : Rows.namesRow.laidByTextAt .later Tryd.pinned [.handle, .sentinel, .sentinel, .sentinel, .sentinel, .sentinel, .sentinel, .sentinel, .sentinel, .sentinel, .sentinel, .sentinel, .sentinel, .sentinel, .sentinel, .sentinel] true :=
  OpenClaim.laidByTextAt_later rfl rfl tie4 noOwnUnsafe
theorem cacheActs_row_tie : Rows.cacheActsRow.laidByTextAt .later Tryd.pinned [.handle, .sentinel, .sentinel, .sentinel, .sentinel, .sentinel, .sentinel, .sentinel, .sentinel, .sentinel, .sentinel, .sentinel, .sentinel, .sentinel, .sentinel, .sentinel] true :=
  OpenClaim.laidByTextAt_later rfl rfl tie4 noOwnUnsafe
theorem turnActs_row_tie : Rows.turnActsRow.laidByTextAt .later Tryd.pinned [.handle, .sentinel, .sentinel, .sentinel, .sentinel, .sentinel, .sentinel, .sentinel, .sentinel, .sentinel, .sentinel, .sentinel, .sentinel, .sentinel, .sentinel, .sentinel] true :=
  OpenClaim.laidByTextAt_later rfl rfl tie4 noOwnUnsafe
theorem dataActs_row_tie : Rows.dataActsRow.laidByTextAt .later Tryd.pinned [.handle, .sentinel, .sentinel, .sentinel, .sentinel, .sentinel, .sentinel, .sentinel, .sentinel, .sentinel, .sentinel, .sentinel, .sentinel, .sentinel, .sentinel, .sentinel] true :=
  OpenClaim.laidByTextAt_later rfl rfl tie4 noOwnUnsafe
theorem diskActs_row_tie : Rows.diskActsRow.laidByTextAt .later Tryd.pinned [.handle, .sentinel, .sentinel, .sentinel, .sentinel, .sentinel, .sentinel, .sentinel, .sentinel, .sentinel, .sentinel, .sentinel, .sentinel, .sentinel, .sentinel, .sentinel] true :=
  OpenClaim.laidByTextAt_later rfl rfl tie4 noOwnUnsafe
theorem netActs_row_tie : Rows.netActsRow.laidByTextAt .later Tryd.pinned [.handle, .sentinel, .sentinel, .sentinel, .sentinel, .sentinel, .sentinel, .sentinel, .sentinel, .sentinel, .sentinel, .sentinel, .sentinel, .sentinel, .sentinel, .sentinel] true :=
  OpenClaim.laidByTextAt_later rfl rfl tie4 noOwnUnsafe
theorem tie5 : Tryd.prog.laidByTextLater [("pigeonholes/api.ErrBound", Rows.laid_pigeonholes_api_ErrBound), ("pigeonholes/api.ErrShape", Rows.laid_pigeonholes_api_ErrShape), ("pigeonholes/api.ErrPower", Rows.laid_pigeonholes_api_ErrPower)] [.sentinel, .sentinel, .sentinel] true :=
  Program.laidByTextLater.sub seatTie1 ["pigeonholes/api.ErrBound", "pigeonholes/api.ErrShape", "pigeonholes/api.ErrPower"] (by kernel_rfl) (by kernel_rfl)
theorem diskKeeps_row_tie : Rows.diskKeepsRow.laidByTextAt .later Tryd.pinned [.sentinel, .sentinel, .sentinel] true :=
  OpenClaim.laidByTextAt_later rfl rfl tie5 noOwnUnsafe
theorem turnGoesUpto_row_tie : Rows.turnGoesUptoRow.laidByTextAt .later Tryd.pinned [.sentinel, .sentinel, .sentinel] true :=
  OpenClaim.laidByTextAt_later rfl rfl tie noOwnUnsafe
theorem cacheLastUpto_row_tie : Rows.cacheLastUptoRow.laidByTextAt .later Tryd.pinned [.sentinel, .sentinel, .sentinel] true :=
  OpenClaim.laidByTextAt_later rfl rfl tie2 noOwnUnsafe
theorem dataKeepsUpto_row_tie : Rows.dataKeepsUptoRow.laidByTextAt .later Tryd.pinned [.sentinel] true :=
  OpenClaim.laidByTextAt_later rfl rfl tie3 noOwnUnsafe
theorem namesUpto_row_tie : Rows.namesUptoRow.laidByTextAt .later Tryd.pinned [.handle, .sentinel, .sentinel, .sentinel, .sentinel, .sentinel, .sentinel, .sentinel, .sentinel, .sentinel, .sentinel, .sentinel, .sentinel, .sentinel, .sentinel, .sentinel] true :=
  OpenClaim.laidByTextAt_later rfl rfl tie4 noOwnUnsafe
theorem cacheActsUpto_row_tie : Rows.cacheActsUptoRow.laidByTextAt .later Tryd.pinned [.handle, .sentinel, .sentinel, .sentinel, .sentinel, .sentinel, .sentinel, .sentinel, .sentinel, .sentinel, .sentinel, .sentinel, .sentinel, .sentinel, .sentinel, .sentinel] true :=
  OpenClaim.laidByTextAt_later rfl rfl tie4 noOwnUnsafe
theorem turnActsUpto_row_tie : Rows.turnActsUptoRow.laidByTextAt .later Tryd.pinned [.handle, .sentinel, .sentinel, .sentinel, .sentinel, .sentinel, .sentinel, .sentinel, .sentinel, .sentinel, .sentinel, .sentinel, .sentinel, .sentinel, .sentinel, .sentinel] true :=
  OpenClaim.laidByTextAt_later rfl rfl tie4 noOwnUnsafe
theorem diskKeepsUpto_row_tie : Rows.diskKeepsUptoRow.laidByTextAt .later Tryd.pinned [.sentinel, .sentinel, .sentinel] true :=
  OpenClaim.laidByTextAt_later rfl rfl tie5 noOwnUnsafe
theorem dataActsUpto_row_tie : Rows.dataActsUptoRow.laidByTextAt .later Tryd.pinned [.handle, .sentinel, .sentinel, .sentinel, .sentinel, .sentinel, .sentinel, .sentinel, .sentinel, .sentinel, .sentinel, .sentinel, .sentinel, .sentinel, .sentinel, .sentinel] true :=
  OpenClaim.laidByTextAt_later rfl rfl tie4 noOwnUnsafe
theorem diskActsUpto_row_tie : Rows.diskActsUptoRow.laidByTextAt .later Tryd.pinned [.handle, .sentinel, .sentinel, .sentinel, .sentinel, .sentinel, .sentinel, .sentinel, .sentinel, .sentinel, .sentinel, .sentinel, .sentinel, .sentinel, .sentinel, .sentinel] true :=
  OpenClaim.laidByTextAt_later rfl rfl tie4 noOwnUnsafe
theorem netActsUpto_row_tie : Rows.netActsUptoRow.laidByTextAt .later Tryd.pinned [.handle, .sentinel, .sentinel, .sentinel, .sentinel, .sentinel, .sentinel, .sentinel, .sentinel, .sentinel, .sentinel, .sentinel, .sentinel, .sentinel, .sentinel, .sentinel] true :=
  OpenClaim.laidByTextAt_later rfl rfl tie4 noOwnUnsafe
end Go.Proofs.YtfekiagdnlnggaaDoor
