/- As Door, for laws that list two tables of unicode/utf8 besides. -/
import Derived.Test.YtofhnglgebllbaaDoorDoor
import Derived.Test.YtofhnglgebllbaaDoorLaid
namespace Go.Proofs.YtofhnglgebllbaaDoor
open Go.RowKit Go.ChangeShapes Go.WideShapes Go.ChangeAt
set_option linter.unusedVariables false
set_option linter.unusedSimpArgs false
-- 17

def utf1 : String × DataW Unit := ("unicode/utf8.acceptRanges", Rows.laid_unicode_utf8_acceptRanges)
def utf2 : String × DataW Unit := ("unicode/utf8.first", Rows.laid_unicode_utf8_first)
def door2Data : List (String × DataW Unit) := [utf1] ++ (errLaid allErrs ++ [utf2])
def door2Laid : List (String × DataW Unit) := utf1 :: ("errors.errorType", Rows.laid_errors_errorType) :: (errLaid allErrs ++ [utf2])
theorem door_of_door2 {W : World} (h : laidMetH Tryd.prog door2Laid W) : laidMetH Tryd.prog doorLaid W := by
  have h' : laidMet Tryd.prog door2Data W ∧ handlesMet Tryd.prog [("errors.errorType", Rows.laid_errors_errorType)] W := h
  exact ⟨laidMet_mid h'.1, h'.2⟩
noncomputable def doorWorld2 (os : Os) : World :=
  { World.laidAll Tryd.prog os door2Data with heap := (World.laidAll Tryd.prog os door2Data).heap.modify 15 fun
      | .cells _ t frozen => .cells #[.iface 374 (.agg #[.pointer (some ⟨19, 25, none⟩)])] t frozen
      | o => o }
set_option maxRecDepth 100000 in
theorem doorWorld2_os (os : Os) : (doorWorld2 os).os = os := by
  dsimp only [doorWorld2]
  exact World.laidAll_os _ _ _
set_option maxRecDepth 100000 in
theorem doorWorld2_met (os : Os) (args : Array Value) : laidMetH Tryd.prog door2Laid ((doorWorld2 os).forCall (fun _ _ => 0) ⟨#[], args, []⟩).memory :=
  laidMetH_of_parts (show laidMet Tryd.prog door2Data _ from laidMet_of_run' 8 (by kernel_rfl) (by kernel_rfl)) (by kernel_rfl)
set_option maxRecDepth 100000 in
theorem doorWorld2_shaped (os : Os) (args : Array Value) : ((doorWorld2 os).forCall (fun _ _ => 0) ⟨#[], args, []⟩).Shaped Tryd.prog := World.shaped_of_ZipB (by kernel_rfl) (by kernel_rfl)
end Go.Proofs.YtofhnglgebllbaaDoor
