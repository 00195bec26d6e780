/- What every law that comes to plain.Code has in common: its listed variables (errors' own handle, fifteen errors) out of the row's premise; a world that fits. -/
import Derived.Test.YtgebinfbbopnlaaDoorCode
import Derived.Test.YtgebinfbbopnlaaDoorRows
import Derived.ProofKit
import Derived.Lay
import Derived.SevenTiedAt
import Derived.ChangeOld
namespace Go.Proofs.YtgebinfbbopnlaaDoor
open Go.RowKit Go.ChangeShapes Go.WideShapes Go.ChangeAt
set_option linter.unusedVariables false
set_option linter.unusedSimpArgs false

theorem ownKnobNone : ownKnob Tryd.prog.godebug = none := by kernel_rfl
theorem laidOutTryd : laidOutB Tryd.prog = true := by kernel_rfl
theorem knownAll : ∀ c ∈ allErrs, errKnown c := by
  intro c hc
  simp only [allErrs, List.mem_cons, List.mem_nil_iff, or_false] at hc
  rcases hc with rfl | rfl | rfl | rfl | rfl | rfl | rfl | rfl | rfl | rfl | rfl | rfl | rfl | rfl | rfl <;> exact ⟨by kernel_rfl, by kernel_rfl⟩
/-- What such a row lists. -/
def doorLaid : List (String × DataW Unit) := ("errors.errorType", Rows.laid_errors_errorType) :: errLaid allErrs

theorem et_global : Tryd.prog.globalNamed "errors.errorType" = some 15 := by kernel_rfl
theorem rtype_cut : (Tryd.prog.cutTypes.find? (·.1 == "internal/reflectlite.rtype")).map (·.2) = some 153 := by kernel_rfl
theorem one_error : ((List.range 219).filter fun t => Tryd.prog.rowNamed t [101, 114, 114, 111, 114]) = [26] := by kernel_rfl
theorem types_size : Tryd.prog.types.size = 219 := by kernel_rfl
theorem handle_error : typeHandle Tryd.prog 26 = .pointer (some ⟨16, 26, none⟩) := by kernel_rfl

set_option maxRecDepth 100000 in
theorem envA_of_laid {W : World} (h : laidMetH Tryd.prog doorLaid W) : ∃ ad, EnvA W.heap.size ad W ∧ ∀ c ∈ allErrs, ∃ s : ByteArray, W.cell? (ad c) = some (.string s) ∧ s.data.toList = errText c := by
  have h' : laidMet Tryd.prog (errLaid allErrs) W ∧ handlesMet Tryd.prog [("errors.errorType", Rows.laid_errors_errorType)] W := h
  obtain ⟨ad, he, ht⟩ := env_of_laid h'.1 knownAll
  obtain ⟨name, u, ty, e1, e2, e3, e4, e5⟩ := h'.2 _ (List.mem_singleton.2 rfl)
  have en : name = [101, 114, 114, 111, 114] := (Option.some.inj e1).symm
  subst en
  obtain rfl := Option.some.inj (rtype_cut.symm.trans e2)
  have hm : ty ∈ (List.range 219).filter fun t => Tryd.prog.rowNamed t [101, 114, 114, 111, 114] := List.mem_filter.2 ⟨List.mem_range.2 (by rw [← types_size]; exact e3), e4⟩
  rw [one_error] at hm
  obtain rfl := List.mem_singleton.1 hm
  rw [handle_error] at e5
  have hc : W.cell? ⟨15, 0, none⟩ = some (.iface 153 (.agg #[.pointer (some ⟨16, 26, none⟩)])) := by simpa using World.var?_cell et_global e5 0
  exact ⟨ad, ⟨he, hc, World.block_lt_of_cell? _ _ hc⟩, ht⟩

/-- A world that fits: the errors laid, and their handle. -/
noncomputable def doorWorld (os : Os) : World :=
  { World.laidAll Tryd.prog os (errLaid allErrs) with heap := (World.laidAll Tryd.prog os (errLaid allErrs)).heap.modify 15 fun
      | .cells _ t frozen => .cells #[.iface 153 (.agg #[.pointer (some ⟨16, 26, none⟩)])] t frozen
      | o => o }
set_option maxRecDepth 100000 in
theorem doorWorld_os (os : Os) : (doorWorld os).os = os := by
  dsimp only [doorWorld]
  exact World.laidAll_os _ _ _
set_option maxRecDepth 100000 in
theorem doorWorld_met (os : Os) (args : Array Value) : laidMetH Tryd.prog doorLaid ((doorWorld os).forCall (fun _ _ => 0) ⟨#[], args, []⟩).memory :=
  laidMetH_of_parts (show laidMet Tryd.prog (errLaid allErrs) _ from laidMet_of_run' 8 (by kernel_rfl) (by kernel_rfl)) (by kernel_rfl)
set_option maxRecDepth 100000 in
theorem doorWorld_shaped (os : Os) (args : Array Value) : ((doorWorld os).forCall (fun _ _ => 0) ⟨#[], args, []⟩).Shaped Tryd.prog := World.shaped_of_ZipB (by kernel_rfl) (by kernel_rfl)
end Go.Proofs.YtgebinfbbopnlaaDoor
