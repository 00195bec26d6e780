/- package data: Size by contract. -/
import Derived.Test.YtgebinfbbopnlaaDoorData
namespace Go.Proofs.YtgebinfbbopnlaaDoor
open Go.RowKit
set_option linter.unusedVariables false
set_option linter.unusedSimpArgs false

theorem dsize_any (b : Nat) (d : PData) (S : Nat → Prop) (w : World) (ht : DataAt w b d S) :
    Calls Tryd.prog 34 #[.pointer (some ⟨b, 0, none⟩)] w fun e w' => e = .returned (.int .i64 d.size) ∧ w = w' := by
  obtain ⟨⟨mv, T, hb, _⟩, _⟩ := ht
  have hc0 := cell_of hb 0
  simp only [List.getElem?_toArray, List.getElem?_cons_zero] at hc0
  clear hb
  go_enter Tryd.func34, Tryd.ntmps34
  go_wp2
  go_ret
  exact ⟨rfl, rfl⟩

end Go.Proofs.YtgebinfbbopnlaaDoor
