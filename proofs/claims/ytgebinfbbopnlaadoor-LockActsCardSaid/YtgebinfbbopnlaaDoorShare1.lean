/- package share: right, order, and the closures that its methods hand to package slices, by contract. -/
import Derived.Test.YtgebinfbbopnlaaDoorShareP
import Derived.Test.YtgebinfbbopnlaaDoorCmp
import Derived.Test.YtgebinfbbopnlaaDoorMake
import Derived.Deep.RegionHeld3
namespace Go.Proofs.YtgebinfbbopnlaaDoor
open Go.RowKit Go.Lib Go.Sort
set_option linter.unusedVariables false
set_option linter.unusedSimpArgs false

/-- The order of opens. -/
def shCf (x y : Opn) : Int := orI [Lib.compareInt x.1.1 y.1.1, Lib.compareInt x.1.2 y.1.2, Lib.compareInt x.2.1 y.2.1]
theorem shCf_lt (x y : Opn) : shCf x y < 0 ↔ x.1.1 < y.1.1 ∨ x.1.1 = y.1.1 ∧ (x.1.2 < y.1.2 ∨ x.1.2 = y.1.2 ∧ x.2.1 < y.2.1) := by
  have key : ∀ a b : Int, Lib.compareInt a b = if a < b then -1 else if a > b then 1 else 0 := fun _ _ => rfl
  unfold shCf
  simp only [orI, key]
  rcases Int.lt_trichotomy x.1.1 y.1.1 with h | h | h
  · simp [h]
  · rcases Int.lt_trichotomy x.1.2 y.1.2 with h2 | h2 | h2
    · simp [h, h2]
    · rcases Int.lt_trichotomy x.2.1 y.2.1 with h3 | h3 | h3
      · simp [h, h2, h3]
      · simp [h, h2, h3]
      · have : ¬ x.2.1 < y.2.1 := by omega
        simp [h, h2, h3, this]
    · have a1 : ¬ x.1.2 < y.1.2 := by omega
      have a2 : ¬ x.1.2 = y.1.2 := by omega
      simp [h, h2, a1, a2]
  · have a1 : ¬ x.1.1 < y.1.1 := by omega
    have a2 : ¬ x.1.1 = y.1.1 := by omega
    simp [h, a1, a2]
theorem swo_sh : SWO (ltOf shCf) where
  irrefl x := by simp only [ltOf, decide_eq_false_iff_not, shCf_lt]; omega
  trans x y z h1 h2 := by simp only [ltOf, decide_eq_true_eq, shCf_lt] at *; omega
  ntrans x y z h1 h2 := by simp only [ltOf, decide_eq_false_iff_not, shCf_lt] at *; omega

/-- Grown and drawn on. -/
def Grown (w w' : World) : Prop := ∃ q os, w' = grow (w.drewN q) os
theorem Grown.refl (w : World) : Grown w w := ⟨0, #[], by rw [grow_empty]; rfl⟩
theorem Grown.drew {w a : World} (h : Grown w a) : Grown w a.drew := by
  obtain ⟨q, os, rfl⟩ := h; exact ⟨q + 1, os, rfl⟩
theorem Grown.alloc {w a : World} (h : Grown w a) (o : Obj) : Grown w (a.alloc o) := by
  obtain ⟨q, os, rfl⟩ := h; exact ⟨q, os ++ #[o], by rw [← grow_grow]; exact alloc_eq_grow _ _⟩
theorem block_drew (w : World) (o : Obj) : (w.alloc o).drew.heap[w.heap.size]? = some o := block_alloc w o
theorem cell_al {W : World} {a : Addr} {v : Value} (o : Obj) (h : W.cell? a = some v) : (W.alloc o).cell? a = some v := Lib.cell?_alloc_some o h
end Go.Proofs.YtgebinfbbopnlaaDoor
