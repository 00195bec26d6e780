/- The kept ones of a list, moved to its beginning one by one. No program is in sight, no condition. -/
import Derived.Test.YtgebinfbbopnlaaDoorBase
namespace Go.Proofs.YtgebinfbbopnlaaDoor
open Go.RowKit
set_option linter.unusedVariables false
set_option linter.unusedSimpArgs false
section
variable {α : Type}
/-- How far the kept ones are: cur holds them ahead, the rest is as it was. -/
structure KeptL (q : α → Bool) (l cur : List α) (i j : Nat) : Prop where
  len : cur.length = l.length
  lt : i < j
  le : j ≤ l.length
  kept : cur.take i = (l.take j).filter q
  rest : cur.drop j = l.drop j
theorem KeptL.start {q : α → Bool} {l : List α} {i : Nat} {x : α} (hi : l[i]? = some x) (hq : q x = false) (hb : ∀ j y, j < i → l[j]? = some y → q y = true) : KeptL q l l i (i + 1) := by
  have hil := (List.getElem?_eq_some_iff.1 hi).1
  refine ⟨rfl, by omega, by omega, ?_, rfl⟩
  rw [List.take_add_one, hi, List.filter_append]
  simp [hq]
  symm
  rw [List.filter_eq_self]
  intro a ha
  obtain ⟨j, hj, rfl⟩ := List.mem_iff_getElem.1 ha
  have hj2 : j < i := by rw [List.length_take] at hj; omega
  refine hb j _ hj2 ?_
  rw [List.getElem_take]
  exact List.getElem?_eq_getElem _
theorem KeptL.here {q : α → Bool} {l cur : List α} {i j : Nat} (h : KeptL q l cur i j) : cur[j]? = l[j]? := by
  have := congrArg (fun (z : List α) => z[0]?) h.rest
  simpa using this
theorem KeptL.keep {q : α → Bool} {l cur : List α} {i j : Nat} {x : α} (h : KeptL q l cur i j) (hj : cur[j]? = some x) (hq : q x = true) : KeptL q l (cur.set i x) (i + 1) (j + 1) := by
  have hjl := (List.getElem?_eq_some_iff.1 hj).1
  have hlt := h.lt
  have hlj : l[j]? = some x := by rw [← h.here]; exact hj
  refine ⟨by rw [List.length_set]; exact h.len, by omega, by have := h.len; omega, ?_, ?_⟩
  · have hi : (cur.set i x)[i]? = some x := by rw [List.getElem?_set_self (by omega)]
    rw [List.take_add_one, hi, List.take_add_one, hlj, List.filter_append, ← h.kept, List.take_set]
    rw [List.set_eq_of_length_le (by rw [List.length_take]; omega)]
    simp [hq]
  · rw [List.drop_set_of_lt (by omega), ← List.drop_drop, ← List.drop_drop, h.rest]
theorem KeptL.skip {q : α → Bool} {l cur : List α} {i j : Nat} {x : α} (h : KeptL q l cur i j) (hj : cur[j]? = some x) (hq : q x = false) : KeptL q l cur i (j + 1) := by
  have hjl := (List.getElem?_eq_some_iff.1 hj).1
  have hlj : l[j]? = some x := by rw [← h.here]; exact hj
  refine ⟨h.len, by have := h.lt; omega, by have := h.len; omega, ?_, ?_⟩
  · rw [List.take_add_one, hlj, List.filter_append, ← h.kept]; simp [hq]
  · rw [← List.drop_drop, ← List.drop_drop, h.rest]
theorem KeptL.done {q : α → Bool} {l cur : List α} {i j : Nat} (h : KeptL q l cur i j) (hj : j = l.length) : cur.take i = l.filter q := by
  subst hj; rw [h.kept, List.take_length]
end
end Go.Proofs.YtgebinfbbopnlaaDoor
