/- What a walk of slices.DeleteFunc at structs needs: the built-in clear at structs, the kept list's steps, the slice cut behind it; over any program. -/
import Derived.Test.YtofhnglgebllbaaDoorSort
import Derived.Lib.SliceRun
namespace Go.Proofs.YtofhnglgebllbaaDoor
open Go.RowKit Go.Lib Go.Sort Go.Shelf
set_option linter.unusedSectionVars false
set_option linter.unusedVariables false
set_option linter.unusedSimpArgs false

section
variable {α : Type} {enc : α → List Value} {k : Nat} {P : Program}
theorem zeroCells_len (z : Array Value) (n : Nat) : (Builtin.zeroCells z n).toList.length = n * z.size := by simp [Builtin.zeroCells]
theorem zeroCells_one {z : Array Value} (h1 : ∀ u ∈ z.toList, u.oneCell' = true) (n : Nat) : ∀ u ∈ (Builtin.zeroCells z n).toList, u.oneCell' = true := by
  intro u hu
  simp only [Builtin.zeroCells, Array.toList_map, List.mem_map, Array.mem_toList_iff, Array.mem_range] at hu
  obtain ⟨i, hi, rfl⟩ := hu
  have hz : 0 < z.size := by
    rcases Nat.eq_zero_or_pos z.size with h | h
    · rw [h] at hi; simp at hi
    · exact h
  have hm : i % z.size < z.size := Nat.mod_lt _ hz
  refine h1 _ ?_
  rw [getElem!_pos z _ hm]
  simp
/-- clear(s), s a slice of structs. -/
theorem run_clearK (w : World) (t e ty : TypeId) (z : Value) (ht : P.underlying t = some (.slice e)) (hv : ∀ w, (zeroValue e).run P w = .ok z w) (h1 : ∀ u ∈ z.cells.toList, u.oneCell' = true) {T : TypeId} {b o n c : Nat} {cs : Array Value} (hb : w.heap[b]? = some (.cells cs T (0, 0))) (hn : 0 < n) (hc : o + n * z.cells.size ≤ cs.size) :
    (Builtin.clear_ #[t] ty #[.slice (some ⟨b, o, none⟩) n c]).run P w = .ok (.tuple #[]) (w.setCells b o (Builtin.zeroCells z.cells n).toList) := by
  have hst := run_storeCells_cells (P := P) b o (Builtin.zeroCells z.cells n).toList 0 w (fun j hj => by
      rw [zeroCells_len] at hj
      rw [cell_of hb]
      simp; omega) (fun j _ => free_of hb _) (zeroCells_one h1 n)
  simp only [Nat.add_zero] at hst
  obtain ⟨m, rfl⟩ : ∃ m, n = m + 1 := ⟨n - 1, by omega⟩
  simp [Builtin.clear_, run_underlying ht, hv, hst]
/-- The slice cut behind its first i elements, what lay behind them written over. -/
theorem SliceAt.cutOver (he : ∀ a, (enc a).length = k) {w : World} {g off n cap E i : Nat} {l : List α} {S : Nat → Prop} (h : SliceAt w (.slice (some ⟨g, off, none⟩) n cap) E k n (l.flatMap enc) S) (hi : i ≤ n) (hl : n = l.length) {vs : List Value} (hv : vs.length = (n - i) * k) :
    SliceAt (w.setCells g (off + i * k) vs) (.slice (some ⟨g, off, none⟩) i cap) E k i ((l.take i).flatMap enc) S := by
  subst hl
  obtain ⟨h1, ⟨e, _⟩ | ⟨g', off', cap', cs, e, hb, h2, h3, h4, h5, h6⟩⟩ := h
  · cases e
  cases e
  obtain ⟨cs', e1, e2, e3, e4⟩ := block_setCells vs (off + i * k) w cs hb
  have hle : i * k ≤ l.length * k := Nat.mul_le_mul_right _ hi
  refine ⟨by rw [flat_len enc he, List.length_take, Nat.min_eq_left hi], .inr ⟨g, off, cap, cs', rfl, e1, by omega, h3, by rw [e2]; exact h4, fun j u hj => ?_, h6⟩⟩
  have hjl := (List.getElem?_eq_some_iff.1 hj).1
  rw [flat_len enc he, List.length_take, Nat.min_eq_left hi] at hjl
  rw [e4 _ (by omega)]
  refine h5 j u ?_
  have e5 : l.flatMap enc = (l.take i).flatMap enc ++ (l.drop i).flatMap enc := by rw [← List.flatMap_append, List.take_append_drop]
  rw [e5, List.getElem?_append_left (by rw [flat_len enc he, List.length_take, Nat.min_eq_left hi]; exact hjl)]
  exact hj
/-- How far the kept ones are: cur holds them ahead, the rest is as it was. -/
structure KeptL (q : α → Bool) (l cur : List α) (i j : Nat) : Prop where
  len : cur.length = l.length
  lt : i < j
  le : j ≤ l.length
  kept : cur.take i = (l.take j).filter q
  rest : cur.drop j = l.drop j
theorem KeptL.start {q : α → Bool} {l : List α} {i : Nat} {x : α} (hi : l[i]? = some x) (hq : q x = false) (hb : ∀ j y, j < i → l[j]? = some y → q y = true) : KeptL q l l i (i + 1) := by
  have hil := (List.getElem?_eq_some_iff.1 hi).1
  refine ⟨rfl, by omega, by omega, ?_, rfl⟩
  rw [List.take_add_one, hi, List.filter_append]
  simp [hq]
  symm
  rw [List.filter_eq_self]
  intro a ha
  obtain ⟨j, hj, rfl⟩ := List.mem_iff_getElem.1 ha
  have hj2 : j < i := by rw [List.length_take] at hj; omega
  refine hb j _ hj2 ?_
  rw [List.getElem_take]
  exact List.getElem?_eq_getElem _
theorem KeptL.here {q : α → Bool} {l cur : List α} {i j : Nat} (h : KeptL q l cur i j) : cur[j]? = l[j]? := by
  have := congrArg (fun (z : List α) => z[0]?) h.rest
  simpa using this
theorem KeptL.keep {q : α → Bool} {l cur : List α} {i j : Nat} {x : α} (h : KeptL q l cur i j) (hj : cur[j]? = some x) (hq : q x = true) : KeptL q l (cur.set i x) (i + 1) (j + 1) := by
  have hjl := (List.getElem?_eq_some_iff.1 hj).1
  have hlt := h.lt
  have hlj : l[j]? = some x := by rw [← h.here]; exact hj
  refine ⟨by rw [List.length_set]; exact h.len, by omega, by have := h.len; omega, ?_, ?_⟩
  · have hi : (cur.set i x)[i]? = some x := by rw [List.getElem?_set_self (by omega)]
    rw [List.take_add_one, hi, List.take_add_one, hlj, List.filter_append, ← h.kept, List.take_set]
    rw [List.set_eq_of_length_le (by rw [List.length_take]; omega)]
    simp [hq]
  · rw [List.drop_set_of_lt (by omega), ← List.drop_drop, ← List.drop_drop, h.rest]
theorem KeptL.skip {q : α → Bool} {l cur : List α} {i j : Nat} {x : α} (h : KeptL q l cur i j) (hj : cur[j]? = some x) (hq : q x = false) : KeptL q l cur i (j + 1) := by
  have hjl := (List.getElem?_eq_some_iff.1 hj).1
  have hlj : l[j]? = some x := by rw [← h.here]; exact hj
  refine ⟨h.len, by have := h.lt; omega, by have := h.len; omega, ?_, ?_⟩
  · rw [List.take_add_one, hlj, List.filter_append, ← h.kept]; simp [hq]
  · rw [← List.drop_drop, ← List.drop_drop, h.rest]
theorem KeptL.done {q : α → Bool} {l cur : List α} {i j : Nat} (h : KeptL q l cur i j) (hj : j = l.length) : cur.take i = l.filter q := by
  subst hj; rw [h.kept, List.take_length]
end
end Go.Proofs.YtofhnglgebllbaaDoor
