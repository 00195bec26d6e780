/- The built-in clear and the built-in copy at structs; a slice cut behind; over any program, no condition. -/
import Derived.Test.YtgebinfbbopnlaaDoorSlice
import Derived.Test.YtgebinfbbopnlaaDoorBase
import Derived.Lib.SliceRun
import Derived.Laws.IdiomCopy
namespace Go.Proofs.YtgebinfbbopnlaaDoor
open Go.RowKit Go.Lib
set_option linter.unusedSectionVars false
set_option linter.unusedVariables false
set_option linter.unusedSimpArgs false

section
variable {α : Type} {enc : α → List Value} {k : Nat} {P : Program}
theorem zeroCells_len (z : Array Value) (n : Nat) : (Builtin.zeroCells z n).toList.length = n * z.size := by simp [Builtin.zeroCells]
theorem zeroCells_one {z : Array Value} (h1 : ∀ u ∈ z.toList, u.oneCell' = true) (n : Nat) : ∀ u ∈ (Builtin.zeroCells z n).toList, u.oneCell' = true := by
  intro u hu
  simp only [Builtin.zeroCells, Array.toList_map, List.mem_map, Array.mem_toList_iff, Array.mem_range] at hu
  obtain ⟨i, hi, rfl⟩ := hu
  have hz : 0 < z.size := by
    rcases Nat.eq_zero_or_pos z.size with h | h
    · rw [h] at hi; simp at hi
    · exact h
  have hm : i % z.size < z.size := Nat.mod_lt _ hz
  refine h1 _ ?_
  rw [getElem!_pos z _ hm]
  simp
/-- clear(s), s a slice of structs. -/
theorem run_clearK (w : World) (t e ty : TypeId) (z : Value) (ht : P.underlying t = some (.slice e)) (hv : ∀ w, (zeroValue e).run P w = .ok z w) (h1 : ∀ u ∈ z.cells.toList, u.oneCell' = true) {T : TypeId} {b o n c : Nat} {cs : Array Value} (hb : w.heap[b]? = some (.cells cs T (0, 0))) (hn : 0 < n) (hc : o + n * z.cells.size ≤ cs.size) :
    (Builtin.clear_ #[t] ty #[.slice (some ⟨b, o, none⟩) n c]).run P w = .ok (.tuple #[]) (w.setCells b o (Builtin.zeroCells z.cells n).toList) := by
  have hst := run_storeCells_cells (P := P) b o (Builtin.zeroCells z.cells n).toList 0 w (fun j hj => by
      rw [zeroCells_len] at hj
      rw [cell_of hb]
      simp; omega) (fun j _ => free_of hb _) (zeroCells_one h1 n)
  simp only [Nat.add_zero] at hst
  obtain ⟨m, rfl⟩ : ∃ m, n = m + 1 := ⟨n - 1, by omega⟩
  simp [Builtin.clear_, run_underlying ht, hv, hst]
/-- The slice cut behind its first i elements, what lay behind them written over. -/
theorem SliceAt.cutOver (he : ∀ a, (enc a).length = k) {w : World} {g off n cap E i : Nat} {l : List α} {S : Nat → Prop} (h : SliceAt w (.slice (some ⟨g, off, none⟩) n cap) E k n (l.flatMap enc) S) (hi : i ≤ n) (hl : n = l.length) {vs : List Value} (hv : vs.length = (n - i) * k) :
    SliceAt (w.setCells g (off + i * k) vs) (.slice (some ⟨g, off, none⟩) i cap) E k i ((l.take i).flatMap enc) S := by
  subst hl
  obtain ⟨h1, ⟨e, _⟩ | ⟨g', off', cap', cs, e, hb, h2, h3, h4, h5, h6⟩⟩ := h
  · cases e
  cases e
  obtain ⟨cs', e1, e2, e3, e4⟩ := block_setCells vs (off + i * k) w cs hb
  have hle : i * k ≤ l.length * k := Nat.mul_le_mul_right _ hi
  refine ⟨by rw [flat_len enc he, List.length_take, Nat.min_eq_left hi], .inr ⟨g, off, cap, cs', rfl, e1, by omega, h3, by rw [e2]; exact h4, fun j u hj => ?_, h6⟩⟩
  have hjl := (List.getElem?_eq_some_iff.1 hj).1
  rw [flat_len enc he, List.length_take, Nat.min_eq_left hi] at hjl
  rw [e4 _ (by omega)]
  refine h5 j u ?_
  have e5 : l.flatMap enc = (l.take i).flatMap enc ++ (l.drop i).flatMap enc := by rw [← List.flatMap_append, List.take_append_drop]
  rw [e5, List.getElem?_append_left (by rw [flat_len enc he, List.length_take, Nat.min_eq_left hi]; exact hjl)]
  exact hj
/-- copy(d, s), both of structs. -/
theorem run_copyK (w : World) (dT sT ty elem : TypeId) (b o dLen dCap : Nat) (a : Addr) (sLen sCap : Nat) (cs : List Value) {size : Nat}
    (hu : P.underlying dT = some (.slice elem)) (hs : (P.info? elem).map (·.size) = some size) (hn : cs.length = Nat.min sLen dLen * size)
    (hsrc : ∀ j v, cs[j]? = some v → w.cell? (a.add j) = some v) (hc : ∀ j, j < cs.length → (w.cell? ⟨b, o + j, none⟩).isSome = true) (hf : ∀ j, j < cs.length → w.frozen? ⟨b, o + j, none⟩ = false) (h1 : ∀ v ∈ cs, v.oneCell' = true) :
    (Builtin.copy_ #[dT, sT] ty #[.slice (some ⟨b, o, none⟩) dLen dCap, .slice (some a) sLen sCap]).run P w = .ok (goInt (Nat.min sLen dLen)) (w.setCells b o cs) := by
  have hl := run_loadCells_list (P := P) w a cs hsrc
  have hst := run_storeCells_cells (P := P) b o cs 0 w (by simpa using hc) (by simpa using hf) h1
  cases hq : P.info? elem with
  | none => simp [hq] at hs
  | some i =>
    have hi : i.size = size := by simpa [hq] using hs
    simp [Builtin.copy_, run_underlying hu, Builtin.lenOf, Builtin.firstCells, sizeOf, typeInfo, hq, hi, ← hn, hl, hst]
end
end Go.Proofs.YtgebinfbbopnlaaDoor
