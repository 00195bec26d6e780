/- Maps told by their entries: what they hold, mapped; kept. Over any program, no condition. -/
import Derived.Test.YtgebinfbbopnlaaDoorEnv
import Derived.Test.YtgebinfbbopnlaaDoorSlice
namespace Go.Proofs.YtgebinfbbopnlaaDoor
open Go.RowKit
set_option linter.unusedVariables false
set_option linter.unusedSimpArgs false
theorem aget_map {α β γ : Type} [DecidableEq α] (g : β → γ) : ∀ (kv : List (α × β)) (k : α), aget (kv.map fun p => (p.1, g p.2)) k = (aget kv k).map g
  | [], _ => rfl
  | p :: r, k => by
    simp only [List.map_cons, aget]
    split
    · rfl
    · exact aget_map g r k
theorem aput_map {α β γ : Type} [DecidableEq α] (g : β → γ) : ∀ (kv : List (α × β)) (k : α) (v : β), aput (kv.map fun p => (p.1, g p.2)) k (g v) = (aput kv k v).map fun p => (p.1, g p.2)
  | [], _, _ => rfl
  | p :: r, k, v => by
    simp only [List.map_cons, aput]
    split
    · rfl
    · simp [aput_map g r k v]
theorem adel_map {α β γ : Type} [DecidableEq α] (g : β → γ) : ∀ (kv : List (α × β)) (k : α), adel (kv.map fun p => (p.1, g p.2)) k = (adel kv k).map fun p => (p.1, g p.2)
  | [], _ => rfl
  | p :: r, k => by
    simp only [List.map_cons, adel]
    split
    · rfl
    · simp [adel_map g r k]

theorem MapV.keep {α : Type} [DecidableEq α] {S : Nat → Prop} {w w' : World} {mv : Value} {f : α → Value} {kv : List (α × Value)} (h : MapV w mv f kv) (c : Chg S w w') (hs : ∀ r, mv = .map (some r) → ¬ S r) : MapV w' mv f kv := by
  rcases h with h | ⟨r, rfl, h⟩
  · exact .inl h
  · exact .inr ⟨r, rfl, h.keep c (hs r rfl)⟩

theorem aget_mem {α β : Type} [DecidableEq α] : ∀ {kv : List (α × β)} {k : α} {v : β}, aget kv k = some v → (k, v) ∈ kv
  | [], _, _, h => by cases h
  | p :: r, k, v, h => by
    unfold aget at h
    split at h
    · rename_i c; cases h; subst c; exact List.mem_cons_self ..
    · exact List.mem_cons_of_mem _ (aget_mem h)

end Go.Proofs.YtgebinfbbopnlaaDoor
