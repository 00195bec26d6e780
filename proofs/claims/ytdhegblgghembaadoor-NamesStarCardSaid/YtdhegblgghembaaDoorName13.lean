/- Patterns: plain. -/
import Derived.Test.YtdhegblgghembaaDoorBase
namespace Go.Proofs.YtdhegblgghembaaDoor
set_option linter.unusedVariables false
set_option linter.unusedSimpArgs false

/-- Does a text go with a pattern? -/
inductive Mt : List UInt8 → List UInt8 → Prop
  | nil : Mt [] []
  | star0 {p s} : Mt p s → Mt (42 :: p) s
  | star1 {p s c} : Mt (42 :: p) s → Mt (42 :: p) (c :: s)
  | any {p s c} : Mt p s → Mt (63 :: p) (c :: s)
  | same {p s c} : c ≠ 42 → Mt p s → Mt (c :: p) (c :: s)
theorem mt_nil (s : List UInt8) : Mt [] s ↔ s = [] := ⟨fun h => by cases h; rfl, fun h => by subst h; exact .nil⟩
theorem mt_star (p s : List UInt8) : Mt (42 :: p) s ↔ ∃ j, j ≤ s.length ∧ Mt p (s.drop j) := by
  constructor
  · intro h
    generalize hq : 42 :: p = q at h
    induction h with
    | nil => cases hq
    | @star0 p' s' h _ => cases hq; exact ⟨0, Nat.zero_le _, h⟩
    | @star1 p' s' c h ih =>
      obtain ⟨j, hj, h2⟩ := ih hq
      exact ⟨j + 1, by simpa using hj, by simpa using h2⟩
    | any h _ => cases hq
    | same hc h _ => cases hq; exact absurd rfl hc
  · rintro ⟨j, hj, h⟩
    induction j generalizing s with
    | zero => exact .star0 h
    | succ j ih =>
      cases s with
      | nil => simp at hj
      | cons c s => exact .star1 (ih s (by simpa using hj) (by simpa using h))
/-- One sign that is no star goes with a byte. -/
def okS (b c : UInt8) : Bool := b == 63 || b == c
theorem mt_sign {b : UInt8} (hb : b ≠ 42) (p s : List UInt8) : Mt (b :: p) s ↔ ∃ c r, s = c :: r ∧ okS b c = true ∧ Mt p r := by
  constructor
  · intro h
    cases h with
    | star0 h => exact absurd rfl hb
    | star1 h => exact absurd rfl hb
    | @any p s c h => exact ⟨c, s, rfl, by simp [okS], h⟩
    | same hc h => exact ⟨b, _, rfl, by simp [okS], h⟩
  · rintro ⟨c, r, rfl, hok, h⟩
    simp [okS] at hok
    rcases hok with rfl | rfl
    · exact .any h
    · exact .same hb h
/-- A star's rest that goes with a later end goes with an earlier one. -/
theorem mt_more {p s : List UInt8} {i j : Nat} (hij : i ≤ j) (hj : j ≤ s.length) (h : Mt (42 :: p) (s.drop j)) : Mt (42 :: p) (s.drop i) := by
  rw [mt_star] at h ⊢
  obtain ⟨k, hk, h⟩ := h
  rw [List.drop_drop] at h
  rw [List.length_drop] at hk
  refine ⟨j - i + k, by rw [List.length_drop]; omega, ?_⟩
  rw [List.drop_drop, show i + (j - i + k) = j + k by omega]
  exact h
/-- Signs without a star go with as many bytes. -/
def goes : List UInt8 → List UInt8 → Bool
  | [], [] => true
  | b :: p, c :: s => b != 42 && okS b c && goes p s
  | _, _ => false
theorem goes_len : ∀ {p s : List UInt8}, goes p s = true → p.length = s.length
  | [], [], _ => rfl
  | b :: p, c :: s, h => by
    simp [goes] at h
    simp [goes_len h.2]
  | [], _ :: _, h => by simp [goes] at h
  | _ :: _, [], h => by simp [goes] at h
theorem goes_mt : ∀ {p s : List UInt8} (q r : List UInt8), goes p s = true → (Mt (p ++ q) (s ++ r) ↔ Mt q r)
  | [], [], q, r, _ => Iff.rfl
  | b :: p, c :: s, q, r, h => by
    simp [goes] at h
    obtain ⟨⟨h1, h2⟩, h3⟩ := h
    rw [List.cons_append, List.cons_append, mt_sign h1]
    constructor
    · rintro ⟨c', r', e, _, hm⟩
      cases e
      exact (goes_mt q r h3).1 hm
    · intro hm
      exact ⟨c, s ++ r, rfl, h2, (goes_mt q r h3).2 hm⟩
  | [], _ :: _, _, _, h => by simp [goes] at h
  | _ :: _, [], _, _, h => by simp [goes] at h
end Go.Proofs.YtdhegblgghembaaDoor
