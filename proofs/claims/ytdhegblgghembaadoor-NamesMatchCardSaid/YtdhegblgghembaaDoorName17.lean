/- Patterns joined, and the table of beginnings; plain. -/
import Derived.Test.YtdhegblgghembaaDoorName15
namespace Go.Proofs.YtdhegblgghembaaDoor
set_option linter.unusedVariables false
set_option linter.unusedSimpArgs false

theorem mt_append : ∀ (p q t : List UInt8), Mt (p ++ q) t ↔ ∃ u v, t = u ++ v ∧ Mt p u ∧ Mt q v
  | [], q, t => by
    constructor
    · intro h
      exact ⟨[], t, rfl, .nil, h⟩
    · rintro ⟨u, v, rfl, hu, hv⟩
      rw [(mt_nil u).1 hu]
      exact hv
  | b :: p, q, t => by
    rw [List.cons_append]
    by_cases hb : b = 42
    · subst hb
      rw [mt_star]
      constructor
      · rintro ⟨j, hj, h⟩
        obtain ⟨u, v, e, hu, hv⟩ := (mt_append p q _).1 h
        refine ⟨t.take j ++ u, v, ?_, ?_, hv⟩
        · rw [List.append_assoc, ← e, List.take_append_drop]
        · rw [mt_star]
          refine ⟨j, by rw [List.length_append, List.length_take]; omega, ?_⟩
          rw [List.drop_append_of_le_length (by rw [List.length_take]; omega), List.drop_of_length_le (by rw [List.length_take]; omega)]
          exact hu
      · rintro ⟨u, v, rfl, hu, hv⟩
        obtain ⟨j, hj, h⟩ := (mt_star _ _).1 hu
        refine ⟨j, by rw [List.length_append]; omega, ?_⟩
        rw [List.drop_append_of_le_length hj]
        exact (mt_append p q _).2 ⟨_, v, rfl, h, hv⟩
    · rw [mt_sign hb]
      constructor
      · rintro ⟨c, r, rfl, ho, h⟩
        obtain ⟨u, v, rfl, hu, hv⟩ := (mt_append p q _).1 h
        exact ⟨c :: u, v, rfl, (mt_sign hb _ _).2 ⟨c, u, rfl, ho, hu⟩, hv⟩
      · rintro ⟨u, v, rfl, hu, hv⟩
        obtain ⟨c, r, rfl, ho, h⟩ := (mt_sign hb _ _).1 hu
        exact ⟨c, r ++ v, rfl, ho, (mt_append p q _).2 ⟨r, v, rfl, h, hv⟩⟩
theorem mt_one_star (v : List UInt8) : Mt [42] v := (mt_star _ _).2 ⟨v.length, Nat.le_refl _, by rw [List.drop_length]; exact .nil⟩
theorem mt_one_sign {b : UInt8} (hb : b ≠ 42) (v : List UInt8) : Mt [b] v ↔ ∃ c, v = [c] ∧ okS b c = true := by
  rw [mt_sign hb]
  constructor
  · rintro ⟨c, r, rfl, ho, h⟩
    rw [(mt_nil r).1 h]
    exact ⟨c, rfl, ho⟩
  · rintro ⟨c, rfl, ho⟩
    exact ⟨c, [], rfl, ho, .nil⟩
theorem mt_self : ∀ p : List UInt8, Mt p p
  | [] => .nil
  | b :: p => by
    by_cases hb : b = 42
    · subst hb
      exact .star1 (.star0 (mt_self p))
    · exact .same hb (mt_self p)
theorem mt_hole (a b x : List UInt8) : Mt (a ++ [42] ++ b) (a ++ x ++ b) :=
  (mt_append _ _ _).2 ⟨a ++ x, b, rfl, (mt_append _ _ _).2 ⟨a, x, rfl, mt_self a, mt_one_star x⟩, mt_self b⟩

/-! ### The table -/
theorem tab_star0 (p : List UInt8) : Mt (p ++ [42]) [] ↔ Mt p [] := by
  rw [mt_append]
  constructor
  · rintro ⟨u, v, e, hu, _⟩
    have := (List.append_eq_nil_iff.1 e.symm).1
    subst this
    exact hu
  · intro h
    exact ⟨[], [], rfl, h, mt_one_star _⟩
theorem tab_star (p t : List UInt8) (c : UInt8) : Mt (p ++ [42]) (t ++ [c]) ↔ Mt p (t ++ [c]) ∨ Mt (p ++ [42]) t := by
  constructor
  · intro h
    obtain ⟨u, v, e, hu, _⟩ := (mt_append _ _ _).1 h
    rcases List.eq_nil_or_concat v with rfl | ⟨v', d, rfl⟩
    · rw [List.append_nil] at e
      subst e
      exact .inl hu
    · refine .inr ((mt_append _ _ _).2 ⟨u, v', ?_, hu, mt_one_star _⟩)
      rw [List.concat_eq_append, ← List.append_assoc] at e
      exact (List.append_inj' e rfl).1
  · rintro (h | h)
    · exact (mt_append _ _ _).2 ⟨t ++ [c], [], by simp, h, mt_one_star _⟩
    · obtain ⟨u, v, rfl, hu, _⟩ := (mt_append _ _ _).1 h
      exact (mt_append _ _ _).2 ⟨u, v ++ [c], by simp, hu, mt_one_star _⟩
theorem tab_sign0 {b : UInt8} (hb : b ≠ 42) (p : List UInt8) : ¬ Mt (p ++ [b]) [] := by
  rw [mt_append]
  rintro ⟨u, v, e, _, hv⟩
  obtain ⟨c, rfl, _⟩ := (mt_one_sign hb _).1 hv
  have := (List.append_eq_nil_iff.1 e.symm).2
  cases this
theorem tab_sign {b : UInt8} (hb : b ≠ 42) (p t : List UInt8) (c : UInt8) : Mt (p ++ [b]) (t ++ [c]) ↔ Mt p t ∧ okS b c = true := by
  rw [mt_append]
  constructor
  · rintro ⟨u, v, e, hu, hv⟩
    obtain ⟨d, rfl, ho⟩ := (mt_one_sign hb _).1 hv
    obtain ⟨rfl, h2⟩ := List.append_inj' e rfl
    cases h2
    exact ⟨hu, ho⟩
  · rintro ⟨h, ho⟩
    exact ⟨t, [c], rfl, h, (mt_one_sign hb _).2 ⟨c, rfl, ho⟩⟩

/-- The entry of the table for so many signs and so many bytes. -/
noncomputable def tabB (p s : List UInt8) (k i : Nat) : Bool := mtB (p.take k) (s.take i)
theorem mtB_iff {p s : List UInt8} : mtB p s = true ↔ Mt p s := by simp [mtB]
theorem mtB_eq {p s q t : List UInt8} (h : Mt p s ↔ Mt q t) : mtB p s = mtB q t := by
  rw [Bool.eq_iff_iff, mtB_iff, mtB_iff]; exact h
theorem tabB_first (p s : List UInt8) (i : Nat) : i ≤ s.length → tabB p s 0 i = decide (i = 0) := by
  intro hi
  unfold tabB
  rw [List.take_zero, Bool.eq_iff_iff, mtB_iff, mt_nil]
  constructor
  · intro h
    have h2 := congrArg List.length h
    rw [List.length_take, List.length_nil] at h2
    exact decide_eq_true (by omega)
  · intro h
    rw [of_decide_eq_true h, List.take_zero]
theorem tabB_last (p s : List UInt8) : tabB p s p.length s.length = mtB p s := by
  unfold tabB; rw [List.take_length, List.take_length]
variable {p s : List UInt8} {k i : Nat} {b c : UInt8}
theorem take_at (h : p[k]? = some b) : p.take (k + 1) = p.take k ++ [b] := by
  rw [List.take_add_one, h]; rfl
theorem tabB_star0 (h : p[k]? = some 42) : tabB p s (k + 1) 0 = tabB p s k 0 := by
  unfold tabB
  rw [take_at h, List.take_zero]
  exact mtB_eq (tab_star0 _)
theorem tabB_star (h : p[k]? = some 42) (hs : i < s.length) : tabB p s (k + 1) (i + 1) = (tabB p s k (i + 1) || tabB p s (k + 1) i) := by
  unfold tabB
  rw [take_at h, take_at (List.getElem?_eq_getElem hs), Bool.eq_iff_iff, Bool.or_eq_true, mtB_iff, mtB_iff, mtB_iff]
  exact tab_star _ _ _
theorem tabB_sign0 (h : p[k]? = some b) (hb : b ≠ 42) : tabB p s (k + 1) 0 = false := by
  unfold tabB
  rw [take_at h, List.take_zero]
  exact mtB_no (tab_sign0 hb _)
theorem tabB_sign (h : p[k]? = some b) (hb : b ≠ 42) (hs : s[i]? = some c) : tabB p s (k + 1) (i + 1) = (tabB p s k i && okS b c) := by
  unfold tabB
  rw [take_at h, take_at hs, Bool.eq_iff_iff, Bool.and_eq_true, mtB_iff, mtB_iff]
  exact tab_sign hb _ _ _
end Go.Proofs.YtdhegblgghembaaDoor
