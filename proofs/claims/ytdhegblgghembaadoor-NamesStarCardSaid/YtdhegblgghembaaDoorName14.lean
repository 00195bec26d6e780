/- The program's way with patterns: what each step keeps; plain. -/
import Derived.Test.YtdhegblgghembaaDoorName13
namespace Go.Proofs.YtdhegblgghembaaDoor
set_option linter.unusedVariables false
set_option linter.unusedSimpArgs false

theorem goes_snoc : ∀ {p s : List UInt8} {b c : UInt8}, goes p s = true → b ≠ 42 → okS b c = true → goes (p ++ [b]) (s ++ [c]) = true
  | [], [], b, c, _, hb, hc => by simp [goes, hb, hc]
  | x :: p, y :: s, b, c, h, hb, hc => by
    simp [goes] at h
    simp [goes, h.1.1, h.1.2, goes_snoc h.2 hb hc]
  | [], _ :: _, _, _, h, _, _ => by simp [goes] at h
  | _ :: _, [], _, _, h, _, _ => by simp [goes] at h
def plainP (p : List UInt8) : Prop := ∀ b ∈ p, b ≠ 42
theorem goes_plain : ∀ {p s : List UInt8}, goes p s = true → plainP p
  | [], [], _ => fun b hb => by cases hb
  | x :: p, y :: s, h => by
    simp [goes] at h
    intro b hb
    rcases List.mem_cons.1 hb with rfl | hb
    · exact h.1.1
    · exact goes_plain h.2 b hb
  | [], _ :: _, h => by simp [goes] at h
  | _ :: _, [], h => by simp [goes] at h
theorem plain_split : ∀ {p : List UInt8} (q t : List UInt8), plainP p → Mt (p ++ q) t → p.length ≤ t.length ∧ Mt q (t.drop p.length)
  | [], q, t, _, h => ⟨Nat.zero_le _, h⟩
  | b :: p, q, t, hp, h => by
    rw [List.cons_append, mt_sign (hp b (by simp))] at h
    obtain ⟨c, r, rfl, _, h⟩ := h
    obtain ⟨h1, h2⟩ := plain_split q r (fun x hx => hp x (by simp [hx])) h
    exact ⟨by simpa using h1, by simpa using h2⟩
/-- A new star: the earliest place serves. -/
theorem star_new {seg u rest v : List UInt8} (h : goes seg u = true) : Mt (42 :: (seg ++ 42 :: rest)) (u ++ v) ↔ Mt (42 :: rest) v := by
  have hl := goes_len h
  constructor
  · intro hm
    rw [mt_star] at hm
    obtain ⟨j, hj, hm⟩ := hm
    obtain ⟨h1, h2⟩ := plain_split _ _ (goes_plain h) hm
    rw [List.drop_drop, hl] at h2
    rw [List.length_drop, hl] at h1
    rw [show j + u.length = u.length + j by omega, ← List.drop_drop, List.drop_left] at h2
    rw [List.length_append] at hj h1
    have := mt_more (i := 0) (j := j) (Nat.zero_le _) (by omega) h2
    simpa using this
  · intro hm
    exact .star0 ((goes_mt _ _ h).2 hm)
/-- A byte that does not go: one place further. -/
theorem star_next {R t : List UInt8} {c : UInt8} (h : ¬ Mt R (c :: t)) : Mt (42 :: R) (c :: t) ↔ Mt (42 :: R) t := by
  constructor
  · intro hm
    cases hm with
    | star0 h' => exact absurd h' h
    | star1 h' => exact h'
    | same hc _ => exact absurd rfl hc
  · exact .star1
theorem not_goes {seg u q v : List UInt8} (h : goes seg u = true) (hq : ¬ Mt q v) : ¬ Mt (seg ++ q) (u ++ v) := fun hm => hq ((goes_mt _ _ h).1 hm)
theorem no_sign {b c : UInt8} {p t : List UInt8} (hb : b ≠ 42) (hc : okS b c = false) : ¬ Mt (b :: p) (c :: t) := by
  rw [mt_sign hb]
  rintro ⟨c', r, e, ho, _⟩
  cases e
  rw [hc] at ho; cases ho
theorem no_more {c : UInt8} {t : List UInt8} : ¬ Mt [] (c :: t) := by rw [mt_nil]; simp
/-- The text's end. -/
theorem star_end {seg u q : List UInt8} (h : goes seg u = true) : Mt (42 :: (seg ++ q)) u ↔ Mt q [] := by
  have hl := goes_len h
  constructor
  · intro hm
    rw [mt_star] at hm
    obtain ⟨j, hj, hm⟩ := hm
    obtain ⟨h1, h2⟩ := plain_split _ _ (goes_plain h) hm
    rw [List.length_drop] at h1
    have e : (u.drop j).drop seg.length = [] := by rw [List.drop_drop]; apply List.drop_eq_nil_of_le; omega
    rwa [e] at h2
  · intro hm
    have := (goes_mt q [] h).2 hm
    rw [List.append_nil] at this
    exact .star0 this
theorem mt_stars : ∀ p : List UInt8, Mt p [] ↔ ∀ b ∈ p, b = 42
  | [] => by
    constructor
    · intro _ b hb
      cases hb
    · intro _
      exact Mt.nil
  | b :: p => by
    by_cases hb : b = 42
    · subst hb
      rw [mt_star]
      constructor
      · rintro ⟨j, _, h⟩
        simp at h
        intro x hx
        rcases List.mem_cons.1 hx with rfl | hx
        · rfl
        · exact (mt_stars p).1 h x hx
      · intro h
        exact ⟨0, Nat.zero_le _, (mt_stars p).2 (fun x hx => h x (by simp [hx]))⟩
    · constructor
      · intro h
        rw [mt_sign hb] at h
        obtain ⟨_, _, e, _⟩ := h
        cases e
      · intro h
        exact absurd (h b (by simp)) hb
end Go.Proofs.YtdhegblgghembaaDoor
