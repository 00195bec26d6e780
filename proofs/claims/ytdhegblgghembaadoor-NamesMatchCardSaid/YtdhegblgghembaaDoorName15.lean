/- names.Match by contract. -/
import Derived.Test.YtdhegblgghembaaDoorName14
import Derived.Test.YtdhegblgghembaaDoorXdr9
namespace Go.Proofs.YtdhegblgghembaaDoor
open Go.RowKit Go.Lib
set_option linter.unusedVariables false
set_option linter.unusedSimpArgs false

open Classical in
noncomputable def mtB (p s : List UInt8) : Bool := decide (Mt p s)
theorem mtB_yes {p s : List UInt8} (h : Mt p s) : mtB p s = true := by simp [mtB, h]
theorem mtB_no {p s : List UInt8} (h : ¬ Mt p s) : mtB p s = false := by simp [mtB, h]
/-- The state of the loop. -/
def MInv (p s : List UInt8) (st fr pi i : Int) (a b : Nat) : Prop :=
  pi = a ∧ i = b ∧ a ≤ p.length ∧ b ≤ s.length ∧
  ((st = -1 ∧ fr = 0 ∧ (Mt p s ↔ Mt (p.drop a) (s.drop b))) ∨
   ∃ k f : Nat, st = k ∧ fr = f ∧ f ≤ b ∧ k < p.length ∧ a = k + 1 + (b - f) ∧ goes ((p.drop (k + 1)).take (b - f)) ((s.drop f).take (b - f)) = true ∧ (Mt p s ↔ Mt (42 :: p.drop (k + 1)) (s.drop f)))
theorem MInv.start (p s : List UInt8) : MInv p s (-1) 0 0 0 0 0 := ⟨rfl, rfl, Nat.zero_le _, Nat.zero_le _, .inl ⟨rfl, rfl, by simp⟩⟩
/-- A new star. -/
theorem MInv.star {p s : List UInt8} {st fr pi i : Int} {a b : Nat} (h : MInv p s st fr pi i a b) (hp : p[a]? = some 42) : MInv p s pi i (pi + 1) i (a + 1) b := by
  obtain ⟨rfl, rfl, ha, hb, h⟩ := h
  have hal := (List.getElem?_eq_some_iff.1 hp).1
  have hd : p.drop a = 42 :: p.drop (a + 1) := by
    rw [List.drop_eq_getElem_cons hal, (List.getElem?_eq_some_iff.1 hp).2]
  refine ⟨by omega, rfl, hal, hb, .inr ⟨a, b, rfl, rfl, Nat.le_refl _, hal, by omega, by simp [goes], ?_⟩⟩
  rcases h with ⟨_, _, h⟩ | ⟨k, f, _, _, hfb, hk, hak, hg, h⟩
  · rw [h, hd]
  · rw [h]
    have e1 : p.drop (k + 1) = (p.drop (k + 1)).take (b - f) ++ 42 :: p.drop (a + 1) := by
      rw [← hd]
      conv => lhs; rw [← List.take_append_drop (b - f) (p.drop (k + 1))]
      rw [List.drop_drop, ← hak]
    have e2 : s.drop f = (s.drop f).take (b - f) ++ s.drop b := by
      conv => lhs; rw [← List.take_append_drop (b - f) (s.drop f)]
      rw [List.drop_drop, show f + (b - f) = b by omega]
    conv => lhs; rw [e1, e2]
    exact star_new hg
/-- A sign that goes. -/
theorem MInv.sign {p s : List UInt8} {st fr pi i : Int} {a b : Nat} {x c : UInt8} (h : MInv p s st fr pi i a b) (hp : p[a]? = some x) (hs : s[b]? = some c) (hx : x ≠ 42) (ho : okS x c = true) : MInv p s st fr (pi + 1) (i + 1) (a + 1) (b + 1) := by
  obtain ⟨rfl, rfl, ha, hb, h⟩ := h
  obtain ⟨hal, ep⟩ := List.getElem?_eq_some_iff.1 hp
  obtain ⟨hbl, es⟩ := List.getElem?_eq_some_iff.1 hs
  refine ⟨by omega, by omega, hal, hbl, ?_⟩
  rcases h with ⟨h1, h2, h⟩ | ⟨k, f, h1, h2, hfb, hk, hak, hg, h⟩
  · refine .inl ⟨h1, h2, ?_⟩
    rw [h, List.drop_eq_getElem_cons hal, List.drop_eq_getElem_cons hbl, ep, es, mt_sign hx]
    constructor
    · rintro ⟨c', r, e, _, hm⟩
      cases e; exact hm
    · intro hm
      exact ⟨c, _, rfl, ho, hm⟩
  · refine .inr ⟨k, f, h1, h2, by omega, hk, by omega, ?_, h⟩
    rw [show b + 1 - f = b - f + 1 by omega, List.take_add_one, List.take_add_one, List.getElem?_drop, List.getElem?_drop, show k + 1 + (b - f) = a by omega, show f + (b - f) = b by omega, hp, hs]
    exact goes_snoc hg hx ho
/-- What stands at the place does not go: back to the star. -/
theorem MInv.back {p s : List UInt8} {st fr pi i : Int} {a b : Nat} {c : UInt8} (h : MInv p s st fr pi i a b) (hst : 0 ≤ st) (hs : s[b]? = some c) (hn : ∀ t, ¬ Mt (p.drop a) (c :: t)) : ∃ a' b', MInv p s st (fr + 1) (st + 1) (fr + 1) a' b' ∧ a' ≤ p.length ∧ 0 ≤ fr ∧ fr < s.length := by
  obtain ⟨rfl, rfl, ha, hb, h⟩ := h
  obtain ⟨hbl, es⟩ := List.getElem?_eq_some_iff.1 hs
  rcases h with ⟨h1, _⟩ | ⟨k, f, rfl, rfl, hfb, hk, hak, hg, h⟩
  · omega
  · refine ⟨k + 1, f + 1, ⟨by omega, by omega, hk, by omega, .inr ⟨k, f + 1, rfl, by omega, Nat.le_refl _, hk, by omega, by simp [goes], ?_⟩⟩, hk, by omega, by omega⟩
    have hfl : f < s.length := by omega
    rw [h, List.drop_eq_getElem_cons hfl]
    refine star_next ?_
    rw [← List.drop_eq_getElem_cons hfl]
    have e1 : p.drop (k + 1) = (p.drop (k + 1)).take (b - f) ++ p.drop a := by
      conv => lhs; rw [← List.take_append_drop (b - f) (p.drop (k + 1))]
      rw [List.drop_drop, ← hak]
    have e2 : s.drop f = (s.drop f).take (b - f) ++ s.drop b := by
      conv => lhs; rw [← List.take_append_drop (b - f) (s.drop f)]
      rw [List.drop_drop, show f + (b - f) = b by omega]
    rw [e1, e2]
    refine not_goes hg ?_
    rw [List.drop_eq_getElem_cons hbl, es]
    exact hn _
/-- .. and there is no star. -/
theorem MInv.none {p s : List UInt8} {st fr pi i : Int} {a b : Nat} {c : UInt8} (h : MInv p s st fr pi i a b) (hst : st < 0) (hs : s[b]? = some c) (hn : ∀ t, ¬ Mt (p.drop a) (c :: t)) : ¬ Mt p s := by
  obtain ⟨rfl, rfl, ha, hb, h⟩ := h
  obtain ⟨hbl, es⟩ := List.getElem?_eq_some_iff.1 hs
  rcases h with ⟨_, _, h⟩ | ⟨k, f, h1, _⟩
  · rw [h, List.drop_eq_getElem_cons hbl, es]
    exact hn _
  · omega
/-- The text's end. -/
theorem MInv.done {p s : List UInt8} {st fr pi i : Int} {a : Nat} (h : MInv p s st fr pi i a s.length) : Mt p s ↔ ∀ x ∈ p.drop a, x = 42 := by
  obtain ⟨rfl, rfl, ha, hb, h⟩ := h
  rcases h with ⟨_, _, h⟩ | ⟨k, f, _, _, hfb, hk, hak, hg, h⟩
  · rw [h, List.drop_length, mt_stars]
  · rw [h]
    have e1 : p.drop (k + 1) = (p.drop (k + 1)).take (s.length - f) ++ p.drop a := by
      conv => lhs; rw [← List.take_append_drop (s.length - f) (p.drop (k + 1))]
      rw [List.drop_drop, ← hak]
    have e2 : (s.drop f).take (s.length - f) = s.drop f := List.take_of_length_le (by rw [List.length_drop]; exact Nat.le_refl _)
    rw [e2] at hg
    rw [e1, star_end hg, mt_stars]
end Go.Proofs.YtdhegblgghembaaDoor
