/- Slices of structs among a law's arguments: opened. -/
import Derived.Test.YtgebinfbbopnlaaDoorBase
import Derived.ProofKit
import Derived.Deep.Slices
import Derived.Lib.SmallJoins
namespace Go.Proofs.YtgebinfbbopnlaaDoor
open Go.RowKit
set_option linter.unusedVariables false
set_option linter.unusedSimpArgs false

theorem list_choice {α : Type} {Q : Nat → α → Prop} : ∀ (n : Nat), (∀ i, i < n → ∃ x, Q i x) → ∃ l : List α, l.length = n ∧ ∀ (i : Nat) x, l[i]? = some x → Q i x
  | 0, _ => ⟨[], rfl, fun i x h => by cases h⟩
  | n + 1, h => by
    obtain ⟨l, h1, h2⟩ := list_choice n (fun i hi => h i (by omega))
    obtain ⟨x, hx⟩ := h n (by omega)
    refine ⟨l ++ [x], by simp [h1], fun i y hy => ?_⟩
    rcases Nat.lt_or_ge i n with hi | hi
    · rw [List.getElem?_append_left (by omega)] at hy; exact h2 i y hy
    · rw [List.getElem?_append_right (by omega)] at hy
      have hin : i = n := by
        have := (List.getElem?_eq_some_iff.1 hy).1
        simp at this; omega
      subst hin
      simp [h1] at hy; subst hy; exact hx

/-- The cells of a row, one by one. -/
theorem cells_at {w : World} {base : Nat} {a : Addr} : ∀ {n : Nat} {cs : List Value}, w.cells? base a n = some cs → cs.length = n ∧ ∀ (r : Nat) u, cs[r]? = some u → w.cell? (a.add r) = some u := by
  intro n cs h
  unfold World.cells? at h
  split at h
  · have key : ∀ (l : List Nat) (cs : List Value), l.mapM (fun i => w.cell? (a.add i)) = some cs → cs.length = l.length ∧ ∀ (r : Nat) u, cs[r]? = some u → ∃ i : Nat, l[r]? = some i ∧ w.cell? (a.add i) = some u := by
      intro l
      induction l with
      | nil => intro cs h; simp at h; subst h; exact ⟨rfl, fun r u h => by cases h⟩
      | cons x l ih =>
        intro cs h
        simp only [List.mapM_cons, Option.bind_eq_bind, Option.bind_eq_some_iff] at h
        obtain ⟨v, hv, vs, hvs, hcs⟩ := h
        cases hcs
        obtain ⟨h1, h2⟩ := ih vs hvs
        refine ⟨by simp [h1], fun r u hu => ?_⟩
        cases r with
        | zero => simp at hu; subst hu; exact ⟨x, rfl, hv⟩
        | succ r => obtain ⟨i, hi, hc⟩ := h2 r u (by simpa using hu); exact ⟨i, by simpa using hi, hc⟩
    obtain ⟨h1, h2⟩ := key _ cs h
    refine ⟨by simpa using h1, fun r u hu => ?_⟩
    obtain ⟨i, hi, hc⟩ := h2 r u hu
    obtain ⟨hr, e⟩ := List.getElem?_eq_some_iff.1 hi
    simp at e; subst e; exact hc
  · cases h

/-- A slice's elements, each told by its cells: what each element's reading gives is asked of the caller. -/
theorem open_elems {H : Type} {P : Program} {enc : TypeId × Value → H} {W : World} {T E size fuel : Nat} {a0 : Option Addr} {len cap : Nat} {x : DataW H × List MemPlace} {α : Type} {encC : α → List Value}
    (ht : P.underlying T = some (.slice E)) (hsz : P.cellsOf E = size) (hs0 : 0 < size) (he : ∀ a, (encC a).length = size)
    (h : DataW.trod enc P W 0 (fun _ => true) true fuel T [.slice a0 len cap] = some x)
    (elem : ∀ (n : Nat) (cs : List Value) y, DataW.trod enc P W 0 (fun _ => true) true n E cs = some y → ∃ a, cs = encC a) :
    ∃ l : List α, l.length = len ∧ len ≤ cap ∧ cap ≤ maxLen ∧ ∀ (i : Nat) x, l[i]? = some x → ∃ g off, a0 = some ⟨g, off, none⟩ ∧ g < W.heap.size ∧ ∀ r u, (encC x)[r]? = some u → W.cell? ⟨g, off + i * size + r, none⟩ = some u := by
  rcases Go.Deep.open_slice ht h with ⟨hcs, _⟩ | ⟨a, len', cap', m, n, D, Pl, hcs, _, hl, hm, hmm, _, hx⟩
  · simp at hcs
    obtain ⟨rfl, rfl, rfl⟩ := hcs
    exact ⟨[], rfl, Nat.le_refl _, Nat.zero_le _, fun i x h => by cases h⟩
  · simp at hcs
    obtain ⟨rfl, rfl, rfl⟩ := hcs
    simp only [if_true] at hmm
    obtain ⟨l, h1, h2⟩ := list_choice (Q := fun i (x : α) => ∃ g off, (some a : Option Addr) = some ⟨g, off, none⟩ ∧ g < W.heap.size ∧ ∀ r u, (encC x)[r]? = some u → W.cell? ⟨g, off + i * size + r, none⟩ = some u) len (fun i hi => by
      obtain ⟨cs', hc, hd⟩ := hx i (by omega)
      obtain ⟨y, rfl⟩ := elem _ _ _ hd
      rw [hsz] at hc
      obtain ⟨c1, c2⟩ := cells_at hc
      obtain ⟨g, off, sp⟩ := a
      have h0 := c2 0 ((encC y)[0]'(by rw [he]; omega)) (List.getElem?_eq_getElem _)
      have hsp : sp = none := by
        have := World.cell?_spot h0
        rcases Nat.eq_zero_or_pos (i * size) with hz | hz
        · rw [hz] at this; simpa [Addr.add] using this
        · obtain ⟨cs0, hc0, hd0⟩ := hx 0 (by omega)
          obtain ⟨y0, rfl⟩ := elem _ _ _ hd0
          rw [hsz, Nat.zero_mul] at hc0
          obtain ⟨_, e2⟩ := cells_at hc0
          have := World.cell?_spot (e2 0 ((encC y0)[0]'(by rw [he]; omega)) (List.getElem?_eq_getElem _))
          simpa [Addr.add] using this
      subst hsp
      refine ⟨y, g, off, rfl, ?_, fun r u hu => ?_⟩
      · have := World.block_lt_of_cell? _ _ h0
        simpa [Addr.add_lit] using this
      · have := c2 r u hu
        rwa [Addr.add_lit, Addr.add_lit] at this)
    exact ⟨l, h1, hl, hm, h2⟩
end Go.Proofs.YtgebinfbbopnlaaDoor
