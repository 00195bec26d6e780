/- The reference's AttrOf by contract: what the program's Encode answers. -/
import Derived.Test.YtdhegblgghembaaDoorAttr3
namespace Go.Proofs.YtdhegblgghembaaDoor
open Go.RowKit Go.Lib
set_option linter.unusedVariables false
set_option linter.unusedSimpArgs false

def bitsL : List Int := [1, 2, 4, 8, 16, 16]
/-- The fields that a mask asks for, up to k. -/
def fbit (f : Nat) : Nat := if f < 5 then f else 4
def fldsM (m k : Nat) : List Nat := (List.range k).filter fun f => m / 2 ^ fbit f % 2 == 1
theorem fldsM_yes {m k : Nat} (h : m / 2 ^ fbit k % 2 = 1) : fldsM m (k + 1) = fldsM m k ++ [k] := by unfold fldsM; rw [List.range_succ, List.filter_append]; simp [h]
theorem fldsM_no {m k : Nat} (h : ¬ m / 2 ^ fbit k % 2 = 1) : fldsM m (k + 1) = fldsM m k := by unfold fldsM; rw [List.range_succ, List.filter_append]; simp [h]
theorem fldsM_all : ∀ m, m ≤ 31 → fldsM m 6 = (idxs m 5).flatMap flds := by
  intro m hm
  have : ∀ n : Fin 32, fldsM n.val 6 = (idxs n.val 5).flatMap flds := by decide
  exact this ⟨m, by omega⟩
/-- The reference's texts: as the Writer's, without a bound. -/
def refF (a : Nat → Int) (t : List UInt8) (f : Nat) : List UInt8 × Nat :=
  if a f < 0 ∨ (longF f = false ∧ 4294967296 ≤ a f) then (t, 2) else (t ++ bigL (if longF f then 8 else 4) (a f).toNat, 0)
theorem refF_wF (a : Nat → Int) (t : List UInt8) (f : Nat) (h : t.length ≤ 3992) : wF a t f = refF a t f := by
  unfold wF refF
  cases hl : longF f with
  | true =>
    simp only [if_true]
    unfold wLong
    by_cases hb : a f < 0
    · rw [if_pos hb, if_pos (.inl hb)]
    · rw [if_neg hb, if_neg (by simp; omega)]
      unfold wPut
      rw [if_neg (by rw [bigB_size]; omega)]
      rfl
  | false =>
    simp only [Bool.false_eq_true, if_false]
    unfold wInt
    by_cases hb : a f < 0 ∨ 4294967296 ≤ a f
    · rw [if_pos hb, if_pos (by simpa using hb)]
    · rw [if_neg hb, if_neg (by simpa using hb)]
      unfold wPut
      rw [if_neg (by rw [bigB_size]; omega)]
      rfl
theorem refF_len (a : Nat → Int) (t : List UInt8) (f : Nat) : (refF a t f).1.length ≤ t.length + 8 := by
  unfold refF
  split
  · exact Nat.le_add_right ..
  · simp only [List.length_append, bigL_len]
    split <;> omega
/-- All fields up to k: the text, or that one does not go. -/
theorem encS_bad (a : Nat → Int) (t : List UInt8) (c : Nat) (hc : c ≠ 0) : ∀ fs, encS a (t, c) fs = (t, c)
  | [] => rfl
  | f :: fs => by
    show encS a (encStep a (t, c) f) fs = _
    unfold encStep
    rw [if_neg hc]
    exact encS_bad a t c hc fs
theorem encS_len (a : Nat → Int) : ∀ (fs : List Nat) (t : List UInt8) (c : Nat), t.length + 8 * fs.length ≤ 4000 → (encS a (t, c) fs).1.length ≤ t.length + 8 * fs.length
  | [], t, c, _ => by simp [encS]
  | f :: fs, t, c, h => by
    show (encS a (encStep a (t, c) f) fs).1.length ≤ _
    simp only [List.length_cons] at h ⊢
    unfold encStep
    by_cases hc : c = 0
    · rw [if_pos hc]
      simp only
      rw [refF_wF a t f (by omega)]
      have h1 := refF_len a t f
      have h2 := encS_len a fs (refF a t f).1 (refF a t f).2 (by omega)
      show (encS a ((refF a t f).1, (refF a t f).2) fs).1.length ≤ _
      omega
    · rw [if_neg hc, encS_bad a t c hc]
      simp only; omega
end Go.Proofs.YtdhegblgghembaaDoor
