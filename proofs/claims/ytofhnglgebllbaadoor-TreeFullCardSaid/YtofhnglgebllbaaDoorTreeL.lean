/- A tree that only grows: its nodes one behind the other; Create and Link by it; names made of numbers. No condition. -/
import Derived.Test.YtofhnglgebllbaaDoorTrC
import Derived.Test.YtofhnglgebllbaaDoorRef1
namespace Go.Proofs.YtofhnglgebllbaaDoor
open Go.RowKit
set_option linter.unusedVariables false
set_option linter.unusedSimpArgs false
/-! ### lists that grow in a row of a fixed length -/
def padO {α : Type} (m : Nat) (z : α) (A : List α) : List α := A ++ List.replicate (m - A.length) z
theorem padO_len {α : Type} {m : Nat} {z : α} {A : List α} (h : A.length ≤ m) : (padO m z A).length = m := by simp [padO]; omega
theorem padO_end {α : Type} {m : Nat} {z : α} {A : List α} (y : α) (h : A.length < m) : (padO m z A).set A.length y = padO m z (A ++ [y]) := by
  unfold padO
  rw [List.set_append_right (h := Nat.le_refl _), Nat.sub_self]
  obtain ⟨c, hc⟩ : ∃ c, m - A.length = c + 1 := ⟨m - A.length - 1, by omega⟩
  have h2 : m - (A ++ [y]).length = c := by simp; omega
  rw [hc, h2, List.replicate_succ, List.set_cons_zero, List.append_assoc]; rfl
theorem padO_set {α : Type} {m k : Nat} {z : α} {A : List α} (y : α) (h : k < A.length) : (padO m z A).set k y = padO m z (A.set k y) := by
  unfold padO
  rw [List.set_append_left (h := h), List.length_set]
theorem padO_get {α : Type} {m k : Nat} {z : α} {A : List α} (h : k < A.length) : (padO m z A)[k]? = A[k]? := by
  unfold padO
  rw [List.getElem?_append_left h]
theorem padO_next {α : Type} {m : Nat} {z : α} {A : List α} (h : A.length < m) : (padO m z A)[A.length]? = some z := by
  unfold padO
  rw [List.getElem?_append_right (Nat.le_refl _), List.getElem?_replicate]
  simp; omega
def psO (m : Nat) (L : List ND) : List (Option Nat) := padO m none (L.map fun N => some N.nb)
def gsO (m : Nat) (L : List ND) : List Int := padO m 0 (L.map fun _ => 1)
def lO (m : Nat) (L : List ND) : List (Option ND) := padO m none (L.map some)
section
variable {m k : Nat} {L : List ND} {N : ND}
theorem psO_len (h : L.length ≤ m) : (psO m L).length = m := padO_len (by simpa using h)
theorem gsO_len (h : L.length ≤ m) : (gsO m L).length = m := padO_len (by simpa using h)
theorem lO_len (h : L.length ≤ m) : (lO m L).length = m := padO_len (by simpa using h)
theorem gsO_rng : ∀ x ∈ gsO m L, 0 ≤ x ∧ x ≤ 1000000 := fun x hx => by
  unfold gsO padO at hx
  rcases List.mem_append.1 hx with hx | hx
  · obtain ⟨_, _, rfl⟩ := List.mem_map.1 hx; decide
  · rw [List.eq_of_mem_replicate hx]; decide
theorem psO_add (N : ND) (h : L.length < m) : (psO m L).set L.length (some N.nb) = psO m (L ++ [N]) := by
  have := padO_end (z := (none : Option Nat)) (some N.nb) (A := L.map fun N => some N.nb) (m := m) (by simpa using h)
  rw [List.length_map] at this
  unfold psO
  rw [this, List.map_append]; rfl
theorem gsO_add (N : ND) (h : L.length < m) : (gsO m L).set L.length (0 + 1) = gsO m (L ++ [N]) := by
  have := padO_end (z := (0 : Int)) (0 + 1) (A := L.map fun _ => (1 : Int)) (m := m) (by simpa using h)
  rw [List.length_map] at this
  unfold gsO
  rw [this, List.map_append]; rfl
theorem lO_add (N : ND) (h : L.length < m) : (lO m L).set L.length (some N) = lO m (L ++ [N]) := by
  have := padO_end (z := (none : Option ND)) (some N) (A := L.map some) (m := m) (by simpa using h)
  rw [List.length_map] at this
  unfold lO
  rw [this, List.map_append]; rfl
theorem lO_set (N : ND) (h : k < L.length) : (lO m L).set k (some N) = lO m (L.set k N) := by
  unfold lO
  rw [padO_set _ (by simpa using h), List.map_set]
theorem psO_set {M : ND} (h : L[k]? = some M) (he : N.nb = M.nb) : psO m (L.set k N) = psO m L := by
  unfold psO
  rw [List.map_set, he]
  congr 1
  exact set_same _ _ _ (by rw [List.getElem?_map, h]; rfl)
theorem gsO_set (N : ND) : gsO m (L.set k N) = gsO m L := by
  have : ((L.set k N).map fun _ => (1 : Int)) = L.map fun _ => 1 := by
    rw [List.map_set]
    by_cases h : k < L.length
    · exact set_same _ _ _ (by rw [List.getElem?_map, List.getElem?_eq_getElem h]; rfl)
    · rw [List.set_eq_of_length_le (by simpa using h)]
  unfold gsO
  rw [this]
theorem lO_get (h : L[k]? = some N) : (lO m L)[k]? = some (some N) := by
  have hl := (List.getElem?_eq_some_iff.1 h).1
  unfold lO
  rw [padO_get (by simpa using hl), List.getElem?_map, h]; rfl
theorem free0_app : ∀ (A : List ND) (c : Nat), free0 ((A.map fun N => some N.nb) ++ List.replicate (c + 1) none) = some A.length
  | [], c => rfl
  | N :: A, c => by
    have := free0_app A c
    simp only [List.map_cons, List.cons_append, free0, List.length_cons]
    rw [this]; rfl
theorem free0_psO (h : L.length < m) : free0 (psO m L) = some L.length := by
  unfold psO padO
  obtain ⟨c, hc⟩ : ∃ c, m - (L.map fun N => some N.nb).length = c + 1 := ⟨m - L.length - 1, by simp; omega⟩
  rw [hc, free0_app]
theorem usedN_rep0 : ∀ n : Nat, usedN (List.replicate n none) = 0
  | 0 => rfl
  | n + 1 => by rw [List.replicate_succ]; exact usedN_rep0 n
theorem usedN_app : ∀ (A : List ND) (c : Nat), usedN ((A.map fun N => some N.nb) ++ List.replicate c none) = A.length
  | [], c => usedN_rep0 c
  | N :: A, c => by simp only [List.map_cons, List.cons_append, usedN, List.length_cons]; rw [usedN_app A c]
theorem usedN_psO : usedN (psO m L) = L.length := usedN_app L _
theorem atOf_psO (h : L[k]? = some N) : atOf (psO m L) (gsO m L) (k : Int) 0 = some N.nb := by
  have hl := (List.getElem?_eq_some_iff.1 h).1
  have h1 : (psO m L)[k]? = some (some N.nb) := by unfold psO; rw [padO_get (by simpa using hl), List.getElem?_map, h]; rfl
  have h2 : (gsO m L)[k]? = some 1 := by unfold gsO; rw [padO_get (by simpa using hl), List.getElem?_map, h]; rfl
  rw [atOf_in h1 h2]; rfl
end
/-! ### names made of numbers -/
def nmT (c : UInt8) (i : Nat) : ByteArray := ⟨(c :: decL i).toArray⟩
theorem nmT_eq (c : UInt8) (i : Nat) : (⟨#[c]⟩ : ByteArray) ++ decS i = nmT c i := by
  unfold decS nmT
  rw [ByteArray.mk_append_mk]
  congr 1
theorem nmT_size (c : UInt8) (i : Nat) : (nmT c i).size ≤ 21 := by
  have := decL_len i
  show ((c :: decL i).toArray).size ≤ 21
  simp; omega
theorem decS_size (i : Int) : (decS i).size ≤ 20 := by
  have := decL_len i
  show ((decL i).toArray).size ≤ 20
  simpa using this
def unD (l : List UInt8) : Nat := l.foldl (fun a b => a * 10 + (b.toNat - 48)) 0
theorem unD_dec : ∀ i : Fin 66, unD (decL ((i.val : Nat) : Int)) = i.val := by decide +kernel
theorem nmT_inj {c : UInt8} {i j : Nat} (hi : i < 66) (hj : j < 66) (h : nmT c i = nmT c j) : i = j := by
  have h1 : decL i = decL j := by
    have := congrArg (fun x : ByteArray => x.data.toList) h
    simp only [nmT] at this
    exact (List.cons.inj this).2
  have h2 := unD_dec ⟨i, hi⟩
  have h3 := unD_dec ⟨j, hj⟩
  simp only at h2 h3
  rw [h1] at h2
  omega
theorem nmT_okF : ∀ i : Fin 66, nameOk (nmT 102 i.val) := by decide +kernel
theorem nmT_okL : ∀ i : Fin 66, nameOk (nmT 108 i.val) := by decide +kernel
theorem nm_d_ok : nameOk ⟨#[100]⟩ := by decide
theorem nm_f0 : (⟨#[102, 48]⟩ : ByteArray) = nmT 102 0 := by decide +kernel
theorem nm_f0_ok : nameOk ⟨#[102, 48]⟩ := by decide
theorem nm_d_ne (c : UInt8) (hc : c ≠ 100) (i : Nat) : (⟨#[100]⟩ : ByteArray) ≠ nmT c i := fun h => by
  have := congrArg (fun x : ByteArray => x.data.toList) h
  simp only [nmT] at this
  exact hc (List.cons.inj this).1.symm
end Go.Proofs.YtofhnglgebllbaaDoor
