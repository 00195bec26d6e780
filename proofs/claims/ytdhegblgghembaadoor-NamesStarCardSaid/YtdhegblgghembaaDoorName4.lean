/- strings.Split at a slash: the words of a text: plain; names.Split by contract. -/
import Derived.Test.YtdhegblgghembaaDoorName3
import Derived.Test.YtdhegblgghembaaDoorShelf
import Derived.Lib.IndexBytes
import Derived.Lib.Split
namespace Go.Proofs.YtdhegblgghembaaDoor
open Go.RowKit Go.Lib
set_option linter.unusedVariables false
set_option linter.unusedSimpArgs false

/-- The words between slashes. -/
def wordsL : List UInt8 → List (List UInt8)
  | [] => [[]]
  | b :: r => if b = 47 then [] :: wordsL r else match wordsL r with
    | x :: xs => (b :: x) :: xs
    | [] => [[b]]
theorem wordsL_miss : ∀ (s : List UInt8), (∀ k : Nat, s[k]? ≠ some 47) → wordsL s = [s]
  | [], _ => rfl
  | b :: r, h => by
    have hb : b ≠ 47 := fun e => h 0 (by simp [e])
    have hr := wordsL_miss r (fun k => by have := h (k + 1); simpa using this)
    rw [wordsL, if_neg hb, hr]
theorem wordsL_hit : ∀ (s : List UInt8) (o : Nat), s[o]? = some 47 → (∀ k : Nat, k < o → s[k]? ≠ some 47) → wordsL s = s.take o :: wordsL (s.drop (o + 1))
  | [], o, h, _ => by simp at h
  | b :: r, 0, h, _ => by
    simp at h
    rw [wordsL, if_pos h]; rfl
  | b :: r, o + 1, h, hn => by
    have hb : b ≠ 47 := fun e => hn 0 (by omega) (by simp [e])
    have hr := wordsL_hit r o (by simpa using h) (fun k hk => by have := hn (k + 1) (by omega); simpa using this)
    rw [wordsL, if_neg hb, hr]; rfl
theorem split_words : ∀ (n : Nat) (s : List UInt8), s.length ≤ n → splitK [47] 0 (count s [47]) s = wordsL s
  | n, s, hn => by
    have hi := index_one s 47
    have hge := indexByte_ge s 47
    by_cases h : indexByte s 47 = -1
    · rw [count_miss (by rw [hi]; exact h), wordsL_miss s (fun k => indexByte_none h k)]; rfl
    · obtain ⟨o, ho⟩ : ∃ o : Nat, indexByte s 47 = o := ⟨(indexByte s 47).toNat, by omega⟩
      obtain ⟨h1, h2⟩ := indexByte_some ho
      have hol := (List.getElem?_eq_some_iff.1 h1).1
      rw [count_hit (by simp) (by rw [hi]; exact ho), wordsL_hit s o h1 h2, Nat.add_comm 1, splitK]
      have hne : ¬ (index s [47] == -1) = true := by rw [hi, ho]; simp
      rw [if_neg hne, hi, ho]
      match n, hn with
      | 0, hn => omega
      | n + 1, hn =>
        have := split_words n (s.drop (o + 1)) (by rw [List.length_drop]; omega)
        simp only [Int.toNat_natCast, Nat.add_zero, List.length_cons, List.length_nil, Nat.zero_add]
        rw [this]
def txtsL (s : ByteArray) : List ByteArray := (wordsL s.data.toList).map fun l => ⟨l.toArray⟩
theorem wordsL_len : ∀ s : List UInt8, 1 ≤ (wordsL s).length ∧ (wordsL s).length ≤ s.length + 1
  | [] => by simp [wordsL]
  | b :: r => by
    have h := wordsL_len r
    rw [wordsL]
    split
    · simp only [List.length_cons]; omega
    · split
      · rename_i x xs e
        rw [e] at h
        simp only [List.length_cons] at h ⊢; omega
      · simp
theorem wordsL_size : ∀ (s : List UInt8) (x : List UInt8), x ∈ wordsL s → x.length ≤ s.length
  | [], x, h => by simp [wordsL] at h; simp [h]
  | b :: r, x, h => by
    rw [wordsL] at h
    split at h
    · rcases List.mem_cons.1 h with rfl | h
      · simp
      · have := wordsL_size r x h; simp only [List.length_cons]; omega
    · split at h
      · rename_i y ys e
        rcases List.mem_cons.1 h with rfl | h
        · have := wordsL_size r y (by rw [e]; simp); simp only [List.length_cons]; omega
        · have := wordsL_size r x (by rw [e]; simp [h]); simp only [List.length_cons]; omega
      · simp at h; simp [h]
theorem txtsL_size (s x : ByteArray) (h : x ∈ txtsL s) : x.size ≤ s.size := by
  unfold txtsL at h
  obtain ⟨l, hl, rfl⟩ := List.mem_map.1 h
  have := wordsL_size _ l hl
  have h2 : s.data.toList.length = s.size := Array.length_toList
  simp only [ByteArray.size, List.size_toArray] at h2 ⊢
  omega
theorem splitB_txts (s : ByteArray) : splitB ⟨#[47]⟩ 0 (countB s ⟨#[47]⟩) s = txtsL s := by
  have h := splitB_data ⟨#[47]⟩ 0 (countB s ⟨#[47]⟩) s
  have h2 := split_words _ s.data.toList (Nat.le_refl _)
  have h3 : (splitB ⟨#[47]⟩ 0 (countB s ⟨#[47]⟩) s).map (·.data.toList) = wordsL s.data.toList := h.trans h2
  unfold txtsL
  rw [← h3, List.map_map]
  conv => lhs; rw [← List.map_id (splitB ⟨#[47]⟩ 0 (countB s ⟨#[47]⟩) s)]
  apply List.map_congr_left
  intro x _
  obtain ⟨d⟩ := x
  rfl
theorem txtsL_len (s : ByteArray) : (txtsL s).length = countB s ⟨#[47]⟩ + 1 := by
  have h2 := split_words _ s.data.toList (Nat.le_refl _)
  have : ∀ (k : Nat) (l : List UInt8), k = count l [47] → (splitK [47] 0 k l).length = k + 1 := by
    intro k
    induction k with
    | zero => intro l _; rfl
    | succ k ih =>
      intro l hk
      have hi := index_one l 47
      have hge := indexByte_ge l 47
      by_cases h : indexByte l 47 = -1
      · rw [count_miss (by rw [hi]; exact h)] at hk; omega
      · obtain ⟨o, ho⟩ : ∃ o : Nat, indexByte l 47 = o := ⟨(indexByte l 47).toNat, by omega⟩
        rw [count_hit (by simp) (by rw [hi]; exact ho)] at hk
        have hne : ¬ (index l [47] == -1) = true := by rw [hi, ho]; simp
        rw [splitK, if_neg hne, hi, ho]
        simp only [Int.toNat_natCast, List.length_cons, List.length_nil, Nat.zero_add]
        rw [ih _ (by simp at hk ⊢; omega)]
  unfold txtsL
  rw [List.length_map, ← h2]
  exact this _ _ rfl
end Go.Proofs.YtdhegblgghembaaDoor
