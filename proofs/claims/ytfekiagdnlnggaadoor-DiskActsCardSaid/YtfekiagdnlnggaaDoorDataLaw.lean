/- The plain law of data: what stands at each place behind a write, a cut; what is read. No program in sight. -/
import Derived.Test.YtfekiagdnlnggaaDoorData3
namespace Go.Proofs.YtfekiagdnlnggaaDoor
open Go.RowKit
set_option linter.unusedVariables false
set_option linter.unusedSimpArgs false

theorem aget_aput {α β : Type} [DecidableEq α] (k k' : α) (v : β) : ∀ (kv : List (α × β)), aget (aput kv k v) k' = if k' = k then some v else aget kv k'
  | [] => by simp [aput, aget]
  | p :: r => by
    unfold aput
    by_cases c : k = p.1
    · rw [if_pos c]
      unfold aget
      by_cases e : k' = p.1
      · simp [e, c]
      · have : ¬ k' = k := fun h => e (h.trans c)
        simp [e, this]
    · rw [if_neg c]
      unfold aget
      by_cases e : k' = p.1
      · have : ¬ p.1 = k := fun h => c h.symm
        simp [e, this]
      · simp [e, aget_aput k k' v r]
theorem aget_filter {α β : Type} [DecidableEq α] (k : α) (P : α → Bool) : ∀ (kv : List (α × β)), aget (kv.filter fun p => P p.1) k = if P k then aget kv k else none
  | [] => by simp [aget]
  | p :: r => by
    by_cases c : P p.1 = true
    · rw [List.filter_cons_of_pos (by simpa using c)]
      unfold aget
      by_cases e : k = p.1
      · simp [e, c]
      · simp [e, aget_filter k P r]
    · rw [List.filter_cons_of_neg (by simpa using c), aget_filter k P r]
      by_cases e : k = p.1
      · subst e; simp [c]
      · conv => rhs; unfold aget
        simp [e]

theorem dget_put (kv : Blks) (i : Nat) (c : UInt8) (q : Nat) : dget (dput kv i c) q = if q = i / 64 then (dget kv (i / 64)).set (i % 64) c else dget kv q := by
  unfold dput
  conv => lhs; unfold dget
  rw [aget_aput]
  by_cases h : q = i / 64
  · subst h; rw [if_pos rfl, if_pos rfl]; rfl
  · have : ¬ ((q : Int) = ((i / 64 : Nat) : Int)) := by omega
    rw [if_neg this, if_neg h]; rfl
theorem dbyte_put {kv : Blks} (h : Full kv) (i : Nat) (c : UInt8) (j : Nat) : dbyte (dput kv i c) j = if j = i then c else dbyte kv j := by
  unfold dbyte
  rw [dget_put]
  have hl := dget_len h (i / 64)
  by_cases e : j = i
  · subst e
    simp [hl, Nat.mod_lt]
  · rw [if_neg e]
    by_cases q : j / 64 = i / 64
    · have : ¬ i % 64 = j % 64 := by omega
      rw [if_pos q, q, List.getElem?_set_ne this]
    · rw [if_neg q]
theorem dbyte_puts : ∀ (s : List UInt8) {kv : Blks} (i : Nat), Full kv → i + s.length ≤ 4096 → ∀ j, dbyte (dputs kv i s) j = if i ≤ j ∧ j < i + s.length then (s[j - i]?).getD 0 else dbyte kv j
  | [], kv, i, h, _, j => by
    rw [if_neg (by simp only [List.length_nil]; omega)]; rfl
  | c :: s, kv, i, h, hl, j => by
    simp only [List.length_cons] at hl ⊢
    unfold dputs
    rw [dbyte_puts s (i + 1) (dput_full h i (by omega) c) (by omega) j, dbyte_put h]
    by_cases e : j = i
    · subst e
      rw [if_neg (by omega), if_pos rfl, if_pos (by omega)]; simp
    · by_cases e2 : i ≤ j ∧ j < i + (s.length + 1)
      · rw [if_pos (by omega), if_pos e2, show j - i = (j - (i + 1)) + 1 by omega]; rfl
      · rw [if_neg (by omega), if_neg e, if_neg e2]
theorem dbyte_cut {kv : Blks} (h : Full kv) (n j : Nat) : dbyte (dcut (kv.filter fun p => !decide ((n : Int) ≤ p.1 * 64)) n) j = if j < n then dbyte kv j else 0 := by
  have hf : ∀ q : Nat, aget (kv.filter fun p => !decide ((n : Int) ≤ p.1 * 64)) (q : Int) = if (n : Int) ≤ q * 64 then none else aget kv (q : Int) := fun q => by
    rw [aget_filter (q : Int) (fun k => !decide ((n : Int) ≤ k * 64)) kv]
    by_cases c : (n : Int) ≤ q * 64 <;> simp [c]
  have hz : ∀ r : Nat, (zero64[r]?).getD 0 = 0 := fun r => by
    unfold zero64; rw [List.getElem?_replicate]; split <;> rfl
  have hfb : ∀ i, dbyte (kv.filter fun p => !decide ((n : Int) ≤ p.1 * 64)) i = if n ≤ i / 64 * 64 then 0 else dbyte kv i := fun i => by
    unfold dbyte dget
    rw [hf]
    by_cases c : n ≤ i / 64 * 64
    · rw [if_pos (by omega), if_pos c]; exact hz _
    · rw [if_neg (by omega), if_neg c]
  unfold dcut
  have hf2 : aget (kv.filter fun p => !decide ((n : Int) ≤ p.1 * 64)) ((n / 64 : Nat) : Int) = if (n : Int) ≤ (n / 64 : Nat) * 64 then none else aget kv ((n / 64 : Nat) : Int) := hf (n / 64)
  cases hg : aget (kv.filter fun p => !decide ((n : Int) ≤ p.1 * 64)) ((n / 64 : Nat) : Int) with
  | none =>
    simp only [hfb]
    by_cases c : j < n
    · rw [if_neg (by omega), if_pos c]
    · rw [if_neg c]
      by_cases c2 : n ≤ j / 64 * 64
      · rw [if_pos c2]
      · rw [if_neg c2]
        have hq : j / 64 = n / 64 := by omega
        rw [hg] at hf2
        unfold dbyte dget
        rw [hq]
        by_cases c3 : (n : Int) ≤ ((n / 64 : Nat) : Int) * 64
        · exfalso; omega
        · rw [if_neg c3] at hf2
          rw [← hf2]; exact hz _
  | some l =>
    have hc3 : ¬ (n : Int) ≤ ((n / 64 : Nat) : Int) * 64 := fun c => by rw [if_pos c] at hf2; rw [hg] at hf2; cases hf2
    rw [if_neg hc3, hg] at hf2
    have hl : l.length = 64 := (h _ (aget_mem hf2.symm)).1
    show ((dget (aput (kv.filter fun p => !decide ((n : Int) ≤ p.1 * 64)) ((n / 64 : Nat) : Int) (l.take (n % 64) ++ List.replicate (64 - n % 64) 0)) (j / 64))[j % 64]?).getD 0 = _
    unfold dget
    rw [aget_aput]
    by_cases hq : j / 64 = n / 64
    · rw [if_pos (by omega)]
      simp only [Option.getD_some]
      by_cases c : j < n
      · rw [if_pos c, List.getElem?_append_left (by rw [List.length_take]; omega), List.getElem?_take, if_pos (by omega)]
        unfold dbyte dget
        rw [hq, ← hf2]; rfl
      · rw [if_neg c, List.getElem?_append_right (by rw [List.length_take]; omega), List.getElem?_replicate]
        split <;> rfl
    · rw [if_neg (by omega)]
      have := hfb j
      unfold dbyte dget at this
      rw [this]
      by_cases c : j < n
      · rw [if_neg (by omega), if_pos c]; rfl
      · rw [if_neg c, if_pos (by omega)]

/-! ### Files: data and what it holds -/
/-- The data d holds the bytes s, and nothing but noughts beyond. -/
structure Holds (d : PData) (s : List UInt8) : Prop where
  size : d.size = s.length
  bytes : ∀ j, dbyte d.kv j = (s[j]?).getD 0
  full : Full d.kv
  small : d.size ≤ 4096
theorem Holds.read {d : PData} {s : List UInt8} (h : Holds d s) (p m : Nat) (hm : p + m ≤ s.length) : rdBytes d.kv p m = (s.drop p).take m := by
  apply List.ext_getElem?
  intro i
  rw [List.getElem?_take]
  unfold rdBytes
  rw [List.getElem?_map, List.getElem?_drop]
  by_cases c : i < m
  · rw [List.getElem?_range c, if_pos c, Option.map_some, h.bytes, List.getElem?_eq_getElem (by omega)]; rfl
  · rw [if_neg c, List.getElem?_eq_none (by simpa using c)]; rfl
theorem holds_nil : Holds ⟨0, []⟩ [] where
  size := rfl
  bytes := fun j => by
    unfold dbyte dget aget
    simp only [Option.getD_none, List.getElem?_nil]
    unfold zero64; rw [List.getElem?_replicate]; split <;> rfl
  full := fun p h => by cases h
  small := Nat.zero_le _
/-- Behind a write. -/
def wroteL (s : List UInt8) (p : Nat) (t : List UInt8) : List UInt8 := (s ++ List.replicate (p - s.length) 0).take p ++ t ++ s.drop (p + t.length)
theorem wroteL_len (s : List UInt8) (p : Nat) (t : List UInt8) : (wroteL s p t).length = max s.length (p + t.length) := by
  simp [wroteL]; omega
theorem wroteL_get (s : List UInt8) (p : Nat) (t : List UInt8) (j : Nat) : ((wroteL s p t)[j]?).getD 0 = if p ≤ j ∧ j < p + t.length then (t[j - p]?).getD 0 else (s[j]?).getD 0 := by
  have hl : ((s ++ List.replicate (p - s.length) 0).take p).length = p := by simp; omega
  unfold wroteL
  rw [List.append_assoc]
  by_cases c : j < p
  · rw [List.getElem?_append_left (by omega), if_neg (by omega), List.getElem?_take, if_pos c]
    by_cases c2 : j < s.length
    · rw [List.getElem?_append_left c2]
    · rw [List.getElem?_append_right (by omega), List.getElem?_replicate, List.getElem?_eq_none (by omega)]
      split <;> rfl
  · rw [List.getElem?_append_right (by omega), hl]
    by_cases c2 : j < p + t.length
    · rw [List.getElem?_append_left (by omega), if_pos (by omega)]
    · rw [List.getElem?_append_right (by omega), if_neg (by omega), List.getElem?_drop, show p + t.length + (j - p - t.length) = j by omega]
theorem Holds.write {d : PData} {s : List UInt8} (h : Holds d s) (p : Nat) (t : ByteArray) (h1 : p ≤ 4096) (h2 : t.size ≤ 4096 - p) (h3 : 0 < t.size) : (dWrite d p t).2 = 0 ∧ Holds (dWrite d p t).1 (wroteL s p t.data.toList) := by
  have hl : t.data.toList.length = t.size := Array.length_toList
  have e : dWrite d p t = (⟨max d.size (p + t.size), dputs d.kv p t.data.toList⟩, 0) := by rw [dWrite, if_neg (by omega), if_neg (by omega)]; rfl
  rw [e]
  refine ⟨rfl, by rw [wroteL_len, hl, h.size], fun j => ?_, dputs_full _ _ (by rw [hl]; omega) h.full, by have := h.small; simp only; omega⟩
  show dbyte (dputs d.kv p t.data.toList) j = _
  rw [dbyte_puts _ _ h.full (by rw [hl]; omega), wroteL_get, h.bytes]
/-- Behind another size. -/
def sizedL (s : List UInt8) (n : Nat) : List UInt8 := s.take n ++ List.replicate (n - s.length) 0
theorem sizedL_len (s : List UInt8) (n : Nat) : (sizedL s n).length = n := by simp [sizedL]; omega
theorem sizedL_get (s : List UInt8) (n j : Nat) : ((sizedL s n)[j]?).getD 0 = if j < n then (s[j]?).getD 0 else 0 := by
  unfold sizedL
  by_cases c : j < (s.take n).length
  · rw [List.getElem?_append_left c, List.getElem?_take]
    simp only [List.length_take] at c
    rw [if_pos (by omega), if_pos (by omega)]
  · simp only [List.length_take] at c
    rw [List.getElem?_append_right (by simp; omega), List.getElem?_replicate]
    by_cases c2 : j < n
    · rw [if_pos c2, List.getElem?_eq_none (by omega)]; split <;> rfl
    · rw [if_neg c2]; split <;> rfl
theorem Holds.resize {d : PData} {s : List UInt8} (h : Holds d s) (n : Nat) (h1 : n ≤ 4096) : (dResize d n).2 = 0 ∧ Holds (dResize d n).1 (sizedL s n) := by
  by_cases c : n < d.size
  · have e : dResize d n = (⟨n, dcut (d.kv.filter fun p => !decide ((n : Int) ≤ p.1 * 64)) n⟩, 0) := by rw [dResize, if_neg (by omega), if_pos (by omega)]; simp
    rw [e]
    refine ⟨rfl, (sizedL_len s n).symm, fun j => ?_, ?_, h1⟩
    · show dbyte (dcut (d.kv.filter fun p => !decide ((n : Int) ≤ p.1 * 64)) n) j = _
      rw [dbyte_cut h.full, sizedL_get, h.bytes]
    · show Full (dcut _ n)
      have hf : Full (d.kv.filter fun p => !decide ((n : Int) ≤ p.1 * 64)) := fun p hp => h.full p (List.mem_filter.1 hp).1
      unfold dcut
      split
      · exact hf
      · rename_i l hg
        have hl := (hf _ (aget_mem hg)).1
        simp only at hl
        exact aput_full hf _ (by simp [hl]; omega) (by have := h.small; omega)
  · have e : dResize d n = (⟨n, d.kv⟩, 0) := by rw [dResize, if_neg (by omega), if_neg (by omega)]; simp
    rw [e]
    refine ⟨rfl, (sizedL_len s n).symm, fun j => ?_, h.full, h1⟩
    show dbyte d.kv j = _
    rw [h.bytes, sizedL_get]
    by_cases c2 : j < n
    · rw [if_pos c2]
    · rw [if_neg c2, List.getElem?_eq_none (by have := h.size; omega)]; rfl
end Go.Proofs.YtfekiagdnlnggaaDoor
