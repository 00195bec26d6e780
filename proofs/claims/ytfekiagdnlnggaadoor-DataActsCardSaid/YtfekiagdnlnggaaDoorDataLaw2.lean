/- The plain law of DataActs: data and the reference's file stay alike under every act. -/
import Derived.Test.YtfekiagdnlnggaaDoorBytes4
import Derived.Test.YtfekiagdnlnggaaDoorDataCopy
namespace Go.Proofs.YtfekiagdnlnggaaDoor
open Go.RowKit
set_option linter.unusedVariables false
set_option linter.unusedSimpArgs false

/-- Data d and the file (s, h) are alike. -/
structure Alike (d : PData) (s : ByteArray) (h : List Bool) : Prop where
  holds : Holds d s.data.toList
  keys : ∀ k : Nat, (aget d.kv (k : Int)).isSome = (h[k]? == some false)
theorem Alike.size {d : PData} {s : ByteArray} {h : List Bool} (a : Alike d s h) : d.size = s.size := by rw [a.holds.size]; exact Array.length_toList
theorem alike_new : Alike ⟨0, []⟩ ⟨#[]⟩ [] := ⟨holds_nil, fun k => rfl⟩

theorem dput_some (kv : Blks) (i : Nat) (c : UInt8) (q : Nat) : (aget (dput kv i c) (q : Int)).isSome = ((aget kv (q : Int)).isSome || decide (q = i / 64)) := by
  unfold dput
  rw [aget_aput]
  by_cases h : q = i / 64
  · subst h; simp
  · rw [if_neg (by omega)]; simp [h]
theorem dputs_some : ∀ (s : List UInt8) (kv : Blks) (i q : Nat), (aget (dputs kv i s) (q : Int)).isSome = ((aget kv (q : Int)).isSome || decide (0 < s.length ∧ i / 64 ≤ q ∧ q ≤ (i + s.length - 1) / 64))
  | [], kv, i, q => by simp [dputs]
  | c :: s, kv, i, q => by
    unfold dputs
    rw [dputs_some s (dput kv i c) (i + 1) q, dput_some, Bool.or_assoc]
    congr 1
    rw [Bool.eq_iff_iff]
    simp only [Bool.or_eq_true, decide_eq_true_eq, List.length_cons]
    constructor
    · rintro (h | ⟨h1, h2, h3⟩)
      · subst h; omega
      · omega
    · rintro ⟨_, h2, h3⟩
      by_cases e : q = i / 64
      · exact .inl e
      · right; omega
theorem markH_get (h : List Bool) (k q : Nat) : ((markH h k)[q]? == some false) = ((h[q]? == some false) || decide (q = k)) := by
  unfold markH
  rw [List.getElem?_set]
  by_cases e : k = q
  · subst e
    simp; omega
  · have e' : ¬ q = k := fun x => e x.symm
    rw [if_neg e]
    simp only [e', decide_false, Bool.or_false]
    by_cases c : q < h.length
    · rw [List.getElem?_append_left c]
    · rw [List.getElem?_append_right (by omega), List.getElem?_replicate, List.getElem?_eq_none (by omega)]
      split <;> rfl
theorem marks_get (h : List Bool) (k : Nat) : ∀ (j q : Nat), ((marks h k j)[q]? == some false) = ((h[q]? == some false) || decide (k ≤ q ∧ q < k + j))
  | 0, q => by
    have : ¬ (k ≤ q ∧ q < k + 0) := by omega
    simp only [marks, this, decide_false, Bool.or_false]
  | j + 1, q => by
    rw [marks, markH_get, marks_get h k j q, Bool.or_assoc]
    congr 1
    rw [Bool.eq_iff_iff]
    simp only [Bool.or_eq_true, decide_eq_true_eq]
    omega
theorem Alike.write {d : PData} {s : ByteArray} {h : List Bool} (a : Alike d s h) (p : Int) (t : ByteArray) : (dWrite d p t).2 = (bWrite s h p t).2.2 ∧ Alike (dWrite d p t).1 (bWrite s h p t).1 (bWrite s h p t).2.1 := by
  have hl : t.data.toList.length = t.size := Array.length_toList
  by_cases hbad : p < 0 ∨ 4096 < p ∨ 4096 - p < t.size
  · rw [dWrite, if_pos hbad, bWrite, if_pos hbad]; exact ⟨rfl, a⟩
  by_cases h0 : t.size = 0
  · rw [dWrite, if_neg hbad, if_pos h0, bWrite, if_neg hbad, if_pos h0]; exact ⟨rfl, a⟩
  obtain ⟨p, rfl⟩ : ∃ k : Nat, p = k := ⟨p.toNat, by omega⟩
  obtain ⟨w1, w2⟩ := a.holds.write p t (by omega) (by omega) (by omega)
  refine ⟨by rw [w1, bWrite, if_neg hbad, if_neg h0], ?_⟩
  have e1 : dWrite d p t = (⟨max d.size (p + t.size), dputs d.kv p t.data.toList⟩, 0) := by rw [dWrite, if_neg hbad, if_neg h0]; rfl
  have e2 : bWrite s h p t = (⟨(wroteL s.data.toList p t.data.toList).toArray⟩, marks h (p / 64) ((p + t.size - 1) / 64 + 1 - p / 64), 0) := by rw [bWrite, if_neg hbad, if_neg h0]; rfl
  rw [e1] at w2 ⊢
  rw [e2]
  refine ⟨by simpa using w2, fun k => ?_⟩
  show (aget (dputs d.kv p t.data.toList) (k : Int)).isSome = _
  rw [dputs_some, marks_get, a.keys, hl]
  congr 1
  rw [Bool.eq_iff_iff]
  simp only [decide_eq_true_eq]
  omega
theorem dcut_some {kv : Blks} (n q : Nat) : (aget (dcut (kv.filter fun p => !decide ((n : Int) ≤ p.1 * 64)) n) (q : Int)).isSome = ((aget kv (q : Int)).isSome && !decide (n ≤ q * 64)) := by
  have hf : ∀ q : Nat, aget (kv.filter fun p => !decide ((n : Int) ≤ p.1 * 64)) (q : Int) = if (n : Int) ≤ q * 64 then none else aget kv (q : Int) := fun q => by
    rw [aget_filter (q : Int) (fun k => !decide ((n : Int) ≤ k * 64)) kv]
    by_cases c : (n : Int) ≤ q * 64 <;> simp [c]
  have base : (aget (kv.filter fun p => !decide ((n : Int) ≤ p.1 * 64)) (q : Int)).isSome = ((aget kv (q : Int)).isSome && !decide (n ≤ q * 64)) := by
    rw [hf]
    by_cases c : n ≤ q * 64
    · rw [if_pos (by omega)]; simp [c]
    · rw [if_neg (by omega)]; simp [c]
  unfold dcut
  split
  · exact base
  · rename_i l hg
    rw [aget_aput]
    by_cases e : (q : Int) = ((n / 64 : Nat) : Int)
    · rw [if_pos e, ← base, e, hg]; rfl
    · rw [if_neg e]; exact base
theorem cutH_get (h : List Bool) (n q : Nat) : ((cutH h n)[q]? == some false) = ((h[q]? == some false) && !decide (n ≤ q * 64)) := by
  unfold cutH
  rw [List.getElem?_mapIdx]
  cases h[q]? with
  | none => simp
  | some x =>
    by_cases c : n ≤ q * 64
    · simp [c]
    · simp [c]
theorem Alike.resize {d : PData} {s : ByteArray} {h : List Bool} (a : Alike d s h) (n : Int) : (dResize d n).2 = (bResize s h n).2.2 ∧ Alike (dResize d n).1 (bResize s h n).1 (bResize s h n).2.1 := by
  have hs := a.size
  have hl : s.data.toList.length = s.size := Array.length_toList
  by_cases hbad : n < 0 ∨ 4096 < n
  · rw [dResize, if_pos hbad, bResize, if_pos hbad]; exact ⟨rfl, a⟩
  obtain ⟨n, rfl⟩ : ∃ k : Nat, n = k := ⟨n.toNat, by omega⟩
  obtain ⟨w1, w2⟩ := a.holds.resize n (by omega)
  by_cases c : n < d.size
  · have e1 : dResize d n = (⟨n, dcut (d.kv.filter fun p => !decide ((n : Int) ≤ p.1 * 64)) n⟩, 0) := by rw [dResize, if_neg hbad, if_pos (by omega)]; simp
    have e2 : bResize s h n = (s.extract 0 n, cutH h n, 0) := by rw [bResize, if_neg hbad, if_neg (by omega)]; rfl
    rw [e1] at w2 ⊢
    rw [e2]
    refine ⟨rfl, ?_, fun k => ?_⟩
    · have : (s.extract 0 n).data.toList = sizedL s.data.toList n := by
        rw [ext_list, List.drop_zero]
        unfold sizedL
        rw [show n - s.data.toList.length = 0 by omega]; simp
      rw [this]; exact w2
    · show (aget (dcut (d.kv.filter fun p => !decide ((n : Int) ≤ p.1 * 64)) n) (k : Int)).isSome = _
      rw [dcut_some, cutH_get, a.keys]
  · have e1 : dResize d n = (⟨n, d.kv⟩, 0) := by rw [dResize, if_neg hbad, if_neg (by omega)]; simp
    have e2 : bResize s h n = (s ++ zerosB (n - s.size), h, 0) := by rw [bResize, if_neg hbad, if_pos (by omega)]; rfl
    rw [e1] at w2 ⊢
    rw [e2]
    refine ⟨rfl, ?_, a.keys⟩
    have : (s ++ zerosB (n - s.size)).data.toList = sizedL s.data.toList n := by
      rw [app_list]
      unfold sizedL
      rw [hl, List.take_of_length_le (by omega)]; rfl
    rw [this]; exact w2
theorem Alike.read {d : PData} {s : ByteArray} {h : List Bool} (a : Alike d s h) (p n : Int) : dRead d p n = bRead s p n := by
  have hs := a.size
  have hl : s.data.toList.length = s.size := Array.length_toList
  by_cases hbad : p < 0 ∨ n < 0
  · rw [dRead, if_pos hbad, bRead, if_pos hbad]
  rw [dRead, if_neg hbad, bRead, if_neg hbad]
  obtain ⟨p, rfl⟩ : ∃ k : Nat, p = k := ⟨p.toNat, by omega⟩
  rw [Int.toNat_natCast]
  by_cases h1 : (s.size : Int) ≤ p
  · have hm : manyOf d.size p n = 0 := by unfold manyOf; omega
    rw [if_pos h1, hm]
    have : decide ((d.size : Int) - ((0 : Nat) : Int) ≤ (p : Int)) = true := by rw [decide_eq_true_eq]; omega
    rw [this]; simp [rdBytes]
  · rw [if_neg h1]
    by_cases h2 : (s.size : Int) - p ≤ n
    · have hm : manyOf d.size p n = s.size - p := by unfold manyOf; omega
      rw [if_pos h2, hm, a.holds.read p (s.size - p) (by omega)]
      have : decide ((d.size : Int) - ((s.size - p : Nat) : Int) ≤ (p : Int)) = true := by rw [decide_eq_true_eq]; omega
      rw [this]
      congr 1
      apply ba_ext
      rw [ext_list]
      show (s.data.toList.drop p).take (s.size - p) = _
      rw [List.take_of_length_le (by rw [List.length_drop]; omega), List.take_of_length_le (i := s.size) (by omega)]
    · have hm : manyOf d.size p n = n.toNat := by unfold manyOf; omega
      rw [if_neg h2, hm, a.holds.read p n.toNat (by omega)]
      have : decide ((d.size : Int) - ((n.toNat : Nat) : Int) ≤ (p : Int)) = false := by rw [decide_eq_false_iff_not]; omega
      rw [this]
      congr 1
      apply ba_ext
      rw [ext_list]
      show (s.data.toList.drop p).take n.toNat = _
      rw [show ((p : Int) + n).toNat = p + n.toNat by omega, List.drop_take, Nat.add_sub_cancel_left]

/-! ### How many blocks -/
theorem count_upto (h : List Bool) : ∀ n, n ≤ h.length → ((List.range n).filter fun k => h[k]? == some false).length = noHoles (h.take n)
  | 0, _ => by simp [noHoles]
  | n + 1, hn => by
    obtain ⟨x, hx⟩ : ∃ x, h[n]? = some x := ⟨h[n], List.getElem?_eq_getElem (by omega)⟩
    rw [List.range_succ, List.filter_append, List.length_append, count_upto h n (by omega), noHoles_snoc h n x hx]
    cases x <;> simp [hx]
theorem Alike.blocks {d : PData} {s : ByteArray} {h : List Bool} (a : Alike d s h) (hd : (d.kv.map (·.1)).Nodup) : d.kv.length = noHoles h := by
  have hfull := a.holds.full
  have e1 : noHoles h = ((List.range h.length).filter fun k => h[k]? == some false).length := by rw [count_upto h h.length (Nat.le_refl _), List.take_length]
  rw [e1]
  have e2 : d.kv.length = (d.kv.map fun p => p.1.toNat).length := by simp
  rw [e2]
  refine List.Perm.length_eq ((List.perm_ext_iff_of_nodup ?_ ?_).2 fun k => ?_)
  · have : (d.kv.map fun p => p.1.toNat) = (d.kv.map (·.1)).map Int.toNat := by simp
    rw [this]
    simp only [List.Nodup, List.pairwise_map] at hd ⊢
    have aux : ∀ l : Blks, (∀ p ∈ l, 0 ≤ p.1) → List.Pairwise (fun a b => a.1 ≠ b.1) l → List.Pairwise (fun a b : Int × List UInt8 => a.1.toNat ≠ b.1.toNat) l := by
      intro l
      induction l with
      | nil => intro _ _; exact List.Pairwise.nil
      | cons x l ih =>
        intro hp hw
        obtain ⟨h1, h2⟩ := List.pairwise_cons.1 hw
        refine List.pairwise_cons.2 ⟨fun y hy e => h1 y hy ?_, ih (fun p hp' => hp p (List.mem_cons_of_mem _ hp')) h2⟩
        have := hp x (List.mem_cons_self ..)
        have := hp y (List.mem_cons_of_mem _ hy)
        omega
    exact aux d.kv (fun p hp => (hfull p hp).2.1) hd
  · exact List.filter_sublist.nodup List.nodup_range
  · have hk := a.keys k
    constructor
    · intro hm
      obtain ⟨p, hp, e⟩ := List.mem_map.1 hm
      have h0 := (hfull p hp).2.1
      have hg : (aget d.kv (k : Int)).isSome = true := by
        cases hg : aget d.kv (k : Int) with
        | some _ => rfl
        | none =>
          exfalso
          have : ∀ l : Blks, aget l (k : Int) = none → ∀ p ∈ l, p.1 ≠ (k : Int) := by
            intro l
            induction l with
            | nil => intro _ p hp; cases hp
            | cons x l ih =>
              intro hn p hp
              unfold aget at hn
              split at hn
              · cases hn
              · rename_i c
                rcases List.mem_cons.1 hp with rfl | hp
                · exact fun e => c e.symm
                · exact ih hn p hp
          exact this d.kv hg p hp (by omega)
      rw [hk] at hg
      have hh : h[k]? = some false := by simpa using hg
      exact List.mem_filter.2 ⟨List.mem_range.2 (List.getElem?_eq_some_iff.1 hh).1, hg⟩
    · intro hm
      have hg := (List.mem_filter.1 hm).2
      rw [← hk] at hg
      obtain ⟨l, hl⟩ := Option.isSome_iff_exists.1 hg
      exact List.mem_map.2 ⟨_, aget_mem hl, by simp⟩
theorem DataAt.nodup {w : World} {b : Nat} {d : PData} {S : Nat → Prop} (h : DataAt w b d S) : (d.kv.map (·.1)).Nodup := by
  obtain ⟨⟨mv, T, _, hm, _⟩, _⟩ := h
  rcases hm with ⟨_, hkv⟩ | ⟨rm, _, hA⟩
  · have : d.kv = [] := by simpa [blkM] using hkv
    rw [this]; exact List.nodup_nil
  · exact blkM_nodup hA
end Go.Proofs.YtfekiagdnlnggaaDoor
