/- The library's SortFunc, IndexFunc, ContainsFunc, Clone at structs, in the words of these proofs (SliceAt, Chg), over any program that has them. -/
import Derived.Test.YtgebinfbbopnlaaDoorSlice
import Derived.Shelf.SlSortCmp.NoneTotal
import Derived.Shelf.SlicesQ.IndexFunc
import Derived.Shelf.SlicesE.Clone
namespace Go.Proofs.YtgebinfbbopnlaaDoor
open Go.RowKit Go.Lib Go.Sort Go.Shelf
set_option linter.unusedSectionVars false
set_option linter.unusedVariables false
set_option linter.unusedSimpArgs false

section
variable {α : Type} [Inhabited α] {enc : α → List Value} {k : Nat}
theorem flatK_list (he : ∀ a, (enc a).length = k) (l : List α) : (flatK enc k l.toArray).toList = l.flatMap enc := by
  apply List.ext_getElem?
  intro t
  by_cases ht : t < l.length * k
  · have k0 : 0 < k := by
      rcases Nat.eq_zero_or_pos k with h | h
      · subst h; simp at ht
      · exact h
    obtain ⟨i, r, rfl, hr⟩ : ∃ i r, t = i * k + r ∧ r < k := ⟨t / k, t % k, by rw [Nat.mul_comm]; exact (Nat.div_add_mod t k).symm, Nat.mod_lt _ k0⟩
    have hi : i < l.length := by
      rcases Nat.lt_or_ge i l.length with h | h
      · exact h
      · have := Nat.mul_le_mul_right k h; omega
    have e1 : (i * k + r) / k = i := by rw [Nat.mul_comm, Nat.mul_add_div k0, Nat.div_eq_of_lt hr, Nat.add_zero]
    have e2 : (i * k + r) % k = r := by rw [Nat.mul_comm, Nat.mul_add_mod, Nat.mod_eq_of_lt hr]
    have e3 : (flatK enc k l.toArray).toList[i * k + r]? = some ((enc l.toArray[(i * k + r) / k]!)[(i * k + r) % k]!) := by simp [flatK, ht]
    rw [flat_get enc he l i r l[i] (List.getElem?_eq_getElem hi) hr, e3, e1, e2]
    have e4 : l.toArray[i]! = l[i] := by simp [hi]
    have e5 : r < (enc l[i]).length := by rw [he]; exact hr
    rw [e4, List.getElem?_eq_getElem e5, getElem!_pos _ r e5]
  · rw [List.getElem?_eq_none (by simp; omega), List.getElem?_eq_none (by rw [flat_len enc he]; omega)]
theorem SliceAt.holdsK (he : ∀ a, (enc a).length = k) {w : World} {g off n cap E : Nat} {l : List α} {S : Nat → Prop} (h : SliceAt w (.slice (some ⟨g, off, none⟩) n cap) E k n (l.flatMap enc) S) : HoldsK enc k w g off l.toArray := by
  intro j hj
  obtain ⟨h1, ⟨e, _⟩ | ⟨g', off', cap', cs, e, hb, h2, h3, h4, h5, h6⟩⟩ := h
  · cases e
  cases e
  have hjl : j < (flatK enc k l.toArray).toList.length := by simpa using hj
  have e1 : (flatK enc k l.toArray)[j]! = (flatK enc k l.toArray).toList[j] := by rw [getElem!_pos _ j hj]; simp
  refine ⟨?_, free_of hb _⟩
  rw [cell_of hb]
  refine h5 j _ ?_
  rw [← flatK_list he, List.getElem?_eq_getElem hjl, id, e1]
/-- What the sort leaves: the row holds another list of as many. -/
theorem sorted_world (he : ∀ a, (enc a).length = k) {w : World} {g off n cap E : Nat} {l l' : List α} {S : Nat → Prop} (h : SliceAt w (.slice (some ⟨g, off, none⟩) n cap) E k n (l.flatMap enc) S) (hl : l'.length = l.length) (m : Nat) (os : Array Obj) :
    Chg (· = g) w (sortWorldK enc k w g off m l'.toArray os) ∧ SliceAt (sortWorldK enc k w g off m l'.toArray os) (.slice (some ⟨g, off, none⟩) n cap) E k n (l'.flatMap enc) S := by
  obtain ⟨h1, ⟨e, _⟩ | ⟨g', off', cap', cs, e, hb, h2, h3, h4, h5, h6⟩⟩ := h
  · cases e
  cases e
  have hg := lt_of_block hb
  have hheap : (sortWorldK enc k w g off m l'.toArray os).heap = w.heap.modify g (onCells (putCells id off (flatK enc k l'.toArray))) ++ os := rfl
  have hold : ∀ i, i < w.heap.size → (sortWorldK enc k w g off m l'.toArray os).heap[i]? = (w.heap.modify g (onCells (putCells id off (flatK enc k l'.toArray))))[i]? := fun i hi => by
    rw [hheap, Array.getElem?_append_left (by simpa using hi)]
  have hgb : (sortWorldK enc k w g off m l'.toArray os).heap[g]? = some (.cells (putCells id off (flatK enc k l'.toArray) cs) E (0, 0)) := by
    rw [hold g hg, Array.getElem?_modify, if_pos rfl, hb]; rfl
  refine ⟨⟨rfl, rfl, rfl, ?_, fun i hi hs => ?_⟩, ?_, .inr ⟨g, off, cap, putCells id off (flatK enc k l'.toArray) cs, rfl, hgb, h2, h3, ?_, fun j u hj => ?_, h6⟩⟩
  · rw [hheap]; simp
  · rw [hold i hi, Array.getElem?_modify, if_neg (fun e => hs e.symm)]
  · rw [flat_len enc he, hl, ← flat_len enc he, h1]
  · simpa [putCells] using h4
  · have hjl := (List.getElem?_eq_some_iff.1 hj).1
    have hjF : j < (flatK enc k l'.toArray).size := by rw [size_flatK]; rw [flat_len enc he] at hjl; simpa using hjl
    have hcs : off + j < cs.size := by
      have : n * k ≤ cap * k := Nat.mul_le_mul_right _ h2
      rw [flat_len enc he, hl, ← flat_len enc he, h1] at hjl
      omega
    have e1 : (flatK enc k l'.toArray)[j]! = u := by
      have hjl2 : j < (flatK enc k l'.toArray).toList.length := by simpa using hjF
      rw [← flatK_list he, List.getElem?_eq_getElem hjl2] at hj
      rw [getElem!_pos _ j hjF]; simpa using hj
    rw [putCells, Array.getElem?_mapIdx, Array.getElem?_eq_getElem hcs, Option.map_some, if_pos ⟨by omega, by omega⟩, Nat.add_sub_cancel_left, e1]; rfl

section
variable {P : Program} {ρ : Ren}
/-- slices.SortFunc at structs: the row holds the same elements, none behind one that it is less than. -/
theorem sortS (L : SlLaysF0.n6 P ρ) (aE : ∀ w, (isAgg (ρ.t 24)).run P w = .ok true w) (zE : ∀ w, (Go.sizeOf (ρ.t 24)).run P w = .ok k w) (hk0 : 0 < k) (he : ∀ x, (enc x).length = k) (h1 : ∀ x, ∀ v ∈ enc x, v.oneCell' = true) (cf : α → α → Int) (hO : SWO (ltOf cf)) (c : Nat) (cb : Array Value)
    (eg : ∀ args w, (callFunc c args).run P w = .ok (.enter c args) w) {v : Value} {n E : Nat} {l : List α} {S : Nat → Prop} (w : World) (h : SliceAt w v E k n (l.flatMap enc) S) (hsmall : n < 4611686018427387904)
    (hcmp : ∀ (W : World) (x y : α), Chg S w W → Calls P c (#[.agg (enc x).toArray, .agg (enc y).toArray] ++ cb) W fun e w' => e = .returned (.int .i64 (cf x y)) ∧ ∃ q os', w' = grow (W.drewN q) os') :
    Calls P (ρ.f 6) #[v, .func (.func c) #[] cb] w fun e w' => e = .returned (.tuple #[]) ∧ ∃ l' : List α, l'.Perm l ∧ l'.Pairwise (fun a b => ¬ cf b a < 0) ∧ SliceAt w' v E k n (l'.flatMap enc) S ∧ Chg S w w' := by
  rcases Nat.eq_zero_or_pos n with hn | hn
  · subst hn
    have hl := h.len he hk0
    obtain rfl : l = [] := List.eq_nil_of_length_eq_zero hl.symm
    obtain ⟨a, cap, rfl⟩ := h.shape
    exact (AnyF.slices_SortFunc_none L a cap (.func (.func c) #[] cb) w).mono fun e w' ⟨h1, h2⟩ => by
      subst h2; exact ⟨h1, [], List.Perm.refl _, List.Pairwise.nil, h, Chg.refl _ _⟩
  · obtain ⟨g, off, cap, cs, rfl, hb, hnc, hcm, _, _, hS, hg⟩ := h.place hn
    have hl := h.len he hk0
    have hsz : l.toArray.size < 4611686018427387904 := by
      simp; omega
    have hcm' : CmpLays P c cb enc k cf g off l.toArray.size w := fun m os dk hs x y => by
      refine hcmp _ x y ?_
      have := (sorted_world he h (l' := dk.toList) (by simpa using hs) m os).1
      simp at this
      exact this.mono (fun x _ e => by subst e; exact hS)
    have hcon := AnyQ.slices_SortFunc L k aE zE enc he h1 cf hO c cb g off cap l.toArray w eg hcm' (h.holdsK he) hg hsz
    rw [show l.toArray.size = n by simp [hl]] at hcon
    refine hcon.mono fun e w' ⟨h1, d', m, os, hp, hs, hw⟩ => ⟨h1, d'.toList, ?_, ?_, ?_⟩
    · obtain ⟨q1, _, q3⟩ := hp
      have e1 : d'.extract 0 n = d' := by apply Array.extract_eq_self_of_le; rw [q1]; simp [hl]
      have e2 : l.toArray.extract 0 n = l.toArray := by apply Array.extract_eq_self_of_le; simp [hl]
      rw [e1, e2] at q3; simpa using q3
    · rw [List.pairwise_iff_getElem]
      intro i j hi hj hij
      have hds : d'.size = n := by rw [hp.1]; simp [hl]
      have := hs i j (Nat.zero_le _) hij (by simpa [← hds] using hj)
      rw [getElem!_pos d' i (by simpa using hi), getElem!_pos d' j (by simpa using hj)] at this
      simpa [ltOf] using this
    · have hq := sorted_world he h (l' := d'.toList) (by rw [Array.length_toList, hp.1]; simp) m os
      simp only [Array.toArray_toList] at hq
      subst hw
      exact ⟨hq.2, hq.1.mono (fun x _ e => by subst e; exact hS)⟩
/-- slices.Clone at structs. -/
theorem cloneS (L : SlLaysE0.n41 P ρ) {z : Value} {size bytes : Nat} (hinfo : (P.info? (ρ.t 23)).map (fun i => (i.zero, i.size, i.bytes)) = some (some z, size, bytes)) (hzs : z.cells.size = size) (hsz : 0 < size) (z23 : ∀ w, (Go.sizeOf (ρ.t 23)).run P w = .ok size w)
    {v : Value} {n : Nat} {xs : List Value} {S : Nat → Prop} (w : World) (h : SliceAt w v (ρ.t 23) size n xs S) (h1 : ∀ u ∈ xs, u.oneCell' = true) (hbig : n * bytes ≤ 140737488355328) :
    Calls P (ρ.f 41) #[v] w fun e w' => ∃ v' S', e = .returned v' ∧ SliceAt w' v' (ρ.t 23) size n xs S' ∧ Chg Nil w w' ∧ Grow Nil S' w w' := by
  obtain ⟨i, hi, hz0, hz1, hz2⟩ := info_parts hinfo
  obtain ⟨hl, ⟨rfl, rfl⟩ | ⟨g, off, cap, cs, rfl, hb, hnc, hcm, hoff, hc, hS⟩⟩ := h
  · refine (AnyE.slices_Clone_nil L 0 0 w).mono fun e w' ⟨h3, h2⟩ => ?_
    subst h2
    have : xs = [] := List.eq_nil_of_length_eq_zero (by simpa using hl)
    subst this
    exact ⟨_, Nil, h3, sliceAt_nil _ _ _ _, Chg.refl _ _, Grow.refl _ _ _⟩
  · refine (AnyE.slices_Clone L i z size bytes hi hz0 hz1 hz2 hzs hsz z23 g off n cap xs w hl (Nat.le_trans hnc hcm) hbig (fun j u hj => by rw [cell_of hb]; exact hc j u hj) h1).mono fun e w' ⟨v', h1, h2, _, h4⟩ => ?_
    exact ⟨v', fun x => w.heap.size ≤ x ∧ x < w'.heap.size, h1, SliceAt.of_owns h2 (fun x a b => ⟨a, b⟩), Chg.of_below h4 (fun x a b => by omega), fun x hx => .inr hx⟩
/-- The first place whose element is such a one. -/
def firstAt (p : α → Bool) (l : List α) : Int := Lib.idxBy (fun _ y => p y) l default
/-- slices.IndexFunc at structs. -/
theorem indexS (L : SlLaysH0.n6 P ρ) (aE : ∀ w, (isAgg (ρ.t 23)).run P w = .ok true w) (zE : ∀ w, (Go.sizeOf (ρ.t 23)).run P w = .ok k w) (hk0 : 0 < k) (he : ∀ x, (enc x).length = k) (p : α → Bool) (c : Nat) (cb : Array Value)
    (eg : ∀ args w, (callFunc c args).run P w = .ok (.enter c args) w) {v : Value} {n E : Nat} {l : List α} {S : Nat → Prop} (w : World) (h : SliceAt w v E k n (l.flatMap enc) S) (hn : 0 < n)
    (hp : ∀ (W : World) (x : α), Chg Nil w W → Calls P c (#[.agg (enc x).toArray] ++ cb) W fun e w' => e = .returned (.bool (p x)) ∧ Chg Nil W w') :
    Calls P (ρ.f 6) #[v, .func (.func c) #[] cb] w fun e w' => e = .returned (.int .i64 (firstAt p l)) ∧ Chg Nil w w' := by
  obtain ⟨g, off, cap, cs, rfl, hb, hnc, hcm, hoff, hc, hS, hg⟩ := h.place hn
  have hl := h.len he hk0
  have hcon := AnyQ.slices_IndexFunc L k aE zE enc he p c cb eg g off n cap l w (fun W x hB => (hp W x (Chg.of_below hB (fun x a b => by omega))).mono fun e w' ⟨a, b⟩ => ⟨a, hB.trans (b.below hB.size (fun _ _ f => f.elim))⟩) (by omega) (by unfold maxLen at hcm; omega) hg (fun j hj i u hu => by
    have hj2 : l[j]? = some l[j]! := by rw [getElem!_pos l j hj]; exact List.getElem?_eq_getElem hj
    exact (h.elem he hj2 i u hu).1)
  exact hcon.mono fun e w' ⟨a, b⟩ => ⟨by rw [a, List.take_of_length_le (by omega)]; rfl, Chg.of_below b (fun x a b => by omega)⟩
/-- slices.ContainsFunc at structs. -/
theorem containsS (L : SlLaysH0.n8 P ρ) (aE : ∀ w, (isAgg (ρ.t 23)).run P w = .ok true w) (zE : ∀ w, (Go.sizeOf (ρ.t 23)).run P w = .ok k w) (hk0 : 0 < k) (he : ∀ x, (enc x).length = k) (p : α → Bool) (c : Nat) (cb : Array Value)
    (eg : ∀ args w, (callFunc c args).run P w = .ok (.enter c args) w) {v : Value} {n E : Nat} {l : List α} {S : Nat → Prop} (w : World) (h : SliceAt w v E k n (l.flatMap enc) S) (hn : 0 < n)
    (hp : ∀ (W : World) (x : α), Chg Nil w W → Calls P c (#[.agg (enc x).toArray] ++ cb) W fun e w' => e = .returned (.bool (p x)) ∧ Chg Nil W w') :
    Calls P (ρ.f 8) #[v, .func (.func c) #[] cb] w fun e w' => e = .returned (.bool (l.any p)) ∧ Chg Nil w w' := by
  obtain ⟨g, off, cap, cs, rfl, hb, hnc, hcm, hoff, hc, hS, hg⟩ := h.place hn
  have hl := h.len he hk0
  have hcon := AnyQ.slices_ContainsFunc L k aE zE enc he p c cb eg g off n cap l w (fun W x hB => (hp W x (Chg.of_below hB (fun x a b => by omega))).mono fun e w' ⟨a, b⟩ => ⟨a, hB.trans (b.below hB.size (fun _ _ f => f.elim))⟩) (by omega) (by unfold maxLen at hcm; omega) hg (fun j hj i u hu => by
    have hj2 : l[j]? = some l[j]! := by rw [getElem!_pos l j hj]; exact List.getElem?_eq_getElem hj
    exact (h.elem he hj2 i u hu).1)
  exact hcon.mono fun e w' ⟨a, b⟩ => ⟨by rw [a, List.take_of_length_le (by omega)], Chg.of_below b (fun x a b => by omega)⟩
end
end
end Go.Proofs.YtgebinfbbopnlaaDoor
