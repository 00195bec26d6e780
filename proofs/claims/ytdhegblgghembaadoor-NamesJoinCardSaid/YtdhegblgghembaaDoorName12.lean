/- A joined path is split again: plain. -/
import Derived.Test.YtdhegblgghembaaDoorName9
import Derived.Test.YtdhegblgghembaaDoorName11
namespace Go.Proofs.YtdhegblgghembaaDoor
open Go.RowKit Go.Lib
set_option linter.unusedVariables false
set_option linter.unusedSimpArgs false

/-- Each name behind a slash. -/
def wantL (l : List ByteArray) : List UInt8 := l.flatMap fun x => 47 :: x.data.toList
theorem wantL_snoc (l : List ByteArray) (x : ByteArray) : wantL (l ++ [x]) = wantL l ++ (47 :: x.data.toList) := by simp [wantL]
theorem want_join : ∀ (l : List ByteArray), l ≠ [] → wantL l = 47 :: Lib.join (l.map (·.data.toList)) [47]
  | [], h => absurd rfl h
  | x :: r, _ => by
    rw [List.map_cons, join_cons]
    show 47 :: x.data.toList ++ wantL r = _
    have : wantL r = joinTail [47] (r.map (·.data.toList)) := by
      unfold wantL joinTail
      rw [List.flatMap_def, List.map_map]
      congr 1
    rw [this]; rfl
theorem sign_slash {s : ByteArray} (h : nameOk s) : ∀ k : Nat, s.data.toList[k]? ≠ some 47 := by
  intro k e
  have hb := h.2.2.2.2
  unfold badAt at hb
  rw [List.findIdx?_eq_none_iff] at hb
  have := hb 47 (List.mem_of_getElem? e)
  revert this
  decide
theorem wordsL_app : ∀ (x r : List UInt8), (∀ k : Nat, x[k]? ≠ some 47) → wordsL (x ++ 47 :: r) = x :: wordsL r
  | x, r, h => by
    have h1 : (x ++ 47 :: r)[x.length]? = some 47 := by simp
    rw [wordsL_hit _ x.length h1 (fun k hk => by rw [List.getElem?_append_left hk]; exact h k)]
    simp
theorem words_join : ∀ (l : List ByteArray), l ≠ [] → (∀ x ∈ l, nameOk x) → wordsL (Lib.join (l.map (·.data.toList)) [47]) = l.map (·.data.toList)
  | [], h, _ => absurd rfl h
  | [x], _, h => by
    rw [List.map_cons, List.map_nil, join_one, wordsL_miss _ (sign_slash (h x (by simp)))]
  | x :: y :: r, _, h => by
    have ih := words_join (y :: r) (by simp) (fun z hz => h z (by simp at hz ⊢; exact .inr hz))
    have e : Lib.join ((x :: y :: r).map (·.data.toList)) [47] = x.data.toList ++ 47 :: Lib.join ((y :: r).map (·.data.toList)) [47] := by
      rw [List.map_cons, join_cons, List.map_cons, join_cons]
      simp [joinTail]
    rw [e, wordsL_app _ _ (sign_slash (h x (by simp))), ih]; rfl
theorem pathC_zero {l : List ByteArray} (h : (pathC l).1 = 0) : (∀ x ∈ l, nameOk x) ∧ l.length ≤ 12 ∧ pathC l = (0, -1) := by
  unfold pathC at h ⊢
  cases hf : firstBad l with
  | some i => rw [hf] at h; simp at h
  | none =>
    rw [hf] at h
    simp only at h ⊢
    by_cases h12 : 12 < l.length
    · rw [if_pos h12] at h; simp at h
    · refine ⟨fun x hx => ?_, by omega, if_neg h12⟩
      unfold firstBad at hf
      rw [List.findIdx?_eq_none_iff] at hf
      have := hf x hx
      simpa using this
theorem name_full {x : ByteArray} (h : nameOk x) : x.data.toList ≠ [] := by
  intro e
  have h1 := h.1
  have : x.data.toList.length = x.size := Array.length_toList
  rw [e] at this
  simp at this
  omega
/-- The joined names are split again. -/
theorem split_back {l : List ByteArray} (hl : l ≠ []) (h : (pathC l).1 = 0) : spC ⟨(wantL l).toArray⟩ = (0, -1) ∧ spL ⟨(wantL l).toArray⟩ = l := by
  obtain ⟨hn, _, hp⟩ := pathC_zero h
  have hw := words_join l hl hn
  obtain ⟨J, hJ⟩ : ∃ J, J = Lib.join (l.map (·.data.toList)) [47] := ⟨_, rfl⟩
  rw [want_join l hl, ← hJ]
  rw [← hJ] at hw
  have hJ0 : J ≠ [] := by
    intro e
    rw [e] at hw
    have : [[]] = l.map (·.data.toList) := hw
    have hm : ([] : List UInt8) ∈ l.map (·.data.toList) := by rw [← this]; simp
    obtain ⟨x, hx, e2⟩ := List.mem_map.1 hm
    exact name_full (hn x hx) e2
  have hJl : J.getLast? ≠ some 47 := by
    intro e
    obtain ⟨p, hp⟩ := List.getLast?_eq_some_iff.1 e
    rw [hp, wordsL_slash] at hw
    have hm : ([] : List UInt8) ∈ l.map (·.data.toList) := by rw [← hw]; simp
    obtain ⟨x, hx, e2⟩ := List.mem_map.1 hm
    exact name_full (hn x hx) e2
  have hs0 : (⟨(47 :: J).toArray⟩ : ByteArray) ≠ slash := by
    intro e
    have := congrArg (fun x : ByteArray => x.data.toList) e
    simp [slash] at this
    exact hJ0 this
  have hpr : preS ⟨(47 :: J).toArray⟩ = true := (preS_iff _).2 (by simp)
  have hsu : ¬ sufS ⟨(47 :: J).toArray⟩ = true := by
    rw [sufS_iff]
    simp only
    rw [List.getLast?_cons]
    intro e
    rcases hq : J.getLast? with _ | z
    · exact hJ0 (List.getLast?_eq_none_iff.1 hq)
    · rw [hq] at e
      simp at e
      exact hJl (by rw [hq, e])
  have hbb : ¬ (preS ⟨(47 :: J).toArray⟩ = false ∨ sufS ⟨(47 :: J).toArray⟩ = true) := by rw [hpr]; simp; simpa using hsu
  have htx : txtsL ((⟨(47 :: J).toArray⟩ : ByteArray).extract 1 (⟨(47 :: J).toArray⟩ : ByteArray).size) = l := by
    unfold txtsL
    rw [extract_listN]
    have : (List.drop 1 (⟨(47 :: J).toArray⟩ : ByteArray).data.toList).take ((⟨(47 :: J).toArray⟩ : ByteArray).size - 1) = J := by
      simp [ByteArray.size]
    rw [this, hw, List.map_map]
    conv => rhs; rw [← List.map_id l]
    apply List.map_congr_left
    intro x _
    obtain ⟨d⟩ := x
    rfl
  constructor
  · unfold spC; rw [if_neg hs0, if_neg hbb, htx]; exact hp
  · unfold spL; rw [if_neg hs0, if_neg hbb, htx, if_pos h]
theorem split_none : spC ⟨#[47]⟩ = (0, -1) ∧ spL ⟨#[47]⟩ = [] := by decide +kernel
theorem joinB_want {l : List ByteArray} (hl : l ≠ []) (h : (pathC l).1 = 0) : joinB l = ⟨(wantL l).toArray⟩ := by
  unfold joinB
  rw [if_pos h, want_join l hl]
  apply ByteArray.ext
  simp [joinT, ByteArray.data_append]
theorem joinB_none : joinB [] = ⟨#[47]⟩ := by decide +kernel
end Go.Proofs.YtdhegblgghembaaDoor
