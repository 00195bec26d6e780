/- A list of resources as one (rAll): a member is taken out, turned, and put back. Over any program, no condition. -/
import Derived.Test.YtgebinfbbopnlaaDoorOp8
namespace Go.Proofs.YtgebinfbbopnlaaDoor
open Go.RowKit
set_option linter.unusedSectionVars false
set_option linter.unusedVariables false
set_option linter.unusedSimpArgs false

/-- Nothing. -/
def rNone : Res := ⟨true, fun _ => False, fun _ => True, fun _ _ _ _ _ => trivial, fun _ _ _ h => h.elim⟩
def Apart (r s : Res) : Prop := ∀ b, r.foot b → ¬ s.foot b
/-- All of these. -/
def rAll (l : List Res) : Res :=
  ⟨true, fun b => ∃ r ∈ l, r.foot b, fun w => (∀ r ∈ l, r.wr = true ∧ r.fact w) ∧ l.Pairwise Apart,
   fun w w' h hs hb => ⟨fun r hr => ⟨(h.1 r hr).1, r.stab w w' (h.1 r hr).2 hs fun b hf => hb b ⟨r, hr, hf⟩⟩, h.2⟩, fun w b h ⟨r, hr, hb⟩ => r.alive w b (h.1 r hr).2 hb⟩
section
variable {w0 w : World} {E : Ent} {M : List Res} {l : List Res}
/-- What a list of resources is taken for, may be told by another one that lies in no more and says no more. -/
theorem Own.less {r r' : Res} (h : Own w0 E (r :: M) w) (hw : r.wr = true) (hw' : r'.wr = true) (hf : r'.fact w) (hb : ∀ b, r'.foot b → r.foot b) : Own w0 E (r' :: M) w :=
  ⟨h.chg, h.mono, fun s hs => by
    rcases List.mem_cons.1 hs with rfl | hs
    · exact hf
    · exact h.facts s (List.mem_cons_of_mem _ hs), List.pairwise_cons.2 ⟨fun s hs _ b hb' => (List.pairwise_cons.1 h.apart).1 s hs (.inl hw) b (hb b hb'), (List.pairwise_cons.1 h.apart).2⟩, fun s hs b hb' => by
    rcases List.mem_cons.1 hs with rfl | hs
    · have := h.may r (by simp) b (hb b hb'); rw [hw] at this; rw [hw']; exact this
    · exact h.may s (List.mem_cons_of_mem _ hs) b hb'⟩
/-- All of them by one. -/
theorem Own.allSplit (h : Own w0 E (rAll l :: M) w) : Own w0 E (l ++ M) w := by
  have hf := h.fact 0 rfl
  have ha := List.pairwise_cons.1 h.apart
  refine ⟨h.chg, h.mono, fun s hs => ?_, List.pairwise_append.2 ⟨hf.2.imp (S := fun (r s : Res) => r.wr = true ∨ s.wr = true → ∀ b, r.foot b → ¬ s.foot b) (fun hp _ => hp), ha.2, fun r hr s hs _ b hb => ha.1 s hs (.inl rfl) b ⟨r, hr, hb⟩⟩, fun s hs b hb => ?_⟩
  · rcases List.mem_append.1 hs with hs | hs
    · exact (hf.1 s hs).2
    · exact h.facts s (List.mem_cons_of_mem _ hs)
  · rcases List.mem_append.1 hs with hs | hs
    · rw [(hf.1 s hs).1]; exact h.may (rAll l) (by simp) b ⟨s, hs, hb⟩
    · exact h.may s (List.mem_cons_of_mem _ hs) b hb
theorem Own.allJoin (l : List Res) (hw : ∀ r ∈ l, r.wr = true) (h : Own w0 E (l ++ M) w) : Own w0 E (rAll l :: M) w := by
  obtain ⟨a1, a2, a3⟩ := List.pairwise_append.1 h.apart
  refine ⟨h.chg, h.mono, fun s hs => ?_, List.pairwise_cons.2 ⟨fun s hs _ b ⟨r, hr, hb⟩ => a3 r hr s hs (.inl (hw r hr)) b hb, a2⟩, fun s hs b hb => ?_⟩
  · rcases List.mem_cons.1 hs with rfl | hs
    · refine ⟨fun r hr => ⟨hw r hr, h.facts r (List.mem_append_left _ hr)⟩, ?_⟩
      exact List.Pairwise.imp_of_mem (fun {r s} hr hs hp b hb => hp (.inl (hw r hr)) b hb) a1
    · exact h.facts s (List.mem_append_right _ hs)
  · rcases List.mem_cons.1 hs with rfl | hs
    · obtain ⟨r, hr, hb⟩ := hb
      have := h.may r (List.mem_append_left _ hr) b hb
      rw [hw r hr] at this; exact this
    · exact h.may s (List.mem_append_right _ hs) b hb
theorem pairwise_set {α : Type} {R : α → α → Prop} (hs : ∀ a b, R a b → R b a) : ∀ (l : List α) (i : Nat) (y : α), l.Pairwise R → (∀ j z, l[j]? = some z → j ≠ i → R y z) → (l.set i y).Pairwise R
  | [], _, _, _, _ => by simp
  | x :: l, 0, y, h, hy => by
    obtain ⟨_, h2⟩ := List.pairwise_cons.1 h
    refine List.pairwise_cons.2 ⟨fun z hz => ?_, h2⟩
    obtain ⟨j, hj⟩ := List.getElem?_of_mem hz
    exact hy (j + 1) z (by simpa using hj) (by omega)
  | x :: l, i + 1, y, h, hy => by
    obtain ⟨h1, h2⟩ := List.pairwise_cons.1 h
    rw [List.set_cons_succ]
    refine List.pairwise_cons.2 ⟨fun z hz => ?_, pairwise_set hs l i y h2 fun j z hj hn => hy (j + 1) z (by simpa using hj) (by omega)⟩
    rcases List.mem_or_eq_of_mem_set hz with hz | rfl
    · exact h1 z hz
    · exact hs _ _ (hy 0 x rfl (by omega))
theorem apart_symm (r s : Res) (h : Apart r s) : Apart s r := fun b hs hr => h b hr hs
theorem apart_at {l : List Res} (h : l.Pairwise Apart) {i j : Nat} {r s : Res} (hi : l[i]? = some r) (hj : l[j]? = some s) (hn : j ≠ i) : Apart r s := by
  obtain ⟨hi1, hi2⟩ := List.getElem?_eq_some_iff.1 hi
  obtain ⟨hj1, hj2⟩ := List.getElem?_eq_some_iff.1 hj
  have hp := List.pairwise_iff_getElem.1 h
  rcases Nat.lt_or_ge i j with hl | hl
  · have := hp i j hi1 hj1 hl; rw [hi2, hj2] at this; exact this
  · have := hp j i hj1 hi1 (by omega); rw [hi2, hj2] at this; exact apart_symm _ _ this
/-- One of them is taken out. -/
theorem Own.allOpen (h : Own w0 E (rAll l :: M) w) {k : Nat} {r : Res} (hk : l[k]? = some r) : Own w0 E (r :: rAll (l.set k rNone) :: M) w := by
  have hf := h.fact 0 rfl
  have hr := hf.1 r (List.mem_of_getElem? hk)
  have h1 : Own w0 E (rAll [r, rAll (l.set k rNone)] :: M) w := by
    refine h.less rfl rfl ⟨fun s hs => ?_, List.pairwise_cons.2 ⟨fun s hs b hb => ?_, List.pairwise_singleton _ _⟩⟩ ?_
    · simp only [List.mem_cons, List.mem_nil_iff, or_false] at hs
      rcases hs with rfl | rfl
      · exact hr
      · refine ⟨rfl, fun s hs => ?_, pairwise_set apart_symm l k rNone hf.2 fun j z _ _ b hb => hb.elim⟩
        rcases List.mem_or_eq_of_mem_set hs with hs | rfl
        · exact hf.1 s hs
        · exact ⟨rfl, trivial⟩
    · rw [List.mem_singleton.1 hs]
      rintro ⟨s, hs, hsb⟩
      obtain ⟨j, hj⟩ := List.getElem?_of_mem hs
      by_cases e : k = j
      · subst e
        rw [List.getElem?_set_self (List.getElem?_eq_some_iff.1 hk).1] at hj
        cases hj; exact hsb
      · rw [List.getElem?_set_ne e] at hj
        exact apart_at hf.2 hk hj (fun e' => e e'.symm) b hb hsb
    · rintro b ⟨s, hs, hb⟩
      simp only [List.mem_cons, List.mem_nil_iff, or_false] at hs
      rcases hs with rfl | rfl
      · exact ⟨_, List.mem_of_getElem? hk, hb⟩
      · obtain ⟨s, hs, hb⟩ := hb
        rcases List.mem_or_eq_of_mem_set hs with hs | rfl
        · exact ⟨s, hs, hb⟩
        · exact hb.elim
  exact h1.allSplit
/-- A member is laid: in the place of the one that lay there. -/
theorem Own.allSet {r : Res} (h : Own w0 E (r :: rAll l :: M) w) (k : Nat) (hr : r.wr = true) : Own w0 E (rAll (l.set k r) :: M) w := by
  have h1 : Own w0 E (rAll [r, rAll l] :: M) w := h.allJoin [r, rAll l] (by simp [hr, rAll])
  have hf := h1.fact 0 rfl
  have hl := (hf.1 (rAll l) (by simp)).2
  have hr2 := (hf.1 r (by simp)).2
  have hp := (List.pairwise_cons.1 hf.2).1 (rAll l) (by simp)
  refine h1.less rfl rfl ⟨fun s hs => ?_, pairwise_set apart_symm l k r hl.2 fun j z hj _ b hb hz => hp b hb ⟨z, List.mem_of_getElem? hj, hz⟩⟩ ?_
  · rcases List.mem_or_eq_of_mem_set hs with hs | rfl
    · exact hl.1 s hs
    · exact ⟨hr, hr2⟩
  · rintro b ⟨s, hs, hb⟩
    rcases List.mem_or_eq_of_mem_set hs with hs | rfl
    · exact ⟨rAll l, by simp, s, hs, hb⟩
    · exact ⟨s, by simp, hb⟩
/-- One more, at the end. -/
theorem Own.allAdd {r : Res} (h : Own w0 E (r :: rAll l :: M) w) (hr : r.wr = true) : Own w0 E (rAll (l ++ [r]) :: M) w := by
  have h1 : Own w0 E (rAll [r, rAll l] :: M) w := h.allJoin [r, rAll l] (by simp [hr, rAll])
  have hf := h1.fact 0 rfl
  have hl := (hf.1 (rAll l) (by simp)).2
  have hr2 := (hf.1 r (by simp)).2
  have hp := (List.pairwise_cons.1 hf.2).1 (rAll l) (by simp)
  refine h1.less rfl rfl ⟨fun s hs => ?_, List.pairwise_append.2 ⟨hl.2, List.pairwise_singleton _ _, fun s hs t ht b hb hb' => ?_⟩⟩ ?_
  · rcases List.mem_append.1 hs with hs | hs
    · exact hl.1 s hs
    · rw [List.mem_singleton.1 hs]; exact ⟨hr, hr2⟩
  · rw [List.mem_singleton.1 ht] at hb'
    exact hp b hb' ⟨s, hs, hb⟩
  · rintro b ⟨s, hs, hb⟩
    rcases List.mem_append.1 hs with hs | hs
    · exact ⟨rAll l, by simp, s, hs, hb⟩
    · rw [List.mem_singleton.1 hs] at hb; exact ⟨r, by simp, hb⟩
/-- Fewer of them. -/
theorem Own.allSub {l' : List Res} (h : Own w0 E (rAll l :: M) w) (hs : l'.Sublist l) : Own w0 E (rAll l' :: M) w := by
  have hf := h.fact 0 rfl
  exact h.less rfl rfl ⟨fun s hs' => hf.1 s (hs.subset hs'), hf.2.sublist hs⟩ fun b ⟨s, hs', hb⟩ => ⟨s, hs.subset hs', hb⟩
/-- None yet. -/
theorem Own.addNone (h : Own w0 E M w) {r : Res} (hr : ∀ w, r.fact w) (hb : ∀ b, ¬ r.foot b) : Own w0 E (r :: M) w :=
  ⟨h.chg, h.mono, fun s hs => by
    rcases List.mem_cons.1 hs with rfl | hs
    · exact hr w
    · exact h.facts s hs, List.pairwise_cons.2 ⟨fun s _ _ b hb' => (hb b hb').elim, h.apart⟩, fun s hs b hb' => by
    rcases List.mem_cons.1 hs with rfl | hs
    · exact (hb b hb').elim
    · exact h.may s hs b hb'⟩
theorem Own.allNil (h : Own w0 E M w) : Own w0 E (rAll [] :: M) w := h.addNone (fun w => ⟨fun r hr => (by cases hr), List.Pairwise.nil⟩) fun b ⟨r, hr, _⟩ => by cases hr
end
section
variable {w0 w : World} {E : Ent} {M : List Res} {α : Type} {f : α → Res} {l : List α} {k : Nat} {x : α}
theorem Own.mapOpen (h : Own w0 E (rAll (l.map f) :: M) w) (hk : l[k]? = some x) : Own w0 E (f x :: rAll ((l.map f).set k rNone) :: M) w := h.allOpen (by rw [List.getElem?_map, hk]; rfl)
theorem Own.mapSet (x : α) (h : Own w0 E (f x :: rAll ((l.map f).set k rNone) :: M) w) (hr : (f x).wr = true) : Own w0 E (rAll ((l.set k x).map f) :: M) w := by
  have h1 := h.allSet k hr
  rw [List.set_set, ← List.map_set] at h1
  exact h1
/-- A new member in the place of one that lay there, or of none. -/
theorem Own.mapPut (x : α) (k : Nat) (h : Own w0 E (f x :: rAll (l.map f) :: M) w) (hr : (f x).wr = true) : Own w0 E (rAll ((l.set k x).map f) :: M) w := by
  have h1 := h.allSet k hr
  rw [← List.map_set] at h1
  exact h1
theorem Own.mapAdd (x : α) (h : Own w0 E (f x :: rAll (l.map f) :: M) w) (hr : (f x).wr = true) : Own w0 E (rAll ((l ++ [x]).map f) :: M) w := by
  have h1 := h.allAdd hr
  rw [List.map_append]
  exact h1
end
end Go.Proofs.YtgebinfbbopnlaaDoor
