/- A family of blocks, each told by what lies in it, as one resource (rFam): what pointers in a map or in a slice point to. Over any program, no condition. -/
import Derived.Test.YtgebinfbbopnlaaDoorOp6
namespace Go.Proofs.YtgebinfbbopnlaaDoor
open Go.RowKit
set_option linter.unusedSectionVars false
set_option linter.unusedVariables false
set_option linter.unusedSimpArgs false

/-- Blocks of one type, no two alike; each holds just what enc tells. -/
structure FamAt {α : Type} (T : TypeId) (enc : α → List Value) (l : List (Nat × α)) (w : World) : Prop where
  dist : (l.map (fun e => e.1)).Nodup
  at_ : ∀ e ∈ l, w.heap[e.1]? = some (.cells (enc e.2).toArray T (0, 0))
def rFam {α : Type} (wr : Bool) (T : TypeId) (enc : α → List Value) (l : List (Nat × α)) : Res :=
  ⟨wr, fun b => ∃ e ∈ l, e.1 = b, fun w => FamAt T enc l w,
   fun w w' h _ hb => ⟨h.1, fun e he => (hb e.1 ⟨e, he, rfl⟩).trans (h.2 e he)⟩, fun w b h ⟨e, he, hb⟩ => by rw [← hb]; exact lt_of_block (h.2 e he)⟩
section
variable {α : Type} {enc : α → List Value} {T : TypeId} {l : List (Nat × α)} {i b : Nat} {x : α}
theorem rdFam {wr : Bool} (hi : l[i]? = some (b, x)) (off : Nat) {vs : List Value} (h : ((enc x).drop off).take vs.length = vs) : RdAt (rFam wr T enc l) b off vs := fun w hf =>
  rdCell (wr := true) (b := b) (T := T) off h w (hf.2 _ (List.mem_of_getElem? hi))
theorem map_fst_set : ∀ (l : List (Nat × α)) (i : Nat) (b : Nat) (x x' : α), l[i]? = some (b, x) → (l.set i (b, x')).map (fun e => e.1) = l.map (fun e => e.1)
  | [], _, _, _, _, h => by simp at h
  | y :: l, 0, b, x, x', h => by simp at h; subst h; rfl
  | y :: l, i + 1, b, x, x', h => by simp [map_fst_set l i b x x' (by simpa using h)]
theorem fam_other {l : List (Nat × α)} (hn : (l.map (fun e => e.1)).Nodup) {i : Nat} {b : Nat} {x x' : α} (hi : l[i]? = some (b, x)) {e : Nat × α} (he : e ∈ l.set i (b, x')) : e = (b, x') ∨ (e ∈ l ∧ e.1 ≠ b) := by
  obtain ⟨j, hj, rfl⟩ := List.mem_iff_getElem.1 he
  rw [List.length_set] at hj
  by_cases hij : i = j
  · subst hij; left; simp
  · right
    rw [List.getElem_set_ne hij]
    refine ⟨List.getElem_mem hj, fun e => hij ?_⟩
    obtain ⟨hil, hx⟩ := List.getElem?_eq_some_iff.1 hi
    have hp := List.pairwise_iff_getElem.1 hn
    rcases Nat.lt_trichotomy i j with h | h | h
    · exact (hp i j (by simpa using hil) (by simpa using hj) h (by simp only [List.getElem_map, hx, e])).elim
    · exact h
    · exact (hp j i (by simpa using hj) (by simpa using hil) h (by simp only [List.getElem_map, hx, e])).elim
/-- Part of one of them is stored. -/
theorem wrFam (hi : l[i]? = some (b, x)) (off : Nat) (x' : α) {vs : List Value} (h : (enc x).take off ++ (vs ++ (enc x).drop (off + vs.length)) = enc x') (hl : Nat.ble (off + vs.length) (enc x).length = true) :
    WrAt (rFam true T enc l) b off vs (rFam true T enc (l.set i (b, x'))) := by
  have hl' := Nat.le_of_ble_eq_true hl
  have hm := List.mem_of_getElem? hi
  obtain ⟨_, hw⟩ := wrCell (b := b) (cs := enc x) (T := T) off vs hl' h
  refine ⟨rfl, fun w hf => ?_⟩
  obtain ⟨h1, h2, h3, _⟩ := hw w (hf.2 _ hm)
  refine ⟨h1, ⟨by rw [map_fst_set l i b x x' hi]; exact hf.1, fun e he => ?_⟩, ⟨_, hm, rfl⟩, fun y ⟨e, he, hy⟩ => ?_⟩
  · rcases fam_other hf.1 hi he with rfl | ⟨he, hne⟩
    · exact h2
    · have c := (chg_setCells (b := b) vs off w).block e.1 (lt_of_block (hf.2 e he)) hne
      exact c.trans (hf.2 e he)
  · rcases List.mem_or_eq_of_mem_set he with he | rfl
    · exact ⟨e, he, hy⟩
    · exact ⟨_, hm, hy⟩
end
theorem fam_set {α : Type} {l : List α} {j : Nat} {x x' : α} (h : l[j]? = some x) : (l.set j x')[j]? = some x' := by
  rw [List.getElem?_set_self (List.getElem?_eq_some_iff.1 h).1]
section
variable {α : Type} {enc : α → List Value} {T : TypeId} {l : List (Nat × α)} {w0 w : World} {E : Ent} {M : List Res}
/-- A new one. -/
theorem Own.famAdd {b : Nat} {cs : List Value} {x : α} (h : Own w0 E (rCell true b cs T :: rFam true T enc l :: M) w) (he : enc x = cs) : Own w0 E (rFam true T enc (l ++ [(b, x)]) :: M) w := by
  subst he
  have h0 := h.fact 0 rfl
  have h1 := h.fact 1 rfl
  have ap := h.apart
  simp only [List.pairwise_cons, List.mem_cons] at ap
  refine ⟨h.chg, h.mono, ?_, List.pairwise_cons.2 ⟨fun s hs hc x hx hsx => ?_, ap.2.2⟩, ?_⟩
  · intro r hr
    rcases List.mem_cons.1 hr with rfl | hr
    · refine ⟨?_, fun e he => ?_⟩
      · rw [List.map_append]
        refine List.nodup_append.2 ⟨h1.1, by simp, fun a ha c hc => ?_⟩
        obtain ⟨e, he, rfl⟩ := List.mem_map.1 ha
        simp at hc
        subst hc
        exact fun e' => ap.1 _ (.inl rfl) (.inl rfl) _ rfl ⟨e, he, e'⟩
      · rcases List.mem_append.1 he with he | he
        · exact h1.2 e he
        · rw [List.mem_singleton.1 he]; exact h0
    · exact h.facts r (by simp [hr])
  · obtain ⟨e, he, rfl⟩ := hx
    rcases List.mem_append.1 he with he | he
    · exact ap.2.1 s hs (.inl rfl) _ ⟨e, he, rfl⟩ hsx
    · rw [List.mem_singleton.1 he] at hsx
      exact ap.1 s (.inr hs) (.inl rfl) _ rfl hsx
  · intro r hr x hx
    rcases List.mem_cons.1 hr with rfl | hr
    · obtain ⟨e, he, rfl⟩ := hx
      rcases List.mem_append.1 he with he | he
      · exact h.may (rFam true T enc l) (by simp) _ ⟨e, he, rfl⟩
      · rw [List.mem_singleton.1 he]
        exact h.may (rCell true b (enc x) T) (by simp) _ rfl
    · exact h.may r (by simp [hr]) x hx
/-- Fewer of them. -/
theorem Own.famSub {l' : List (Nat × α)} (h : Own w0 E (rFam true T enc l :: M) w) (hs : l'.Sublist l) : Own w0 E (rFam true T enc l' :: M) w := by
  have h1 := h.fact 0 rfl
  have ap := h.apart
  simp only [List.pairwise_cons] at ap
  have hm : ∀ e ∈ l', e ∈ l := fun e he => hs.subset he
  refine ⟨h.chg, h.mono, ?_, List.pairwise_cons.2 ⟨fun s hs' hc x hx hsx => ?_, ap.2⟩, ?_⟩
  · intro r hr
    rcases List.mem_cons.1 hr with rfl | hr
    · exact ⟨h1.1.sublist (hs.map _), fun e he => h1.2 e (hm e he)⟩
    · exact h.facts r (by simp [hr])
  · obtain ⟨e, he, rfl⟩ := hx
    exact ap.1 s hs' (.inl rfl) _ ⟨e, hm e he, rfl⟩ hsx
  · intro r hr x hx
    rcases List.mem_cons.1 hr with rfl | hr
    · obtain ⟨e, he, rfl⟩ := hx
      exact h.may (rFam true T enc l) (by simp) _ ⟨e, hm e he, rfl⟩
    · exact h.may r (by simp [hr]) x hx
/-- None yet. -/
theorem Own.famNil (h : Own w0 E M w) (T : TypeId) (enc : α → List Value) : Own w0 E (rFam true T enc [] :: M) w :=
  ⟨h.chg, h.mono, fun r hr => by
    rcases List.mem_cons.1 hr with rfl | hr
    · exact ⟨by simp, by simp⟩
    · exact h.facts r hr, List.pairwise_cons.2 ⟨fun s _ _ x ⟨e, he, _⟩ => by simp at he, h.apart⟩, fun r hr x hx => by
    rcases List.mem_cons.1 hr with rfl | hr
    · obtain ⟨e, he, _⟩ := hx; simp at he
    · exact h.may r hr x hx⟩
end
end Go.Proofs.YtgebinfbbopnlaaDoor
