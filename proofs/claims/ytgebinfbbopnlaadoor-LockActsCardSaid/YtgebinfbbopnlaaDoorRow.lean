/- A block of one cell that holds a slice of structs (RowAt): kept, appended to, one element stored, a new slice stored; over any program. -/
import Derived.Test.YtgebinfbbopnlaaDoorSlice
namespace Go.Proofs.YtgebinfbbopnlaaDoor
open Go.RowKit
set_option linter.unusedSectionVars false
set_option linter.unusedVariables false
set_option linter.unusedSimpArgs false

section
variable {α : Type} {E k : Nat} {enc : α → List Value}
/-- Block b holds the list l as a slice; S: the block and the slice's. -/
def RowAt (E k : Nat) (enc : α → List Value) (w : World) (b : Nat) (l : List α) (S : Nat → Prop) : Prop :=
  (∃ v T Ss, w.heap[b]? = some (.cells #[v] T (0, 0)) ∧ SliceAt w v E k l.length (l.flatMap enc) Ss ∧ ¬ Ss b ∧ ∀ x, Ss x → S x) ∧ S b ∧ ∀ x, S x → x < w.heap.size
theorem RowAt.keep {w w' : World} {b : Nat} {l : List α} {S U : Nat → Prop} (h : RowAt E k enc w b l S) (c : Chg U w w') (hd : ∀ x, S x → ¬ U x) : RowAt E k enc w' b l S := by
  obtain ⟨⟨v, T, Ss, hb, hs, hn, hsub⟩, hS, hlt⟩ := h
  have := c.size
  exact ⟨⟨v, T, Ss, c.keep hb (hd b hS), hs.keep c (fun x hx => hd x (hsub x hx)), hn, hsub⟩, hS, fun x hx => by have := hlt x hx; omega⟩
theorem RowAt.keepN {w w' : World} {b : Nat} {l : List α} {S : Nat → Prop} (h : RowAt E k enc w b l S) (c : Chg Nil w w') : RowAt E k enc w' b l S := h.keep c (fun _ _ f => f)
theorem RowAt.lt {w : World} {b : Nat} {l : List α} {S : Nat → Prop} (h : RowAt E k enc w b l S) : b < w.heap.size := h.2.2 b h.2.1
theorem rowAt_new (w : World) (T : TypeId) : RowAt E k enc (w.alloc (.cells #[.slice none 0 0] T)) w.heap.size ([] : List α) (· = w.heap.size) :=
  ⟨⟨_, T, Nil, block_alloc w _, by simpa using sliceAt_nil _ _ _ _, fun f => f, fun _ f => f.elim⟩, rfl, fun x e => by subst e; simp⟩
/-- What a call that writes leaves. -/
def RowPost (E k : Nat) (enc : α → List Value) (S : Nat → Prop) (w : World) (b : Nat) (l : List α) (w' : World) : Prop := Chg S w w' ∧ ∃ S', RowAt E k enc w' b l S' ∧ Grow S S' w w'
theorem row_same {S : Nat → Prop} {w w' : World} {b : Nat} {l : List α} (h : RowAt E k enc w b l S) (c : Chg Nil w w') : RowPost E k enc S w b l w' := ⟨c.nil, S, h.keepN c, Grow.refl _ _ _⟩
/-- A call that turned nothing, then one that writes. -/
theorem RowPost.before {S : Nat → Prop} {w w1 w2 : World} {b : Nat} {l : List α} (c : Chg Nil w w1) (p : RowPost E k enc S w1 b l w2) : RowPost E k enc S w b l w2 := by
  obtain ⟨h1, S', h2, h3⟩ := p
  have := c.size
  exact ⟨c.nil.then h1, S', h2, fun x hx => by
    rcases h3 x hx with h | h
    · exact .inl h
    · exact .inr ⟨by omega, h.2⟩⟩
theorem RowPost.then {S : Nat → Prop} {w w1 w2 : World} {b : Nat} {l : List α} (p : RowPost E k enc S w b l w1) (c : Chg Nil w1 w2) : RowPost E k enc S w b l w2 := by
  obtain ⟨h1, S', h2, h3⟩ := p
  have := c.size
  exact ⟨h1.trans c (fun _ _ f => f.elim), S', h2.keepN c, fun x hx => by
    rcases h3 x hx with h | h
    · exact .inl h
    · exact .inr ⟨h.1, by omega⟩⟩
/-- The slice was appended to and stored back. -/
theorem row_push {S Ss S2 : Nat → Prop} {w w2 : World} {b n : Nat} {l : List α} {p : α} {v2 : Value} {T : TypeId} {o : Obj} {old : Value} (hb : w.heap[b]? = some (.cells #[old] T (0, 0))) (hS : S b) (hlt : ∀ x, S x → x < w.heap.size) (hnb : ¬ Ss b) (hsub : ∀ x, Ss x → S x)
    (hs2 : SliceAt w2 v2 E k n (l.flatMap enc ++ enc p) S2) (hn : n = l.length + 1) (hc2 : Chg Ss (w.alloc o) w2) (hg2 : Grow Ss S2 (w.alloc o) w2) :
    RowPost E k enc S w b (l ++ [p]) (w2.setCell ⟨b, 0, none⟩ v2) := by
  subst hn
  have hbl := lt_of_block hb
  have hz := hc2.size
  simp at hz
  have hb2 : w2.heap[b]? = some (.cells #[old] T (0, 0)) := hc2.keep (block_alloc_old hb o) hnb
  have hb3 := block_setCell hb2 0 v2
  simp at hb3
  have hn2 : ¬ S2 b := fun h => by
    rcases hg2 b h with h | h
    · exact hnb h
    · simp at h; omega
  refine ⟨?_, fun x => S x ∨ S2 x, ⟨⟨v2, T, S2, hb3, ?_, hn2, fun x h => .inr h⟩, .inl hS, ?_⟩, ?_⟩
  · exact (((Chg.refl S w).alloc o).trans hc2 (fun x hx h => hsub x h)).setCell (.inr hS) _
  · have := hs2.keep ((Chg.refl (· = b) w2).setCell (p := ⟨b, 0, none⟩) (.inr rfl) v2) (fun x hx e => hn2 (by have : x = b := e; subst this; exact hx))
    simpa using this
  · rintro x (h | h)
    · have := hlt x h; simp; omega
    · rcases hg2 x h with h | h
      · have := hlt x (hsub x h); simp; omega
      · simpa using h.2
  · rintro x (h | h)
    · exact .inl h
    · rcases hg2 x h with h | h
      · exact .inl (hsub x h)
      · right; simp at h ⊢; omega
/-- One element was stored anew. -/
theorem row_set (he : ∀ a, (enc a).length = k) {S Ss : Nat → Prop} {w : World} {b : Nat} {l : List α} {p : α} {T : TypeId} {g off cap n i : Nat} (hb : w.heap[b]? = some (.cells #[.slice (some ⟨g, off, none⟩) n cap] T (0, 0))) (hS : S b) (hlt : ∀ x, S x → x < w.heap.size) (hnb : ¬ Ss b) (hsub : ∀ x, Ss x → S x)
    (hs : SliceAt w (.slice (some ⟨g, off, none⟩) n cap) E k n (l.flatMap enc) Ss) (hn : n = l.length) (hk : i < l.length) :
    RowPost E k enc S w b (l.set i p) (w.setCells g (off + i * k) (enc p)) := by
  subst hn
  have hg : Ss g := by
    obtain ⟨_, _, _, _, e, _, _, _, _, _, h, _⟩ := hs.place (by omega)
    cases e; exact h
  have hgb : ¬ (· = g) b := fun e => hnb (by have : b = g := e; subst this; exact hg)
  have hc := chg_setCells (b := g) (enc p) (off + i * k) w
  refine ⟨hc.mono (fun x _ e => by subst e; exact hsub _ hg), S, ⟨⟨_, T, Ss, hc.keep hb hgb, ?_, hnb, hsub⟩, hS, fun x hx => by rw [size_setCells']; exact hlt x hx⟩, Grow.refl _ _ _⟩
  have := hs.setElem he hk p
  simpa using this
/-- A new list's slice was stored. -/
theorem row_store {S S3 : Nat → Prop} {w w3 : World} {b n : Nat} {l' : List α} {v3 : Value} {T : TypeId} {old : Value} (hb : w3.heap[b]? = some (.cells #[old] T (0, 0))) (hS : S b) (hlt : ∀ x, S x → x < w.heap.size) (hc : Chg S w w3)
    (hs3 : SliceAt w3 v3 E k n (l'.flatMap enc) S3) (hnl : n = l'.length) (hn : ∀ x, S3 x → w.heap.size ≤ x ∧ x < w3.heap.size) : RowPost E k enc S w b l' (w3.setCell ⟨b, 0, none⟩ v3) := by
  subst hnl
  have hb3 := block_setCell hb 0 v3
  simp at hb3
  have hbl := hlt b hS
  have hn2 : ¬ S3 b := fun h => by have := hn b h; omega
  refine ⟨hc.setCell (.inr hS) _, fun x => S x ∨ S3 x, ⟨⟨v3, T, S3, hb3, hs3.keep ((Chg.refl (· = b) w3).setCell (p := ⟨b, 0, none⟩) (.inr rfl) v3) (fun x hx e => hn2 (by have : x = b := e; subst this; exact hx)), hn2, fun x h => .inr h⟩, .inl hS, ?_⟩, ?_⟩
  · rintro x (h | h)
    · have := hlt x h; have := hc.size; simp; omega
    · have := hn x h; simp; omega
  · rintro x (h | h)
    · exact .inl h
    · have := hn x h; right; simp; omega
/-- A slice of the row's own blocks (S3 among Ss) was stored back. -/
theorem row_back {S S3 : Nat → Prop} {w w3 : World} {b n : Nat} {l' : List α} {v3 : Value} {T : TypeId} {old : Value} (hb : w3.heap[b]? = some (.cells #[old] T (0, 0))) (hS : S b) (hlt : ∀ x, S x → x < w.heap.size) (hc : Chg S w w3)
    (hs3 : SliceAt w3 v3 E k n (l'.flatMap enc) S3) (hnl : n = l'.length) (hnb : ¬ S3 b) (hsub : ∀ x, S3 x → S x ∨ (w.heap.size ≤ x ∧ x < w3.heap.size)) : RowPost E k enc S w b l' (w3.setCell ⟨b, 0, none⟩ v3) := by
  subst hnl
  have hb3 := block_setCell hb 0 v3
  simp at hb3
  have hz := hc.size
  refine ⟨hc.setCell (.inr hS) _, fun x => S x ∨ S3 x, ⟨⟨v3, T, S3, hb3, hs3.keep ((Chg.refl (· = b) w3).setCell (p := ⟨b, 0, none⟩) (.inr rfl) v3) (fun x hx e => hnb (by have : x = b := e; subst this; exact hx)), hnb, fun x h => .inr h⟩, .inl hS, ?_⟩, ?_⟩
  · rintro x (h | h)
    · have := hlt x h; simp; omega
    · rcases hsub x h with h | h
      · have := hlt x h; simp; omega
      · simp; omega
  · rintro x (h | h)
    · exact .inl h
    · rcases hsub x h with h | h
      · exact .inl h
      · right; simp; omega
end
end Go.Proofs.YtgebinfbbopnlaaDoor
