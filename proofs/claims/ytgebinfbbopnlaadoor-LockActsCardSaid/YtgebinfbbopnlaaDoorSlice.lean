/- Slices told by their elements (SliceAt), over any program: append, reads. -/
import Derived.Test.YtgebinfbbopnlaaDoorBase
import Derived.ArgAppend
namespace Go.Proofs.YtgebinfbbopnlaaDoor
open Go.RowKit
set_option linter.unusedSectionVars false
set_option linter.unusedVariables false
set_option linter.unusedSimpArgs false

/-- Blocks S' are S's, or new. -/
def Grow (S S' : Nat → Prop) (w w' : World) : Prop := ∀ x, S' x → S x ∨ (w.heap.size ≤ x ∧ x < w'.heap.size)
theorem Grow.refl (S : Nat → Prop) (w w' : World) : Grow S S w w' := fun x h => .inl h
theorem Grow.ge {S S' : Nat → Prop} {w w' : World} {B : Nat} (h : Grow S S' w w') (hS : ∀ x, S x → B ≤ x) (hB : B ≤ w.heap.size) : ∀ x, S' x → B ≤ x := fun x hx => by
  rcases h x hx with h | h
  · exact hS x h
  · omega

/-- The value v is a slice whose cells (n elements of E, size cells each) are xs; its block is in S. -/
def SliceAt (w : World) (v : Value) (E size n : Nat) (xs : List Value) (S : Nat → Prop) : Prop :=
  xs.length = n * size ∧ ((v = .slice none 0 0 ∧ n = 0) ∨
    ∃ g off cap cs, v = .slice (some ⟨g, off, none⟩) n cap ∧ w.heap[g]? = some (.cells cs E (0, 0)) ∧ n ≤ cap ∧ cap ≤ maxLen ∧ off + cap * size ≤ cs.size ∧ (∀ j u, xs[j]? = some u → cs[off + j]? = some u) ∧ S g)

theorem SliceAt.keep {w w' : World} {v : Value} {E size n : Nat} {xs : List Value} {S T : Nat → Prop} (h : SliceAt w v E size n xs S) (c : Chg T w w') (hd : ∀ x, S x → ¬ T x) : SliceAt w' v E size n xs S := by
  obtain ⟨h1, h2 | ⟨g, off, cap, cs, e, hb, r⟩⟩ := h
  · exact ⟨h1, .inl h2⟩
  · exact ⟨h1, .inr ⟨g, off, cap, cs, e, c.keep hb (hd g r.2.2.2.2), r⟩⟩
theorem SliceAt.mono {w : World} {v : Value} {E size n : Nat} {xs : List Value} {S T : Nat → Prop} (h : SliceAt w v E size n xs S) (hd : ∀ x, S x → T x) : SliceAt w v E size n xs T := by
  obtain ⟨h1, h2 | ⟨g, off, cap, cs, e, hb, a, b, c, d, s⟩⟩ := h
  · exact ⟨h1, .inl h2⟩
  · exact ⟨h1, .inr ⟨g, off, cap, cs, e, hb, a, b, c, d, hd g s⟩⟩
theorem sliceAt_nil (w : World) (E size : Nat) (S : Nat → Prop) : SliceAt w (.slice none 0 0) E size 0 [] S := ⟨by simp, .inl ⟨rfl, rfl⟩⟩
theorem SliceAt.shape {w : World} {v : Value} {E size n : Nat} {xs : List Value} {S : Nat → Prop} (h : SliceAt w v E size n xs S) : ∃ a cap, v = .slice a n cap := by
  obtain ⟨_, ⟨rfl, rfl⟩ | ⟨g, off, cap, cs, e, _⟩⟩ := h
  · exact ⟨none, 0, rfl⟩
  · exact ⟨_, cap, e⟩
/-- A slice that has elements: where it lies. -/
theorem SliceAt.place {w : World} {v : Value} {E size n : Nat} {xs : List Value} {S : Nat → Prop} (h : SliceAt w v E size n xs S) (hn : 0 < n) :
    ∃ g off cap cs, v = .slice (some ⟨g, off, none⟩) n cap ∧ w.heap[g]? = some (.cells cs E (0, 0)) ∧ n ≤ cap ∧ cap ≤ maxLen ∧ off + cap * size ≤ cs.size ∧ (∀ j u, xs[j]? = some u → w.cell? ⟨g, off + j, none⟩ = some u) ∧ S g ∧ g < w.heap.size := by
  obtain ⟨_, ⟨_, rfl⟩ | ⟨g, off, cap, cs, e, hb, h1, h2, h3, h4, h5⟩⟩ := h
  · omega
  · exact ⟨g, off, cap, cs, e, hb, h1, h2, h3, fun j u hj => by rw [cell_of hb]; exact h4 j u hj, h5, lt_of_block hb⟩
theorem SliceAt.of_owns {w : World} {base E size : Nat} {v : Value} {n : Nat} {xs : List Value} {S : Nat → Prop} (h : w.ownsRow base E size v n xs) (hS : ∀ x, base ≤ x → x < w.heap.size → S x) : SliceAt w v E size n xs S := by
  obtain ⟨h1, ⟨a, b⟩ | ⟨g, cap, cur, e, hg, hb, h2, h3, h4, h5⟩⟩ := h
  · exact ⟨h1, .inl ⟨a, b⟩⟩
  · refine ⟨h1, .inr ⟨g, 0, cap, cur, e, hb, h2, h3, by omega, fun j u hj => ?_, hS g hg (lt_of_block hb)⟩⟩
    rw [← h5, List.getElem?_take] at hj
    split at hj
    · simpa using hj
    · cases hj

theorem block_setCells {T : TypeId} {fz : Nat × Nat} {b : Nat} : ∀ (vs : List Value) (o : Nat) (w : World) (cs : Array Value), w.heap[b]? = some (.cells cs T fz) →
    ∃ cs', (w.setCells b o vs).heap[b]? = some (.cells cs' T fz) ∧ cs'.size = cs.size ∧ (∀ j, j < vs.length → o + j < cs.size → cs'[o + j]? = vs[j]?) ∧ (∀ i, i < o ∨ o + vs.length ≤ i → cs'[i]? = cs[i]?)
  | [], o, w, cs, h => ⟨cs, h, rfl, fun j hj => by simp at hj, fun _ _ => rfl⟩
  | v :: vs, o, w, cs, h => by
    obtain ⟨cs', h1, h2, h3, h4⟩ := block_setCells vs (o + 1) _ _ (block_setCell h o v)
    refine ⟨cs', h1, by simpa using h2, fun j hj hl => ?_, fun i hi => ?_⟩
    · cases j with
      | zero => rw [h4 (o + 0) (.inl (by omega))]; simp at hl ⊢; simp [hl]
      | succ j =>
        have := h3 j (by simpa using hj) (by simp; omega)
        rw [show o + (j + 1) = o + 1 + j by omega, this]; simp
    · rw [h4 i (by simp at hi; omega)]
      simp at hi
      rw [Array.getElem?_setIfInBounds_ne (by omega)]
theorem chg_setCells {b : Nat} : ∀ (vs : List Value) (o : Nat) (w : World), Chg (· = b) w (w.setCells b o vs)
  | [], _, w => Chg.refl _ w
  | v :: vs, o, w => Chg.then (S := (· = b)) ((Chg.refl (· = b) w).setCell (p := ⟨b, o, none⟩) (.inr rfl) v) (chg_setCells vs (o + 1) (w.setCell ⟨b, o, none⟩ v))
theorem size_setCells' {b : Nat} : ∀ (vs : List Value) (o : Nat) (w : World), (w.setCells b o vs).heap.size = w.heap.size
  | [], _, _ => rfl
  | v :: vs, o, w => by
    show ((w.setCell _ v).setCells b (o + 1) vs).heap.size = _
    rw [size_setCells' vs]; simp

section
variable {P : Program} {w : World}
/-- append of m elements that lie at a. -/
theorem run_appendS {T ty E : TypeId} {z : Value} {size bytes : Nat} (ht : P.underlying T = some (.slice E)) (hinfo : (P.info? E).map (fun i => (i.zero, i.size, i.bytes)) = some (some z, size, bytes)) (hzs : z.cells.size = size) (hsz : 0 < size)
    {v : Value} {n : Nat} {xs : List Value} {S : Nat → Prop} (h : SliceAt w v E size n xs S) {a : Addr} {m c : Nat} {news : List Value} (hl : news.length = m * size) (hnews : ∀ j u, news[j]? = some u → w.cell? (a.add j) = some u) (h1 : ∀ u ∈ news, u.oneCell' = true)
    (h63 : n + m ≤ maxLen) (hb : (n + m) * bytes ≤ 140737488355328) :
    ∃ v' w' S', (Builtin.append_ #[T, T] ty #[v, .slice (some a) m c]).run P w = .ok v' w' ∧ SliceAt w' v' E size (n + m) (xs ++ news) S' ∧ Chg S w w' ∧ Grow S S' w w' := by
  obtain ⟨i, hi, hz0, hz1, hz2⟩ := info_parts hinfo
  obtain ⟨hlen, hcase⟩ := h
  have hgrown : ∀ {v' : Value} {w' : World}, w'.ownsRow w.heap.size E size v' (n + m) (xs ++ news) → w.grownBy w' none → ∃ S', SliceAt w' v' E size (n + m) (xs ++ news) S' ∧ Chg S w w' ∧ Grow S S' w w' := fun ho hg =>
    ⟨fun x => w.heap.size ≤ x ∧ x < _, SliceAt.of_owns ho (fun x h1 h2 => ⟨h1, h2⟩), ⟨hg.os, hg.tape, hg.output, hg.size, fun k hk _ => hg.block k hk (by simp)⟩, fun x hx => .inr hx⟩
  rcases hcase with ⟨rfl, rfl⟩ | ⟨g, off, cap, cs, rfl, hbk, hnc, hcm, hoff, hcells, hS⟩
  · have hx0 : xs = [] := by simpa using hlen
    subst hx0
    obtain ⟨v', w', r, ho, hg, _⟩ := run_append_own (w := w) (P := P) w.heap.size T ty E i z size bytes ht hi hz0 hz1 hz2 hzs hsz (.slice none 0 0) 0 [] (World.ownsRow_nil _ _ _ _) a m c news hl hnews h1 h63 hb (Nat.le_refl _)
    obtain ⟨S', h2, h3, h4⟩ := hgrown ho hg
    exact ⟨v', w', S', r, h2, h3, h4⟩
  · by_cases hroom : n + m ≤ cap
    · have hlt : ∀ j, j < news.length → off + n * size + j < cs.size := fun j hj => by
        have : (n + m) * size ≤ cap * size := Nat.mul_le_mul_right _ hroom
        rw [Nat.add_mul] at this
        omega
      have hr := run_append_room_cells (w := w) (P := P) T ty E i ht hi g off n cap a m c news (by rw [hz1]; exact hl) hnews h1 hroom
        (fun j hj => by rw [hz1, cell_of hbk]; simp [hlt j hj]) (fun j hj => free_of hbk _)
      rw [hz1] at hr
      obtain ⟨cs', e1, e2, e3, e4⟩ := block_setCells news (off + n * size) w cs hbk
      refine ⟨_, _, S, hr, ⟨by rw [List.length_append, hlen, hl, Nat.add_mul], .inr ⟨g, off, cap, cs', rfl, e1, hroom, hcm, by rw [e2]; exact hoff, fun j u hj => ?_, hS⟩⟩, (chg_setCells _ _ _).mono (fun x _ e => by subst e; exact hS), Grow.refl _ _ _⟩
      rcases Nat.lt_or_ge j xs.length with hj' | hj'
      · rw [List.getElem?_append_left hj'] at hj
        rw [e4 _ (.inl (by omega))]
        exact hcells j u hj
      · rw [List.getElem?_append_right hj'] at hj
        have hjl := (List.getElem?_eq_some_iff.1 hj).1
        have hk : off + j = off + n * size + (j - xs.length) := by omega
        rw [hk, e3 _ hjl (hlt _ hjl)]
        exact hj
    · obtain ⟨v', w', r, ho, hg⟩ := run_append_arg_grows (w := w) (P := P) T ty E i z size bytes ht hi hz0 hz1 hz2 hzs hsz ⟨g, off, none⟩ n cap xs hlen (fun j u hj => by
        have := hcells j u hj
        rw [Addr.add_lit, cell_of hbk]; exact this) a m c news hl hnews (by omega) h63 hb
      obtain ⟨S', h2, h3, h4⟩ := hgrown ho hg
      exact ⟨v', w', S', r, h2, h3, h4⟩

variable {ops : Array Oper} {rest : List Oper} {o : Oper} {a : Act} {Q : Exit → Act → World → Prop}
theorem wpList_appendS (hg : o.guard = none) (s x : Operand) (T : TypeId) (hop : o.op = .call { callee := .builtin .append, args := #[s, x], argTypes := #[T, T] })
    {E : TypeId} {z : Value} {size bytes : Nat} (ht : P.underlying T = some (.slice E)) (hinfo : (P.info? E).map (fun i => (i.zero, i.size, i.bytes)) = some (some z, size, bytes)) (hzs : z.cells.size = size) (hsz : 0 < size)
    {v : Value} (hv : a.eval s = v) {n : Nat} {xs : List Value} {S : Nat → Prop} (h : SliceAt w v E size n xs S) {ad : Addr} {m c : Nat} (hx : a.eval x = .slice (some ad) m c) (news : List Value) (hl : news.length = m * size) (hnews : ∀ j u, news[j]? = some u → w.cell? (ad.add j) = some u) (h1 : ∀ u ∈ news, u.oneCell' = true)
    (h63 : n + m ≤ maxLen) (hb : (n + m) * bytes ≤ 140737488355328)
    (hK : ∀ v' w' S', SliceAt w' v' E size (n + m) (xs ++ news) S' → Chg S w w' → Grow S S' w w' → wpList P ops Q rest (a.put o.dst v') w') : wpList P ops Q (o :: rest) a w := by
  refine wpList_plain hg fun K' hK' => ?_
  obtain ⟨v', w', S', r, h2, h3, h4⟩ := run_appendS (ty := o.type) (c := c) ht hinfo hzs hsz h hl hnews h1 h63 hb
  unfold Oper.wp
  simp [execOp, hop, resolve, invoke, builtin, hv, hx, r, Result.andThen]
  exact hK' _ _ (hK v' w' S' h2 h3 h4)
end

/-! ### Elements of several cells -/
theorem flat_len {α : Type} {size : Nat} (enc : α → List Value) (he : ∀ a, (enc a).length = size) : ∀ l : List α, (l.flatMap enc).length = l.length * size
  | [] => by simp
  | a :: l => by simp [he, flat_len enc he l, Nat.add_mul]; omega
theorem flat_get {α : Type} {size : Nat} (enc : α → List Value) (he : ∀ a, (enc a).length = size) : ∀ (l : List α) (i j : Nat) (a : α), l[i]? = some a → j < size → (l.flatMap enc)[i * size + j]? = (enc a)[j]?
  | [], _, _, _, h, _ => by cases h
  | b :: l, 0, j, a, h, hj => by
    simp only [List.getElem?_cons_zero, Option.some.injEq] at h
    subst h
    simp only [List.flatMap_cons, Nat.zero_mul, Nat.zero_add]
    rw [List.getElem?_append_left (by rw [he]; exact hj)]
  | b :: l, i + 1, j, a, h, hj => by
    simp only [List.flatMap_cons]
    rw [List.getElem?_append_right (by rw [he, Nat.add_mul]; omega), he, show (i + 1) * size + j - size = i * size + j by rw [Nat.add_mul]; omega]
    exact flat_get enc he l i j a (by simpa using h) hj

theorem cell_new_list (w : World) (l : List Value) (E : TypeId) (j : Nat) (u : Value) (h : l[j]? = some u) : (w.alloc (.cells l.toArray E)).cell? ((⟨w.heap.size, 0, none⟩ : Addr).add j) = some u := by
  rw [Addr.add_lit, cell_of (block_alloc w (.cells l.toArray E))]
  simpa using h

/-- One element stored anew. -/
theorem SliceAt.setElem {α : Type} {enc : α → List Value} {w : World} {g off n cap E size : Nat} {l : List α} {S : Nat → Prop} (he : ∀ a, (enc a).length = size)
    (h : SliceAt w (.slice (some ⟨g, off, none⟩) n cap) E size n (l.flatMap enc) S) {k : Nat} (hk : k < l.length) (x : α) :
    SliceAt (w.setCells g (off + k * size) (enc x)) (.slice (some ⟨g, off, none⟩) n cap) E size n ((l.set k x).flatMap enc) S := by
  obtain ⟨h1, ⟨e, _⟩ | ⟨g', off', cap', cs, e, hb, h2, h3, h4, h5, h6⟩⟩ := h
  · cases e
  cases e
  obtain ⟨cs', e1, e2, e3, e4⟩ := block_setCells (enc x) (off + k * size) w cs hb
  have hn : l.length * size = n * size := by rw [← flat_len enc he l]; exact h1
  have hks : (k + 1) * size ≤ n * size := by rw [← hn]; exact Nat.mul_le_mul_right _ hk
  have hnc : n * size ≤ cap * size := Nat.mul_le_mul_right _ h2
  rw [Nat.add_mul] at hks
  refine ⟨by rw [flat_len enc he]; simpa using hn, .inr ⟨g, off, cap, cs', rfl, e1, h2, h3, by rw [e2]; exact h4, fun j u hj => ?_, h6⟩⟩
  have hjl := (List.getElem?_eq_some_iff.1 hj).1
  rw [flat_len enc he, List.length_set] at hjl
  by_cases hin : k * size ≤ j ∧ j < k * size + size
  · obtain ⟨r, rfl⟩ : ∃ r, j = k * size + r := ⟨j - k * size, by omega⟩
    rw [flat_get enc he (l.set k x) k r x (by simp [hk]) (by omega)] at hj
    rw [show off + (k * size + r) = off + k * size + r by omega, e3 r (by rw [he]; omega) (by omega)]
    exact hj
  · rw [e4 _ (by rw [he]; omega)]
    refine h5 j u ?_
    have hs0 : 0 < size := by rcases Nat.eq_zero_or_pos size with h | h; (subst h; simp at hjl); exact h
    obtain ⟨i, r, rfl, hr⟩ : ∃ i r, j = i * size + r ∧ r < size := ⟨j / size, j % size, by rw [Nat.mul_comm]; exact (Nat.div_add_mod j size).symm, Nat.mod_lt _ hs0⟩
    have hi : i < l.length := by
      rcases Nat.lt_or_ge i l.length with h | h
      · exact h
      · have := Nat.mul_le_mul_right size h; omega
    have hik : i ≠ k := fun e => by subst e; omega
    obtain ⟨y, hy⟩ : ∃ y, l[i]? = some y := ⟨l[i], List.getElem?_eq_getElem hi⟩
    rw [flat_get enc he (l.set k x) i r y (by rw [List.getElem?_set_ne (fun e => hik e.symm)]; exact hy) hr] at hj
    rw [flat_get enc he l i r y hy hr]; exact hj
theorem SliceAt.elem {α : Type} {enc : α → List Value} {w : World} {g off n cap E size : Nat} {l : List α} {S : Nat → Prop} (he : ∀ a, (enc a).length = size)
    (h : SliceAt w (.slice (some ⟨g, off, none⟩) n cap) E size n (l.flatMap enc) S) {k : Nat} {x : α} (hk : l[k]? = some x) (r : Nat) (u : Value) (hu : (enc x)[r]? = some u) : w.cell? ⟨g, off + k * size + r, none⟩ = some u ∧ w.frozen? ⟨g, off + k * size + r, none⟩ = false ∧ g < w.heap.size := by
  obtain ⟨h1, ⟨e, _⟩ | ⟨g', off', cap', cs, e, hb, h2, h3, h4, h5, h6⟩⟩ := h
  · cases e
  cases e
  refine ⟨?_, free_of hb _, lt_of_block hb⟩
  rw [cell_of hb, Nat.add_assoc]
  have hr : r < size := by rw [← he x]; exact (List.getElem?_eq_some_iff.1 hu).1
  exact h5 _ u (by rw [flat_get enc he l k r x hk hr]; exact hu)
theorem SliceAt.len {α : Type} {enc : α → List Value} {w : World} {v : Value} {n E size : Nat} {l : List α} {S : Nat → Prop} (he : ∀ a, (enc a).length = size) (hs : 0 < size) (h : SliceAt w v E size n (l.flatMap enc) S) : n = l.length := by
  have := h.1
  rw [flat_len enc he] at this
  exact (Nat.mul_right_cancel hs this).symm
theorem SliceAt.le {w : World} {v : Value} {n E size : Nat} {xs : List Value} {S : Nat → Prop} (h : SliceAt w v E size n xs S) : n ≤ 9223372036854775807 := by
  rcases Nat.eq_zero_or_pos n with h0 | h0
  · omega
  · obtain ⟨_, _, _, _, _, _, h1, h2, _⟩ := h.place h0
    unfold maxLen at h2; omega
end Go.Proofs.YtgebinfbbopnlaaDoor
