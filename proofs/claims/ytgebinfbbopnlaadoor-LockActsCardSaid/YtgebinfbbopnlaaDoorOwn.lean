/- What a call owns: a list of resources (each with the blocks it lies in), kept over steps that turn other blocks; contracts that say what is handed in and what is handed back (Spec); the operations' laws by it. Over any program, no condition. -/
import Derived.Test.YtgebinfbbopnlaaDoorSlice
namespace Go.Proofs.YtgebinfbbopnlaaDoor
open Go.RowKit
set_option linter.unusedSectionVars false
set_option linter.unusedVariables false
set_option linter.unusedSimpArgs false

/-- A resource: may it be written? the blocks it lies in; what is so. -/
structure Res where
  wr : Bool
  foot : Nat → Prop
  fact : World → Prop
  stab : ∀ (w w' : World), fact w → w.heap.size ≤ w'.heap.size → (∀ b, foot b → w'.heap[b]? = w.heap[b]?) → fact w'
  alive : ∀ (w : World) (b : Nat), fact w → foot b → b < w.heap.size

abbrev Ent := Bool → Nat → Prop

/-- Since w0 only what E allows has turned; in w the resources L are so, apart from each other where one is written. -/
structure Own (w0 : World) (E : Ent) (L : List Res) (w : World) : Prop where
  chg : Chg (E true) w0 w
  mono : ∀ b, E true b → E false b
  facts : ∀ r ∈ L, r.fact w
  apart : L.Pairwise (fun r s => r.wr = true ∨ s.wr = true → ∀ b, r.foot b → ¬ s.foot b)
  may : ∀ r ∈ L, ∀ b, r.foot b → E r.wr b ∨ w0.heap.size ≤ b

theorem Own.perm {w0 w : World} {E : Ent} {L L' : List Res} (h : Own w0 E L w) (p : L.Perm L') : Own w0 E L' w :=
  ⟨h.chg, h.mono, fun r hr => h.facts r (p.mem_iff.2 hr), p.pairwise h.apart (fun {r s} hrs c b hb hs => hrs (c.symm) b hs hb), fun r hr => h.may r (p.mem_iff.2 hr)⟩
theorem Own.left {w0 w : World} {E : Ent} {L M : List Res} (h : Own w0 E (L ++ M) w) : Own w0 E L w :=
  ⟨h.chg, h.mono, fun r hr => h.facts r (List.mem_append_left _ hr), (List.pairwise_append.1 h.apart).1, fun r hr => h.may r (List.mem_append_left _ hr)⟩
/-- What a list of resources lies in. -/
def entOf (L : List Res) : Ent := fun t b => ∃ r ∈ L, r.foot b ∧ (t = true → r.wr = true)
theorem Own.focus {w0 w : World} {E : Ent} {L M : List Res} (h : Own w0 E (L ++ M) w) : Own w (entOf L) L w :=
  ⟨Chg.refl _ _, fun b ⟨r, hr, hb, _⟩ => ⟨r, hr, hb, fun e => by cases e⟩, h.left.facts, h.left.apart, fun r hr b hb => .inl ⟨r, hr, hb, fun e => e⟩⟩
theorem Own.unfocus {w0 w w' : World} {E : Ent} {L L' M : List Res} (h : Own w0 E (L ++ M) w) (k : Own w (entOf L) L' w') : Own w0 E (L' ++ M) w' := by
  obtain ⟨h1, h2, h3, h4, h5⟩ := h
  obtain ⟨k1, k2, k3, k4, k5⟩ := k
  obtain ⟨_, hM, hLM⟩ := List.pairwise_append.1 h4
  have hsz := h1.size
  refine ⟨h1.trans k1 ?_, h2, ?_, ?_, ?_⟩
  · rintro x hx ⟨r, hr, hb, hw⟩
    rcases h5 r (List.mem_append_left _ hr) x hb with h | h
    · rw [hw rfl] at h; exact h
    · omega
  · intro r hr
    rcases List.mem_append.1 hr with hr | hr
    · exact k3 r hr
    · have hf := h3 r (List.mem_append_right _ hr)
      refine r.stab w w' hf k1.size (fun b hb => k1.block b (r.alive w b hf hb) ?_)
      rintro ⟨s, hs, hsb, hw⟩
      exact hLM s hs r hr (.inl (hw rfl)) b hsb hb
  · refine List.pairwise_append.2 ⟨k4, hM, fun r hr s hs hc b hb hsb => ?_⟩
    rcases k5 r hr b hb with ⟨q, hq, hqb, hqw⟩ | hge
    · rcases hc with hc | hc
      · exact hLM q hq s hs (.inl (hqw hc)) b hqb hsb
      · exact hLM q hq s hs (.inr hc) b hqb hsb
    · have := s.alive w b (h3 s (List.mem_append_right _ hs)) hsb
      omega
  · intro r hr b hb
    rcases List.mem_append.1 hr with hr | hr
    · rcases k5 r hr b hb with ⟨q, hq, hqb, hqw⟩ | hge
      · rcases h5 q (List.mem_append_left _ hq) b hqb with h | h
        · refine .inl ?_
          cases e : r.wr
          · cases e2 : q.wr
            · rw [e2] at h; exact h
            · rw [e2] at h; exact h2 b h
          · rw [hqw e] at h; exact h
        · exact .inr h
      · exact .inr (by omega)
    · exact h5 r (List.mem_append_right _ hr) b hb

/-- The resources at these places, each counted behind the taking out of the ones before it; and the rest. -/
def pk : List Nat → List Res → List Res
  | [], _ => []
  | i :: is, L => match L[i]? with | some r => r :: pk is (L.eraseIdx i) | none => pk is L
def rs : List Nat → List Res → List Res
  | [], L => L
  | i :: is, L => rs is (L.eraseIdx i)
theorem erase_perm {α : Type} : ∀ {L : List α} {i : Nat} {r : α}, L[i]? = some r → (r :: L.eraseIdx i).Perm L
  | [], _, _, h => by simp at h
  | x :: L, 0, r, h => by simp at h; subst h; exact List.Perm.refl _
  | x :: L, i + 1, r, h => (List.Perm.swap x r _).trans ((erase_perm (by simpa using h)).cons x)
theorem pk_perm : ∀ (is : List Nat) (L : List Res), L.Perm (pk is L ++ rs is L)
  | [], L => by simp [pk, rs]
  | i :: is, L => by
    unfold pk rs
    cases hi : L[i]? with
    | none =>
      have hl : L.length ≤ i := by simpa using hi
      rw [List.eraseIdx_of_length_le hl]
      exact pk_perm is L
    | some r =>
      exact (erase_perm hi).symm.trans ((pk_perm is (L.eraseIdx i)).cons r)
theorem Own.pick {w0 w : World} {E : Ent} {L : List Res} (h : Own w0 E L w) (is : List Nat) : Own w0 E (pk is L) w := (h.perm (pk_perm is L)).left
theorem Own.pick1 {w0 w : World} {E : Ent} {r : Res} {L : List Res} (h : Own w0 E (r :: L) w) : Own w0 E L w :=
  ⟨h.chg, h.mono, fun r hr => h.facts r (List.mem_cons_of_mem _ hr), (List.pairwise_cons.1 h.apart).2, fun r hr => h.may r (List.mem_cons_of_mem _ hr)⟩
theorem Own.fact {w0 w : World} {E : Ent} {L : List Res} (h : Own w0 E L w) (i : Nat) {r : Res} (hi : L[i]? = some r) : r.fact w := h.facts r (List.mem_of_getElem? hi)
theorem Own.quiet {w0 w w' : World} {E : Ent} {L : List Res} (h : Own w0 E L w) (c : Chg Nil w w') : Own w0 E L w' :=
  ⟨h.chg.then c.nil, h.mono, fun r hr => r.stab w w' (h.facts r hr) c.size (fun b hb => c.block b (r.alive w b (h.facts r hr) hb) (fun f => f)), h.apart, h.may⟩
theorem Own.drew {w0 w : World} {E : Ent} {L : List Res} (h : Own w0 E L w) : Own w0 E L w.drew := h.quiet ((Chg.refl Nil w).drew)
theorem Own.push {w0 w w' : World} {E : Ent} {L : List Res} (h : Own w0 E L w) (c : Chg Nil w w') {r : Res} (hf : r.fact w') (hn : ∀ b, r.foot b → w.heap.size ≤ b) : Own w0 E (r :: L) w' := by
  have hq := h.quiet c
  have hsz := h.chg.size
  refine ⟨hq.chg, hq.mono, fun s hs => ?_, List.pairwise_cons.2 ⟨fun s hs _ b hb hsb => ?_, hq.apart⟩, fun s hs b hb => ?_⟩
  · rcases List.mem_cons.1 hs with rfl | hs
    · exact hf
    · exact hq.facts s hs
  · have := s.alive w b (h.facts s hs) hsb
    have := hn b hb
    omega
  · rcases List.mem_cons.1 hs with rfl | hs
    · exact .inr (by have := hn b hb; omega)
    · exact h.may s hs b hb
/-- One resource turns, and its blocks alone. -/
theorem Own.upd {w0 w w' : World} {E : Ent} {L : List Res} (h : Own w0 E L w) (i : Nat) {r r' : Res} (hi : L[i]? = some r) (hw : r.wr = true) (c : Chg r.foot w w') (hf : r'.fact w') (hg : ∀ b, r'.foot b → r.foot b ∨ w.heap.size ≤ b) : Own w0 E (L.set i r') w' := by
  have hl : i < L.length := (List.getElem?_eq_some_iff.1 hi).1
  have p1 := erase_perm hi
  have p2 := erase_perm (L := L.set i r') (i := i) (r := r') (by rw [List.getElem?_set_self hl])
  rw [List.eraseIdx_set_eq] at p2
  have h1 : Own w0 E ([r] ++ L.eraseIdx i) w := h.perm p1.symm
  have h2 : Own w (entOf [r]) [r'] w' := by
    refine ⟨c.mono (fun x _ hx => ⟨r, List.mem_singleton.2 rfl, hx, fun _ => hw⟩), fun b ⟨s, hs, hb, _⟩ => ⟨s, hs, hb, fun e => by cases e⟩, fun s hs => by rw [List.mem_singleton.1 hs]; exact hf, List.pairwise_singleton _ _, fun s hs b hb => ?_⟩
    rw [List.mem_singleton.1 hs] at hb ⊢
    rcases hg b hb with hb | hb
    · exact .inl ⟨r, List.mem_singleton.2 rfl, hb, fun _ => hw⟩
    · exact .inr hb
  exact (h1.unfocus h2).perm p2

/-- A contract: with these resources the call returns v and leaves the resources L', as Φ says. -/
def Spec (P : Program) (f : FuncId) (args : Array Value) (L : List Res) (Φ : Value → List Res → Prop) : Prop :=
  ∀ (E : Ent) (w0 w : World), Own w0 E L w → Calls P f args w fun e w' => ∃ v L', Φ v L' ∧ e = .returned v ∧ Own w0 E L' w'
theorem Spec.mono {P : Program} {f : FuncId} {args : Array Value} {L : List Res} {Φ Ψ : Value → List Res → Prop} (h : Spec P f args L Φ) (hm : ∀ v L', Φ v L' → Ψ v L') : Spec P f args L Ψ :=
  fun E w0 w ho => (h E w0 w ho).mono fun e w' ⟨v, L', h1, h2, h3⟩ => ⟨v, L', hm v L' h1, h2, h3⟩

/-! ### Resources -/
/-- A block of cells. -/
def rCell (wr : Bool) (b : Nat) (cs : List Value) (T : TypeId) : Res :=
  ⟨wr, (· = b), fun w => w.heap[b]? = some (.cells cs.toArray T (0, 0)), fun w w' h _ hb => (hb b rfl).trans h, fun w x h e => by rw [e]; exact lt_of_block h⟩
/-- A map told by its entries. -/
def blkOf : Value → Nat → Prop
  | .slice (some a) _ _ => (· = a.block)
  | .map (some r) => (· = r)
  | _ => fun _ => False
/-- A slice whose n elements of E (k cells each) have the cells xs. -/
def rSl (wr : Bool) (v : Value) (E k n : Nat) (xs : List Value) : Res :=
  ⟨wr, blkOf v, fun w => SliceAt w v E k n xs (blkOf v), fun w w' h hs hb => by
    obtain ⟨h1, h2 | ⟨g, off, cap, cs, e, hbk, a, b, c, d, s⟩⟩ := h
    · exact ⟨h1, .inl h2⟩
    · exact ⟨h1, .inr ⟨g, off, cap, cs, e, (hb g s).trans hbk, a, b, c, d, s⟩⟩,
   fun w x h hx => by
    obtain ⟨h1, ⟨rfl, _⟩ | ⟨g, off, cap, cs, rfl, hbk, _⟩⟩ := h
    · exact hx.elim
    · have : x = g := hx
      rw [this]; exact lt_of_block hbk⟩
theorem rSl_nil (wr : Bool) (E k : Nat) (w : World) : (rSl wr (.slice none 0 0) E k 0 []).fact w := sliceAt_nil _ _ _ _

/-- What lies at b, off on: the cells vs. -/
def RdAt (r : Res) (b off : Nat) (vs : List Value) : Prop := ∀ w, r.fact w → ∀ j u, vs[j]? = some u → w.cell? ⟨b, off + j, none⟩ = some u
theorem rdCell {wr : Bool} {b : Nat} {cs : List Value} {T : TypeId} (off : Nat) {vs : List Value} (h : (cs.drop off).take vs.length = vs) : RdAt (rCell wr b cs T) b off vs := fun w hf j u hj => by
  have hq : w.cell? ⟨b, off + j, none⟩ = cs[off + j]? := by rw [cell_of hf, List.getElem?_toArray]
  rw [hq]
  have hl := (List.getElem?_eq_some_iff.1 hj).1
  have h2 := congrArg (fun l => l[j]?) h
  simp only [List.getElem?_take, List.getElem?_drop, if_pos hl] at h2
  rw [h2]; exact hj
/-- The cells vs may be stored at b, off on: then it is r'. -/
def WrAt (r : Res) (b off : Nat) (vs : List Value) (r' : Res) : Prop := r.wr = true ∧ ∀ w, r.fact w → (∀ j, j < vs.length → (w.cell? ⟨b, off + j, none⟩).isSome = true ∧ w.frozen? ⟨b, off + j, none⟩ = false) ∧ r'.fact (w.setCells b off vs) ∧ r.foot b ∧ ∀ x, r'.foot x → r.foot x
theorem setCells_lit {b : Nat} {T : TypeId} : ∀ (vs : List Value) (off : Nat) (w : World) (cs : List Value), w.heap[b]? = some (.cells cs.toArray T (0, 0)) → off + vs.length ≤ cs.length →
    (w.setCells b off vs).heap[b]? = some (.cells (cs.take off ++ (vs ++ cs.drop (off + vs.length))).toArray T (0, 0))
  | [], off, w, cs, h, _ => by
    show w.heap[b]? = _
    rw [h]
    simp
  | v :: vs, off, w, cs, h, hl => by
    have h1 := block_setCell h off v
    rw [List.setIfInBounds_toArray] at h1
    have h2 := setCells_lit vs (off + 1) _ _ h1 (by simp at hl ⊢; omega)
    show ((w.setCell ⟨b, off, none⟩ v).setCells b (off + 1) vs).heap[b]? = _
    rw [h2]
    simp at hl
    have ho : off < cs.length := by omega
    congr 3
    apply List.ext_getElem?
    intro i
    have e1 : (List.take (off + 1) (cs.set off v)).length = off + 1 := by simp; omega
    have e2 : (List.take off cs).length = off := by simp; omega
    simp only [List.length_cons]
    rw [List.getElem?_append (l₁ := List.take (off + 1) (cs.set off v)), e1, List.getElem?_append (l₁ := List.take off cs), e2]
    by_cases h1 : i < off
    · rw [if_pos (by omega), if_pos h1, List.getElem?_take, List.getElem?_take, if_pos (by omega), if_pos h1, List.getElem?_set_ne (by omega)]
    · by_cases h2 : i = off
      · subst h2
        rw [if_pos (by omega), if_neg (by omega), List.getElem?_take, if_pos (by omega), List.getElem?_set_self ho]
        simp
      · rw [if_neg (by omega), if_neg h1]
        obtain ⟨d, rfl⟩ : ∃ d, i = off + 1 + d := ⟨i - off - 1, by omega⟩
        rw [show off + 1 + d - (off + 1) = d by omega, show off + 1 + d - off = d + 1 by omega, List.cons_append, List.getElem?_cons_succ, List.getElem?_append, List.getElem?_append]
        split
        · rfl
        · rw [List.getElem?_drop, List.getElem?_drop, List.getElem?_set_ne (by omega)]
          congr 1; omega
theorem wrCell {b : Nat} {cs : List Value} {T : TypeId} (off : Nat) (vs : List Value) {cs' : List Value} (hl : off + vs.length ≤ cs.length) (h : cs.take off ++ (vs ++ cs.drop (off + vs.length)) = cs') : WrAt (rCell true b cs T) b off vs (rCell true b cs' T) :=
  ⟨rfl, fun w hf => ⟨fun j hj => ⟨by rw [cell_of hf]; simp; omega, free_of hf _⟩, by rw [← h]; exact setCells_lit vs off w cs hf hl, rfl, fun x e => e⟩⟩
end Go.Proofs.YtgebinfbbopnlaaDoor
