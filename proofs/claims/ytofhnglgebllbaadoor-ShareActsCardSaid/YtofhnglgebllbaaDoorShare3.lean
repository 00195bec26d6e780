/- package share: find, May, Anyone, Down, Open by contract. -/
import Derived.Test.YtofhnglgebllbaaDoorSlOpen
import Derived.Test.YtofhnglgebllbaaDoorRow
import Derived.Test.YtofhnglgebllbaaDoorSteps
import Derived.Test.YtofhnglgebllbaaDoorEnv
namespace Go.Proofs.YtofhnglgebllbaaDoor
open Go.RowKit Go.Lib Go.Sort
set_option linter.unusedVariables false
set_option linter.unusedSimpArgs false

theorem SliceAt.setOne {w : World} {g off n cap E size : Nat} {xs : List Value} {S : Nat → Prop} (h : SliceAt w (.slice (some ⟨g, off, none⟩) n cap) E size n xs S) {j : Nat} (hj : j < xs.length) (u : Value) :
    SliceAt (w.setCell ⟨g, off + j, none⟩ u) (.slice (some ⟨g, off, none⟩) n cap) E size n (xs.set j u) S := by
  obtain ⟨h1, ⟨e, _⟩ | ⟨g', off', cap', cs, e, hb, h2, h3, h4, h5, h6⟩⟩ := h
  · cases e
  cases e
  have hb' := block_setCell hb (off + j) u
  refine ⟨by rw [List.length_set]; exact h1, .inr ⟨g, off, cap, _, rfl, hb', h2, h3, by simpa using h4, fun i v hi => ?_, h6⟩⟩
  have hil := (List.getElem?_eq_some_iff.1 hi).1
  rw [List.length_set] at hil
  have hoff : off + j < cs.size := by
    have : n * size ≤ cap * size := Nat.mul_le_mul_right _ h2
    omega
  rw [List.getElem?_set] at hi
  by_cases e : j = i
  · subst e
    rw [if_pos rfl, if_pos hj] at hi
    cases hi
    rw [Array.getElem?_setIfInBounds_self]; simp [hoff]
  · rw [if_neg e] at hi
    rw [Array.getElem?_setIfInBounds_ne (by omega)]
    exact h5 i v hi
theorem flat_setO {α : Type} {enc : α → List Value} {k : Nat} (he : ∀ a, (enc a).length = k) : ∀ (l : List α) (i r : Nat) (x x' : α) (u : Value), l[i]? = some x → r < k → enc x' = (enc x).set r u → (l.flatMap enc).set (i * k + r) u = (l.set i x').flatMap enc
  | [], i, r, x, x', u, h, _, _ => by cases i <;> cases h
  | b :: l, 0, r, x, x', u, h, hr, hx => by
    cases h
    simp only [List.flatMap_cons, List.set_cons_zero]
    rw [List.set_append_left _ _ (by rw [he]; omega), hx, Nat.zero_mul, Nat.zero_add]
  | b :: l, i + 1, r, x, x', u, h, hr, hx => by
    simp only [List.flatMap_cons, List.set_cons_succ]
    have e : (i + 1) * k + r - (enc b).length = i * k + r := by rw [he, Nat.add_mul]; omega
    rw [List.set_append_right _ _ (by rw [he, Nat.add_mul]; omega), e, flat_setO he l i r x x' u (by simpa using h) hr hx]

abbrev ShAt := RowAt 76 5 opnC
abbrev ShPost := RowPost 76 5 opnC
/-- Access and deny of one open stored anew. -/
theorem row_two {S Ss : Nat → Prop} {w0 w w2 w4 : World} {b g off cap i : Nat} {l : List Opn} {x : Opn} {T : TypeId} {A D : Int} (h0 : Chg Nil w0 w) (hb : w.heap[b]? = some (.cells #[.slice (some ⟨g, off, none⟩) l.length cap] T (0, 0))) (hS : S b) (hlt : ∀ x, S x → x < w0.heap.size) (hnb : ¬ Ss b) (hsub : ∀ x, Ss x → S x)
    (hs : SliceAt w (.slice (some ⟨g, off, none⟩) l.length cap) 76 5 l.length (l.flatMap opnC) Ss) (hx : l[i]? = some x) (c1 : Chg Nil (w.setCell ⟨g, off + i * 5 + 3, none⟩ (.int .i64 A)) w2) (c3 : Chg Nil (w2.setCell ⟨g, off + i * 5 + 4, none⟩ (.int .i64 D)) w4) :
    ShPost S w0 b (l.set i (x.1, x.2.1, A, D)) w4 := by
  have hil := (List.getElem?_eq_some_iff.1 hx).1
  have hlen : (l.flatMap opnC).length = l.length * 5 := flat_len opnC opnC_len l
  have hmul : (i + 1) * 5 ≤ l.length * 5 := Nat.mul_le_mul_right _ hil
  have hg : Ss g := by
    obtain ⟨_, _, _, _, e, _, _, _, _, _, h, _⟩ := hs.place (by omega)
    cases e; exact h
  have hgb : ¬ (· = g) b := fun e => hnb (by have : b = g := e; subst this; exact hg)
  have q1 : Chg (· = g) w (w.setCell ⟨g, off + i * 5 + 3, none⟩ (.int .i64 A)) := (Chg.refl (· = g) w).setCell (p := ⟨g, off + i * 5 + 3, none⟩) (.inr rfl) _
  have q3 : Chg (· = g) w2 (w2.setCell ⟨g, off + i * 5 + 4, none⟩ (.int .i64 D)) := (Chg.refl (· = g) w2).setCell (p := ⟨g, off + i * 5 + 4, none⟩) (.inr rfl) _
  have cA : Chg (· = g) w w2 := q1.trans c1 (fun _ _ f => f.elim)
  have cB : Chg (· = g) w w4 := (cA.then q3).trans c3 (fun _ _ f => f.elim)
  have s1 := hs.setOne (j := i * 5 + 3) (by omega) (.int .i64 A)
  rw [flat_setO opnC_len l i 3 x (x.1, x.2.1, A, x.2.2.2) _ hx (by decide) rfl, ← Nat.add_assoc] at s1
  have s2 := s1.keep c1 (fun _ _ f => f)
  have hx2 : (l.set i (x.1, x.2.1, A, x.2.2.2))[i]? = some (x.1, x.2.1, A, x.2.2.2) := by rw [List.getElem?_set_self hil]
  have s3 := s2.setOne (j := i * 5 + 4) (by rw [flat_len opnC opnC_len, List.length_set]; omega) (.int .i64 D)
  rw [flat_setO opnC_len _ i 4 _ (x.1, x.2.1, A, D) _ hx2 (by decide) rfl, ← Nat.add_assoc, List.set_set] at s3
  have s4 := s3.keep c3 (fun _ _ f => f)
  have hz := cB.size
  have hz0 := h0.size
  refine ⟨h0.nil.trans cB (fun x _ e => by have : x = g := e; subst this; exact hsub _ hg), S, ⟨⟨_, T, Ss, cB.keep hb hgb, ?_, hnb, hsub⟩, hS, fun x hx => by have := hlt x hx; omega⟩, Grow.refl _ _ _⟩
  rw [List.length_set]; exact s4

theorem first_some {α : Type} [Inhabited α] {p : α → Bool} {l : List α} {i : Nat} (hf : l.findIdx? p = some i) : firstAt p l = i := by
  rcases first_cases p l with ⟨_, h, _⟩ | ⟨i', x, h1, h2, _⟩
  · rw [h] at hf; cases hf
  · rw [h2] at hf; cases hf; exact h1
theorem first_none {α : Type} [Inhabited α] {p : α → Bool} {l : List α} (hf : l.findIdx? p = none) : firstAt p l = -1 := by
  rcases first_cases p l with ⟨h, _, _⟩ | ⟨i', x, h1, h2, _⟩
  · exact h
  · rw [h2] at hf; cases hf

theorem entersFind : ∀ args w, (callFunc 177 args).run Tryd.prog w = .ok (.enter 177 args) w := enters_of Tryd.func177 (by kernel_rfl) rfl
theorem entersOpen : ∀ args w, (callFunc 113 args).run Tryd.prog w = .ok (.enter 113 args) w := enters_of Tryd.func113 (by kernel_rfl) rfl
theorem entersAnyone : ∀ args w, (callFunc 136 args).run Tryd.prog w = .ok (.enter 136 args) w := enters_of Tryd.func136 (by kernel_rfl) rfl

set_option maxHeartbeats 2000000 in
set_option maxRecDepth 100000 in
theorem find_none (n g o : Int) (b : Nat) (l : List Opn) (v : Value) (T : TypeId) (Ss : Nat → Prop) (w : World) (hb : w.heap[b]? = some (.cells #[v] T (0, 0))) (hs : SliceAt w v 76 5 l.length (l.flatMap opnC) Ss) (hf : l.findIdx? (mineP (n, g) o) = none) :
    Calls Tryd.prog 114 #[.pointer (some ⟨b, 0, none⟩), .agg #[.int .i64 n, .int .i64 g], .int .i64 o] w fun e w' => e = .returned (.pointer none) ∧ Chg Nil w w' := by
  have ha := ((Chg.refl Nil w).alloc (.cells #[.int .i64 n, .int .i64 g] 29)).alloc (.cells #[.int .i64 o] 3)
  have hbh := block_alloc_old (block_alloc w (.cells #[.int .i64 n, .int .i64 g] 29)) (.cells #[.int .i64 o] 3)
  have hbo := block_alloc (w.alloc (.cells #[.int .i64 n, .int .i64 g] 29)) (.cells #[.int .i64 o] 3)
  simp only [World.size_alloc] at hbo
  have HI := Lib.hid (indexOpen_any (mineP (n, g) o) 177 #[.pointer (some ⟨w.heap.size, 0, none⟩), .pointer (some ⟨w.heap.size + 1, 0, none⟩)] entersFind _ (hs.keep ha (fun _ _ f => f)) (fun W x hW => find1_any n g o x w.heap.size (w.heap.size + 1) _ _ W (hW.keep hbh (fun f => f)) (hW.keep hbo (fun f => f))))
  rw [first_none hf] at HI
  have HA := Lib.hid ha
  have b0 := cell_of (ha.keep hb (fun f => f)) 0
  have gb := lt_of_block hb
  simp at b0
  clear hf hs hb ha hbh hbo
  go_enter Tryd.func114, Tryd.ntmps114
  go_wp2_with fail
  refine HI.out.mono ?_
  rintro e w2 ⟨rfl, hc2⟩
  go_wp2_with fail
  go_ret
  exact ⟨rfl, HA.out.then hc2⟩
set_option maxHeartbeats 2000000 in
set_option maxRecDepth 100000 in
theorem find_some (n g o : Int) (b : Nat) (l : List Opn) (i g0 off cap : Nat) (T : TypeId) (Ss : Nat → Prop) (w : World) (hb : w.heap[b]? = some (.cells #[.slice (some ⟨g0, off, none⟩) l.length cap] T (0, 0))) (hs : SliceAt w (.slice (some ⟨g0, off, none⟩) l.length cap) 76 5 l.length (l.flatMap opnC) Ss) (hf : l.findIdx? (mineP (n, g) o) = some i) :
    Calls Tryd.prog 114 #[.pointer (some ⟨b, 0, none⟩), .agg #[.int .i64 n, .int .i64 g], .int .i64 o] w fun e w' => e = .returned (.pointer (some ⟨g0, off + i * 5, none⟩)) ∧ Chg Nil w w' := by
  have ha := ((Chg.refl Nil w).alloc (.cells #[.int .i64 n, .int .i64 g] 29)).alloc (.cells #[.int .i64 o] 3)
  have hbh := block_alloc_old (block_alloc w (.cells #[.int .i64 n, .int .i64 g] 29)) (.cells #[.int .i64 o] 3)
  have hbo := block_alloc (w.alloc (.cells #[.int .i64 n, .int .i64 g] 29)) (.cells #[.int .i64 o] 3)
  simp only [World.size_alloc] at hbo
  have HI := Lib.hid (indexOpen_any (mineP (n, g) o) 177 #[.pointer (some ⟨w.heap.size, 0, none⟩), .pointer (some ⟨w.heap.size + 1, 0, none⟩)] entersFind _ (hs.keep ha (fun _ _ f => f)) (fun W x hW => find1_any n g o x w.heap.size (w.heap.size + 1) _ _ W (hW.keep hbh (fun f => f)) (hW.keep hbo (fun f => f))))
  rw [first_some hf] at HI
  have HA := Lib.hid ha
  have HB := Lib.hid hb
  have b0 := cell_of (ha.keep hb (fun f => f)) 0
  have gb := lt_of_block hb
  have hil : i < l.length := (List.findIdx?_eq_some_iff_getElem.1 hf).1
  have hiz : (i : Int) < (l.length : Int) := by omega
  have hi0 : ¬ (i : Int) < 0 := by omega
  simp at b0
  clear hf hs hb ha hbh hbo
  go_enter Tryd.func114, Tryd.ntmps114
  go_wp2_with fail
  refine HI.out.mono ?_
  rintro e w2 ⟨rfl, hc2⟩
  have b2 := cell_of (hc2.keep (HA.out.keep HB.out (fun f => f)) (fun f => f)) 0
  simp at b2
  clear b0
  go_wp2_with fail
  go_ret
  exact ⟨rfl, HA.out.then hc2⟩
end Go.Proofs.YtofhnglgebllbaaDoor
