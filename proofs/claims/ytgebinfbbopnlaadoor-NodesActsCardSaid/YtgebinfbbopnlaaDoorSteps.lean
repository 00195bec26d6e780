/- Appends, a map's stores and deletes inside a region that draws its order; a slice without its first element. -/
import Derived.Test.YtgebinfbbopnlaaDoorSlice
import Derived.Deep.RegionHeld3
import Derived.StillTailTactics
namespace Go.Proofs.YtgebinfbbopnlaaDoor
open Go.RowKit
set_option linter.unusedSectionVars false
set_option linter.unusedVariables false
set_option linter.unusedSimpArgs false
section
variable {P : Program} {w : World} {ops : Array Oper} {o : Oper} {a : Act} {K : Act → World → Prop} {Q : Exit → Act → World → Prop} {Eo : Prop}
theorem step_appendS (hg : o.guard = none) (s x : Operand) (T : TypeId) (hop : o.op = .call { callee := .builtin .append, args := #[s, x], argTypes := #[T, T] })
    {E : TypeId} {z : Value} {size bytes : Nat} (ht : P.underlying T = some (.slice E)) (hinfo : (P.info? E).map (fun i => (i.zero, i.size, i.bytes)) = some (some z, size, bytes)) (hzs : z.cells.size = size) (hsz : 0 < size)
    {v : Value} (hv : a.eval s = v) {n : Nat} {xs : List Value} {S : Nat → Prop} (h : SliceAt w v E size n xs S) {ad : Addr} {m c : Nat} (hx : a.eval x = .slice (some ad) m c) (news : List Value) (hl : news.length = m * size) (hnews : ∀ j u, news[j]? = some u → w.cell? (ad.add j) = some u) (h1 : ∀ u ∈ news, u.oneCell' = true)
    (h63 : n + m ≤ maxLen) (hb : (n + m) * bytes ≤ 140737488355328)
    (hK : ∀ v' w' S', SliceAt w' v' E size (n + m) (xs ++ news) S' → Chg S w w' → Grow S S' w w' → K (a.put o.dst v') w') :
    if Region.wanted o (yielded ops a.tmps) = true then Oper.wp P o a w K Q else Eo := by
  have hw : Region.wanted o (yielded ops a.tmps) = true := by simp [Region.wanted, hg]
  rw [if_pos hw]
  obtain ⟨v', w', S', r, h2, h3, h4⟩ := run_appendS (ty := o.type) (c := c) ht hinfo hzs hsz h hl hnews h1 h63 hb
  unfold Oper.wp
  simp [execOp, hop, resolve, invoke, builtin, hv, hx, r, Result.andThen]
  exact hK v' w' S' h2 h3 h4
variable {α : Type} [DecidableEq α] {Kt E : TypeId} {f : α → Value} {kv : List (α × Value)}
theorem upon_mapUpdateA {next : Act → World → Prop} {T : TypeId} (ht : P.underlying T = some (.map Kt E)) (F : KeyFn P Kt f)
    {r : Nat} (hM : MapA w r f kv) (k : α) {x val : Value} (hx : x = f k)
    (hK : ∀ w', MapA w' r f (aput kv k val) → Chg (· = r) w w' → w'.heap.size = w.heap.size → next (a.put o.dst undef) w') :
    Oper.upon P o a next Q (((Instr.mapUpdate T (.map (some r)) x val).run P w).andThen fun _ w' => .ok .skip w') := by
  subst hx
  obtain ⟨w', hr, h1, h2, h3⟩ := hM.run_update F ht k val
  rw [hr]
  exact hK w' h1 h2 h3
theorem step_deleteA (hg : o.guard = none) (m x : Operand) (T Ky : TypeId) (hop : o.op = Op.call { callee := .builtin .delete, args := #[m, x], argTypes := #[T, Ky] }) (ht : P.underlying T = some (.map Kt E)) (F : KeyFn P Kt f)
    (r : Nat) (hm : a.eval m = .map (some r)) (hM : MapA w r f kv) (k : α) (hx : a.eval x = f k)
    (hK : ∀ w', MapA w' r f (adel kv k) → Chg (· = r) w w' → w'.heap.size = w.heap.size → K (a.put o.dst (.tuple #[])) w') :
    if Region.wanted o (yielded ops a.tmps) = true then Oper.wp P o a w K Q else Eo := by
  have hw : Region.wanted o (yielded ops a.tmps) = true := by simp [Region.wanted, hg]
  rw [if_pos hw]
  obtain ⟨w', hr, h1, h2, h3⟩ := hM.run_delete (Kt := Ky) (ty := o.type) F ht k
  unfold Oper.wp
  simp [execOp, hop, resolve, invoke, builtin, hm, hx, hr, Result.andThen]
  exact hK w' h1 h2 h3
end

/-- A slice without its first element. -/
theorem SliceAt.tail {α : Type} {enc : α → List Value} {w : World} {g off n cap E size : Nat} {l : List α} {S : Nat → Prop} (he : ∀ a, (enc a).length = size) (hn : 1 ≤ n)
    (h : SliceAt w (.slice (some ⟨g, off, none⟩) n cap) E size n (l.flatMap enc) S) : SliceAt w (.slice (some ⟨g, off + size, none⟩) (n - 1) (cap - 1)) E size (n - 1) (l.tail.flatMap enc) S := by
  obtain ⟨h1, ⟨e, _⟩ | ⟨g', off', cap', cs, e, hb, h2, h3, h4, h5, h6⟩⟩ := h
  · cases e
  cases e
  have hle : 1 * size ≤ n * size := Nat.mul_le_mul_right _ hn
  have hle2 : n * size ≤ cap * size := Nat.mul_le_mul_right _ h2
  match l, h1, h5 with
  | [], h1, h5 =>
    simp only [List.flatMap_nil, List.length_nil, Nat.one_mul] at h1 hle
    have hs0 : size = 0 := by omega
    subst hs0
    exact ⟨by simp, .inr ⟨g, off, cap - 1, cs, rfl, hb, by omega, by omega, by omega, fun j u hj => (by cases hj), h6⟩⟩
  | x :: l, h1, h5 =>
    simp only [List.flatMap_cons, List.length_append, he] at h1
    refine ⟨by simp only [List.tail_cons, Nat.sub_mul]; omega, .inr ⟨g, off + size, cap - 1, cs, rfl, hb, by omega, by omega, by rw [Nat.sub_mul]; omega, fun j u hj => ?_, h6⟩⟩
    have := h5 (size + j) u (by
      simp only [List.flatMap_cons]
      rw [List.getElem?_append_right (by rw [he]; omega), he, Nat.add_sub_cancel_left]; exact hj)
    rw [Nat.add_assoc]; exact this
end Go.Proofs.YtgebinfbbopnlaaDoor
