/- Loops over maps by what is owned: a map that is being gone through (rIter). Over any program, no condition. -/
import Derived.Test.YtgebinfbbopnlaaDoorOp7
import Derived.Test.YtgebinfbbopnlaaDoorBlock
namespace Go.Proofs.YtgebinfbbopnlaaDoor
open Go.RowKit
set_option linter.unusedSectionVars false
set_option linter.unusedVariables false
set_option linter.unusedSimpArgs false

open Go.MapKept
section
variable {α : Type} [DecidableEq α] {f : α → Value} {kv : List (α × Value)} {w : World} {P : Program}
/-- The entry that has come last. -/
def IterE (P : Program) (w : World) (b r : Nat) (u : Value) : Prop := ∀ w' : World, w'.heap[b]? = w.heap[b]? → w'.heap[r]? = w.heap[r]? → (Instr.entry (.pointer (some ⟨r, 0, none⟩))).run P w' = .ok u w'
theorem run_nextE {b r : Nat} {vis : α → Bool} (h : IterA w b r f kv vis) (inj : ∀ a b, f a = f b → a = b) (ty : TypeId) :
    ((∀ p ∈ kv, vis p.1 = true) ∧ (Instr.next (.pointer (some ⟨r, 0, none⟩)) false ty).run P w = .ok (.tuple #[.bool false]) w) ∨
    ∃ k v w', (k, v) ∈ kv ∧ vis k = false ∧ (Instr.next (.pointer (some ⟨r, 0, none⟩)) false ty).run P w = .ok (.tuple #[.bool true, f k, v]) w' ∧
      IterA w' b r f kv (fun x => vis x || decide (x = k)) ∧ Chg (· = r) w w' ∧ w'.heap.size = w.heap.size ∧ IterE P w' b r (.tuple #[f k, v]) := by
  have hne := h.lt.2.2
  obtain ⟨es, clock, since, seen, c0, hb, he, hs, hr, hold, hsc, hsk, hvis⟩ := h
  have hst := (stamped_iff es clock).1 hs
  have memkv : ∀ x ∈ es.toList, ∃ k, (k, x.val) ∈ kv ∧ x.key = f k := fun x hx => by
    have : (x.key, x.val) ∈ kv.map (fun p => (f p.1, p.2)) := by rw [← he]; exact List.mem_map.2 ⟨x, hx, rfl⟩
    obtain ⟨p, hp, e⟩ := List.mem_map.1 this
    simp only [Prod.mk.injEq] at e
    exact ⟨p.1, by rw [← e.2]; exact hp, e.1.symm⟩
  rcases run_next_at (P := P) w ty r b since c0 seen es clock hr hb hold hsc with ⟨h0, hrun⟩ | ⟨e, hem', w1, hal, hrun⟩
  · left
    refine ⟨fun p hp => ?_, hrun⟩
    have : (f p.1, p.2) ∈ es.toList.map (fun e => (e.key, e.val)) := by rw [he]; exact List.mem_map.2 ⟨p, hp, rfl⟩
    obtain ⟨x, hx, ex⟩ := List.mem_map.1 this
    simp only [Prod.mk.injEq] at ex
    rw [hvis x hx p.1 ex.1]
    exact all_seen es seen h0 x hx
  · right
    obtain ⟨hem, hes⟩ := mem_left hem'
    obtain ⟨k, hk, hkey⟩ := memkv e hem
    have hr1 : w1.heap[r]? = some (.mapIter (some b) since seen c0) := by rcases hal with rfl | rfl <;> exact hr
    have hb1 : w1.heap[b]? = some (.map es clock) := by rcases hal with rfl | rfl <;> exact hb
    have hset := heap_set (o' := .mapIter (some b) since (seen.push e.born) clock) hr1
    have hb' : (ChangeMaps.setBlock w1 r (.mapIter (some b) since (seen.push e.born) clock)).heap[b]? = some (.map es clock) := (hset.2 b (fun e1 => hne e1)).trans hb1
    refine ⟨k, e.val, _, hk, by rw [hvis e hem k hkey]; exact hes, by rw [← hkey]; exact hrun,
      ⟨es, clock, since, seen.push e.born, clock, hb', he, hs, hset.1, hold, hsk, hsk, fun x hx j hj => ?_⟩, ?_, ?_, fun w2 q1 q2 => by rw [← hkey]; exact run_entry_at _ r b since seen es clock e (q2.trans hset.1) (q1.trans hb') hem hst.2.1⟩
    · show (vis j || decide (j = k)) = _
      rw [hvis x hx j hj, contains_push]
      congr 1
      by_cases hbe : x.born = e.born
      · have := born_inj hst.2.1 hx hem hbe
        subst this
        have : j = k := inj _ _ (hj.symm.trans hkey)
        simp [this]
      · have hjk : j ≠ k := fun ejk => by
          subst ejk
          have := entry_eq_of_key hst.2.2 hx hem (hj.trans hkey.symm)
          subst this
          exact hbe rfl
        simp [hbe, hjk]
    · rcases hal with rfl | rfl <;> exact ⟨rfl, rfl, rfl, by simp [ChangeMaps.setBlock], fun i _ hi => hset.2 i (fun e1 => hi e1)⟩
    · rcases hal with rfl | rfl <;> simp [ChangeMaps.setBlock]
end
section
variable {α : Type} [DecidableEq α] {P : Program} {a : Act} {w w0 : World} {En : Ent} {L M : List Res} {Ka : Act → World → Prop} {Q : Exit → Act → World → Prop} {ops : Array Oper} {rest : List Oper} {K E : TypeId} {f : α → Value} {kv : List (α × Value)}
variable {dst : Option Tmp} {m x v : Operand} {T ty : TypeId} {pos : String} {after : Array Edge} {g : Option (Nat × Bool)} {b r : Nat} {vis : α → Bool}
/-- Block r goes through the map at block b; vis: the keys that have come. -/
def rIter (b r : Nat) (f : α → Value) (kv : List (α × Value)) (vis : α → Bool) : Res :=
  ⟨true, fun x => x = b ∨ x = r, fun w => IterA w b r f kv vis, fun w w' h _ hb => by
    obtain ⟨es, clock, since, seen, c0, h1, h2, h3, h4, rest⟩ := h
    exact ⟨es, clock, since, seen, c0, (hb b (.inl rfl)).trans h1, h2, h3, (hb r (.inr rfl)).trans h4, rest⟩, fun w x h hx => by
    obtain ⟨h1, h2, _⟩ := h.lt
    rcases hx with rfl | rfl
    · exact h1
    · exact h2⟩
/-- How many are still to come. -/
def lefts (vis : α → Bool) (kv : List (α × Value)) : Nat := (kv.filter fun p => !vis p.1).length
theorem lefts_lt {k : α} {l : Value} : ∀ {kv : List (α × Value)}, (k, l) ∈ kv → vis k = false → lefts (fun x => vis x || decide (x = k)) kv < lefts vis kv
  | [], h, _ => by cases h
  | p :: r, h, hk => by
    have mono : ∀ kv : List (α × Value), lefts (fun x => vis x || decide (x = k)) kv ≤ lefts vis kv := by
      intro kv
      unfold lefts
      rw [← List.countP_eq_length_filter, ← List.countP_eq_length_filter]
      exact List.countP_mono_left (fun p _ hp => by simp at hp ⊢; exact hp.1)
    rcases List.mem_cons.1 h with rfl | h
    · have := mono r
      simp only [lefts, List.filter_cons, hk, Bool.false_or, decide_true, Bool.not_true, Bool.not_false, if_true, Bool.false_eq_true, if_false, List.length_cons] at this ⊢
      omega
    · have := lefts_lt h hk
      unfold lefts at this ⊢
      simp only [List.filter_cons]
      cases hv : vis p.1 <;> by_cases e : p.1 = k <;> simp [e, hv] at this ⊢ <;> omega
/-- .. and u: the entry that has come last. -/
def rIterE (P : Program) (b r : Nat) (f : α → Value) (kv : List (α × Value)) (vis : α → Bool) (u : Value) : Res :=
  ⟨true, fun x => x = b ∨ x = r, fun w => IterA w b r f kv vis ∧ IterE P w b r u, fun w w' h hs hb =>
    ⟨(rIter b r f kv vis).stab w w' h.1 hs hb, fun w2 h1 h2 => h.2 w2 (h1.trans (hb b (.inl rfl))) (h2.trans (hb r (.inr rfl)))⟩, fun w x h hx => (rIter b r f kv vis).alive w x h.1 hx⟩
theorem g_entry {u : Value} (hx : a.eval m = .pointer (some ⟨r, 0, none⟩)) (i : Nat) (hi : L[i]? = some (rIterE P b r f kv vis u)) : Gives P w0 En L ⟨dst, .entry m, ty, pos, after, g⟩ a u := fun w ho => by
  have hm : IterA w b r f kv vis ∧ IterE P w b r u := ho.fact i hi
  simp [execOp, hx, hm.2 w rfl rfl, Result.andThen]
theorem Own.iterForget {u : Value} (h : Own w0 En L w) (i : Nat) (hi : L[i]? = some (rIterE P b r f kv vis u)) : Own w0 En (L.set i (rIter b r f kv vis)) w :=
  h.upd i hi rfl (Chg.refl _ _) (h.fact i hi : _ ∧ _).1 fun y hy => .inl hy
theorem op_range (hx : (a.eval m, P.underlying T) = (.map (some b), some (.map K E))) (h : Own w0 En L w) (i : Nat) (hi : L[i]? = some (rMap true b f kv))
    (hK : ∀ r w', Own w0 En (L.set i (rIter b r f kv (fun _ => false))) w' → Ka (a.put dst (.pointer (some ⟨r, 0, none⟩))) w') : Oper.wp P ⟨dst, .range T m, ty, pos, after, g⟩ a w Ka Q := by
  simp only [Prod.mk.injEq] at hx
  have hm : MapA w b f kv := h.fact i hi
  obtain ⟨w', hrun, r1, r2, r3⟩ := run_rangeA hx.2 hm
  unfold Oper.wp
  simp [execOp, hx.1, hrun, Result.andThen]
  exact hK _ _ (h.upd i hi rfl (r2.mono fun _ _ f => f.elim) r1 fun y hy => hy.imp (fun e => e) (fun e => Nat.le_of_eq e.symm))
theorem op_next (inj : ∀ a b, f a = f b → a = b) (hx : a.eval m = .pointer (some ⟨r, 0, none⟩)) (h : Own w0 En L w) (i : Nat) (hi : L[i]? = some (rIter b r f kv vis))
    (hDone : (∀ p ∈ kv, vis p.1 = true) → Own w0 En L w → Ka (a.put dst (.tuple #[.bool false])) w)
    (hMore : ∀ k v w', (k, v) ∈ kv → vis k = false → Own w0 En (L.set i (rIterE P b r f kv (fun x => vis x || decide (x = k)) (.tuple #[f k, v]))) w' → Ka (a.put dst (.tuple #[.bool true, f k, v])) w') : Oper.wp P ⟨dst, .next m false, ty, pos, after, g⟩ a w Ka Q := by
  have hm : IterA w b r f kv vis := h.fact i hi
  unfold Oper.wp
  rcases run_nextE (P := P) hm inj ty with ⟨h0, hrun⟩ | ⟨k, v, w', hk, hv, hrun, hit, hc, hz, hen⟩
  · simp [execOp, hx, hrun, Result.andThen]
    exact hDone h0 h
  · simp [execOp, hx, hrun, Result.andThen]
    exact hMore k v w' hk hv (h.upd i hi rfl (hc.mono fun _ _ e => .inr e) ⟨hit, hen⟩ fun y hy => .inl hy)
/-- The map again. -/
theorem Own.iterEnd (h : Own w0 En L w) (i : Nat) (hi : L[i]? = some (rIter b r f kv vis)) : Own w0 En (L.set i (rMap true b f kv)) w :=
  h.upd i hi rfl (Chg.refl _ _) (h.fact i hi : IterA w b r f kv vis).map fun y hy => .inl (.inl hy)
theorem sq_range (hg : Region.wanted ⟨dst, .range T m, ty, pos, after, g⟩ (yielded ops a.tmps) = true) (hx : (a.eval m, P.underlying T) = (.map (some b), some (.map K E))) (h : Own w0 En L w) (i : Nat) (hi : L[i]? = some (rMap true b f kv))
    (hK : ∀ r w', Own w0 En (L.set i (rIter b r f kv (fun _ => false))) w' → LW P ops Q rest (a.put dst (.pointer (some ⟨r, 0, none⟩))) w') : LW P ops Q (⟨dst, .range T m, ty, pos, after, g⟩ :: rest) a w := ⟨sqg hg (op_range hx h i hi fun r w' h => (hK r w' h).out)⟩
theorem sq_next (hg : Region.wanted ⟨dst, .next m false, ty, pos, after, g⟩ (yielded ops a.tmps) = true) (inj : ∀ a b, f a = f b → a = b) (hx : a.eval m = .pointer (some ⟨r, 0, none⟩)) (h : Own w0 En L w) (i : Nat) (hi : L[i]? = some (rIter b r f kv vis))
    (hDone : (∀ p ∈ kv, vis p.1 = true) → Own w0 En L w → LW P ops Q rest (a.put dst (.tuple #[.bool false])) w)
    (hMore : ∀ k v w', (k, v) ∈ kv → vis k = false → Own w0 En (L.set i (rIterE P b r f kv (fun x => vis x || decide (x = k)) (.tuple #[f k, v]))) w' → LW P ops Q rest (a.put dst (.tuple #[.bool true, f k, v])) w') : LW P ops Q (⟨dst, .next m false, ty, pos, after, g⟩ :: rest) a w :=
  ⟨sqg hg (op_next inj hx h i hi (fun h0 h => (hDone h0 h).out) fun k v w' h1 h2 h => (hMore k v w' h1 h2 h).out)⟩
end
end Go.Proofs.YtgebinfbbopnlaaDoor
