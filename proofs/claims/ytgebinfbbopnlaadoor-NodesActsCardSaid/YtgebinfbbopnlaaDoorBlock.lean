/- Whole arrays stored into a block that is known whole, and loaded out of it; loops over a map told by its entries. Over any program. -/
import Derived.Test.YtgebinfbbopnlaaDoorSlice
import Derived.Deep.MidRow
import Derived.Maps.RangeRun
import Derived.Maps.RangeWalk
namespace Go.Proofs.YtgebinfbbopnlaaDoor
open Go.RowKit Go.MapKept
set_option linter.unusedSectionVars false
set_option linter.unusedVariables false
set_option linter.unusedSimpArgs false

theorem rangeAt_of {w : World} {b : Nat} {cs : List Value} {t : TypeId} {f : Nat × Nat} (h : w.heap[b]? = some (.cells cs.toArray t f)) : w.rangeAt b 0 cs := fun j v hv => by
  rw [cell_of h]; simpa using hv
theorem there_of {w : World} {b : Nat} {c : Array Value} {t : TypeId} (h : w.heap[b]? = some (.cells c t (0, 0))) : w.there b 0 c.size := fun j hj => by
  rw [cell_of h, free_of h]
  simp [hj]

theorem block_setAll {w : World} {b : Nat} {c0 : Array Value} {t : TypeId} {cs : List Value} (hb : w.heap[b]? = some (.cells c0 t (0, 0))) (hc0 : c0.size = cs.length) : (w.setCells b 0 cs).heap[b]? = some (.cells cs.toArray t (0, 0)) := by
  obtain ⟨cs', e1, e2, e3, _⟩ := block_setCells cs 0 w c0 hb
  have e : cs' = cs.toArray := by
    apply Array.ext_getElem?
    intro j
    rcases Nat.lt_or_ge j cs.length with hj | hj
    · have := e3 j hj (by omega)
      rw [Nat.zero_add] at this
      rw [this]; simp
    · rw [Array.getElem?_eq_none (by omega), Array.getElem?_eq_none (by simpa using hj)]
  rw [← e]; exact e1
/-- The tail of a row set anew. -/
theorem block_setTail {w : World} {b r : Nat} {cs vs : List Value} {t : TypeId} (hb : w.heap[b]? = some (.cells cs.toArray t (0, 0))) (hr : r + vs.length = cs.length) : (w.setCells b r vs).heap[b]? = some (.cells (cs.take r ++ vs).toArray t (0, 0)) := by
  obtain ⟨cs', e1, e2, e3, e4⟩ := block_setCells vs r w cs.toArray hb
  have e : cs' = (cs.take r ++ vs).toArray := by
    apply Array.ext_getElem?
    intro j
    simp only [List.size_toArray] at e2 e3
    rw [show ((cs.take r ++ vs).toArray)[j]? = (cs.take r ++ vs)[j]? by simp]
    rcases Nat.lt_or_ge j r with hj | hj
    · rw [e4 j (.inl hj), List.getElem?_append_left (by rw [List.length_take]; omega), List.getElem?_take, if_pos hj]; simp
    · obtain ⟨i, rfl⟩ : ∃ i, j = r + i := ⟨j - r, by omega⟩
      have hl : (cs.take r).length = r := by rw [List.length_take]; omega
      rw [List.getElem?_append_right (by omega), hl, Nat.add_sub_cancel_left]
      rcases Nat.lt_or_ge i vs.length with hi | hi
      · exact e3 i hi (by omega)
      · rw [Array.getElem?_eq_none (by omega), List.getElem?_eq_none (by omega)]
  rw [← e]; exact e1

section
variable {P : Program} {ops : Array Oper} {rest : List Oper} {op : Oper} {a : Act} {w : World} {Q : Exit → Act → World → Prop}
theorem wpList_storeB (hgd : op.guard = none) (ty : TypeId) (x y : Operand) (ho : op.op = .store ty x y) (b : Nat) (cs : List Value) (n : Nat) (hx : a.eval x = .pointer (some ⟨b, 0, none⟩)) (hy : a.eval y = .agg cs.toArray)
    {c0 : Array Value} {t : TypeId} (hb : w.heap[b]? = some (.cells c0 t (0, 0))) (hc0 : c0.size = n) (hi : (P.info? ty).map (·.size) = some n) (hn : cs.length = n) (h1 : ∀ v ∈ cs, v.oneCell' = true)
    (h : ∀ w', w'.heap[b]? = some (.cells cs.toArray t (0, 0)) → Chg (· = b) w w' → w'.heap.size = w.heap.size → wpList P ops Q rest (a.put op.dst undef) w') : wpList P ops Q (op :: rest) a w := by
  subst hn
  have ht := there_of hb
  rw [hc0] at ht
  obtain ⟨cs', e1, e2, e3, _⟩ := block_setCells cs 0 w c0 hb
  have e : cs' = cs.toArray := by
    apply Array.ext_getElem?
    intro j
    rcases Nat.lt_or_ge j cs.length with hj | hj
    · have := e3 j hj (by omega)
      rw [Nat.zero_add] at this
      rw [this]; simp
    · rw [Array.getElem?_eq_none (by omega), Array.getElem?_eq_none (by simpa using hj)]
  subst e
  exact wpList_store_mid hgd ty x y ho b 0 cs.toArray hx hy (by simpa using ht) (by simpa using hi) (all_oneCell_toArray h1) (h _ e1 (chg_setCells _ _ _) (size_setCells' _ _ _))
theorem wpList_loadB (hgd : op.guard = none) (ty : TypeId) (x : Operand) (ho : op.op = .load ty x) (b : Nat) (cs : List Value) (n : Nat) (d : TypeDesc) (hx : a.eval x = .pointer (some ⟨b, 0, none⟩))
    {t : TypeId} {f : Nat × Nat} (hb : w.heap[b]? = some (.cells cs.toArray t f)) (hu : P.underlying ty = some d) (hd : d.isRow = true) (hi : (P.info? ty).map (·.size) = some n) (hn : cs.length = n)
    (h : wpList P ops Q rest (a.put op.dst (.agg cs.toArray)) w) : wpList P ops Q (op :: rest) a w :=
  wpList_load_mid hgd ty x ho b 0 hx cs d (rangeAt_of hb) hu hd (by rw [hn]; exact hi) h
end

/-! ### A loop over a map -/
section
variable {α : Type} [DecidableEq α] {f : α → Value} {kv : List (α × Value)} {w : World}
/-- Block r is an iterator over the map at block b, whose entries are kv; vis: the keys that have come. -/
def IterA (w : World) (b r : Nat) (f : α → Value) (kv : List (α × Value)) (vis : α → Bool) : Prop :=
  ∃ es clock since seen c0, w.heap[b]? = some (.map es clock) ∧ es.toList.map (fun e => (e.key, e.val)) = kv.map (fun p => (f p.1, p.2)) ∧ Stamped es clock ∧
    w.heap[r]? = some (.mapIter (some b) since seen c0) ∧ (∀ x ∈ es.toList, x.born < since) ∧ since ≤ c0 ∧ since ≤ clock ∧ ∀ x ∈ es.toList, ∀ k, x.key = f k → vis k = seen.contains x.born
theorem IterA.map {b r : Nat} {vis : α → Bool} (h : IterA w b r f kv vis) : MapA w b f kv := by
  obtain ⟨es, clock, _, _, _, h1, h2, h3, _⟩ := h
  exact ⟨es, clock, h1, h2, h3⟩
theorem IterA.keep {S : Nat → Prop} {w' : World} {b r : Nat} {vis : α → Bool} (h : IterA w b r f kv vis) (c : Chg S w w') (hb : ¬ S b) (hr : ¬ S r) : IterA w' b r f kv vis := by
  obtain ⟨es, clock, since, seen, c0, h1, h2, h3, h4, rest⟩ := h
  exact ⟨es, clock, since, seen, c0, c.keep h1 hb, h2, h3, c.keep h4 hr, rest⟩
theorem IterA.lt {b r : Nat} {vis : α → Bool} (h : IterA w b r f kv vis) : b < w.heap.size ∧ r < w.heap.size ∧ b ≠ r := by
  obtain ⟨es, clock, since, seen, c0, h1, h2, h3, h4, _⟩ := h
  refine ⟨lt_of_block h1, lt_of_block h4, fun e => ?_⟩
  subst e; rw [h1] at h4; cases h4

variable {P : Program} {K E : TypeId}
theorem run_rangeA {b : Nat} {T : TypeId} (ht : P.underlying T = some (.map K E)) (h : MapA w b f kv) :
    ∃ w', (Instr.range T (.map (some b))).run P w = .ok (.pointer (some ⟨w.heap.size, 0, none⟩)) w' ∧ IterA w' b w.heap.size f kv (fun _ => false) ∧ Chg Nil w w' ∧ w'.heap.size = w.heap.size + 1 := by
  obtain ⟨es, clock, hb, he, hs⟩ := h
  refine ⟨_, run_range_map w T K E b es clock ht hb, ⟨es, clock, clock, #[], clock, block_alloc_old hb _, he, hs, block_alloc _ _, hs.1, Nat.le_refl _, Nat.le_refl _, fun x _ k _ => by simp⟩, (Chg.refl Nil w).alloc _, by simp⟩

theorem run_nextA {b r : Nat} {vis : α → Bool} (h : IterA w b r f kv vis) (inj : ∀ a b, f a = f b → a = b) (ty : TypeId) :
    ((∀ p ∈ kv, vis p.1 = true) ∧ (Instr.next (.pointer (some ⟨r, 0, none⟩)) false ty).run P w = .ok (.tuple #[.bool false]) w) ∨
    ∃ k v w', (k, v) ∈ kv ∧ vis k = false ∧ (Instr.next (.pointer (some ⟨r, 0, none⟩)) false ty).run P w = .ok (.tuple #[.bool true, f k, v]) w' ∧
      IterA w' b r f kv (fun x => vis x || decide (x = k)) ∧ Chg (· = r) w w' ∧ w'.heap.size = w.heap.size ∧ (Instr.entry (.pointer (some ⟨r, 0, none⟩))).run P w' = .ok (.tuple #[f k, v]) w' := by
  have hne := h.lt.2.2
  obtain ⟨es, clock, since, seen, c0, hb, he, hs, hr, hold, hsc, hsk, hvis⟩ := h
  have hst := (stamped_iff es clock).1 hs
  have memkv : ∀ x ∈ es.toList, ∃ k, (k, x.val) ∈ kv ∧ x.key = f k := fun x hx => by
    have : (x.key, x.val) ∈ kv.map (fun p => (f p.1, p.2)) := by rw [← he]; exact List.mem_map.2 ⟨x, hx, rfl⟩
    obtain ⟨p, hp, e⟩ := List.mem_map.1 this
    simp only [Prod.mk.injEq] at e
    exact ⟨p.1, by rw [← e.2]; exact hp, e.1.symm⟩
  rcases run_next_at (P := P) w ty r b since c0 seen es clock hr hb hold hsc with ⟨h0, hrun⟩ | ⟨e, hem', w1, hal, hrun⟩
  · left
    refine ⟨fun p hp => ?_, hrun⟩
    have : (f p.1, p.2) ∈ es.toList.map (fun e => (e.key, e.val)) := by rw [he]; exact List.mem_map.2 ⟨p, hp, rfl⟩
    obtain ⟨x, hx, ex⟩ := List.mem_map.1 this
    simp only [Prod.mk.injEq] at ex
    rw [hvis x hx p.1 ex.1]
    exact all_seen es seen h0 x hx
  · right
    obtain ⟨hem, hes⟩ := mem_left hem'
    obtain ⟨k, hk, hkey⟩ := memkv e hem
    have hr1 : w1.heap[r]? = some (.mapIter (some b) since seen c0) := by rcases hal with rfl | rfl <;> exact hr
    have hb1 : w1.heap[b]? = some (.map es clock) := by rcases hal with rfl | rfl <;> exact hb
    have hset := heap_set (o' := .mapIter (some b) since (seen.push e.born) clock) hr1
    have hb' : (ChangeMaps.setBlock w1 r (.mapIter (some b) since (seen.push e.born) clock)).heap[b]? = some (.map es clock) := (hset.2 b (fun e1 => hne e1)).trans hb1
    refine ⟨k, e.val, _, hk, by rw [hvis e hem k hkey]; exact hes, by rw [← hkey]; exact hrun,
      ⟨es, clock, since, seen.push e.born, clock, hb', he, hs, hset.1, hold, hsk, hsk, fun x hx j hj => ?_⟩, ?_, ?_, by rw [← hkey]; exact run_entry_at _ r b since seen es clock e hset.1 hb' hem hst.2.1⟩
    · show (vis j || decide (j = k)) = _
      rw [hvis x hx j hj, contains_push]
      congr 1
      by_cases hbe : x.born = e.born
      · have := born_inj hst.2.1 hx hem hbe
        subst this
        have : j = k := inj _ _ (hj.symm.trans hkey)
        simp [this]
      · have hjk : j ≠ k := fun ejk => by
          subst ejk
          have := entry_eq_of_key hst.2.2 hx hem (hj.trans hkey.symm)
          subst this
          exact hbe rfl
        simp [hbe, hjk]
    · rcases hal with rfl | rfl <;> exact ⟨rfl, rfl, rfl, by simp [ChangeMaps.setBlock], fun i _ hi => hset.2 i (fun e1 => hi e1)⟩
    · rcases hal with rfl | rfl <;> simp [ChangeMaps.setBlock]

theorem run_deleteIter {b r : Nat} {vis : α → Bool} {T Kt ty : TypeId} (F : KeyFn P K f) (ht : P.underlying T = some (.map K E)) (h : IterA w b r f kv vis) (a : α) :
    ∃ w', (Builtin.delete_ #[T, Kt] ty #[.map (some b), f a]).run P w = .ok (.tuple #[]) w' ∧ IterA w' b r f (adel kv a) vis ∧ Chg (· = b) w w' ∧ w'.heap.size = w.heap.size := by
  have hne := h.lt.2.2
  obtain ⟨es, clock, since, seen, c0, hb, he, hs, hr, hold, hsc, hsk, hvis⟩ := h
  have hch : ∀ o : Obj, Chg (· = b) w { w with heap := w.heap.setIfInBounds b o } := fun o =>
    ⟨rfl, rfl, rfl, by simp, fun k _ hk => (heap_set (o' := o) hb).2 k hk⟩
  have hfd := F.find a es.toList kv w he
  cases hf : findA kv a 0 with
  | none =>
    obtain ⟨_, _, h3, _⟩ := findA_none hf
    have hr' : (Builtin.delete_ #[T, Kt] ty #[.map (some b), f a]).run P w = .ok (.tuple #[]) { w with heap := w.heap.setIfInBounds b (.map es clock) } := by
      simp only [Builtin.delete_, List.getElem?_toArray, List.getElem?_cons_zero, List.getElem?_cons_succ, Sem.run_bind, run_underlying ht, Result.andThen_ok, MapKept.run_getObj_map hb, F.chk, Sem.run_pure]
      rw [hfd, hf]
      simp only [Result.andThen_ok, Sem.run_bind]
      rw [MapKept.run_setObj_map _ hb]
      rfl
    exact ⟨_, hr', ⟨es, clock, since, seen, c0, (heap_set hb).1, by rw [h3]; exact he, hs, ((heap_set hb).2 r (Ne.symm hne)).trans hr, hold, hsc, hsk, hvis⟩, hch _, by simp⟩
  | some p =>
    obtain ⟨j, u⟩ := p
    obtain ⟨n, e0, h1, h2, _, h3⟩ := findA_some hf
    have e0' : j = n := by omega
    subst e0'
    have hl : es.size = kv.length := by simpa using congrArg List.length he
    have hj : j < es.size := by rw [hl]; exact (List.getElem?_eq_some_iff.1 h1).1
    have hsub : (es.eraseIdxIfInBounds j).toList = es.toList.eraseIdx j := by
      simp only [Array.eraseIdxIfInBounds, hj, dite_true, Array.toList_eraseIdx]
    have hr' : (Builtin.delete_ #[T, Kt] ty #[.map (some b), f a]).run P w = .ok (.tuple #[]) { w with heap := w.heap.setIfInBounds b (.map (es.eraseIdxIfInBounds j) clock) } := by
      simp only [Builtin.delete_, List.getElem?_toArray, List.getElem?_cons_zero, List.getElem?_cons_succ, Sem.run_bind, run_underlying ht, Result.andThen_ok, MapKept.run_getObj_map hb, F.chk, Sem.run_pure]
      rw [hfd, hf]
      simp only [Result.andThen_ok, Sem.run_bind]
      rw [MapKept.run_setObj_map _ hb]
      rfl
    have hmem : ∀ x ∈ (es.eraseIdxIfInBounds j).toList, x ∈ es.toList := fun x hx => by rw [hsub] at hx; exact (List.eraseIdx_sublist _ _).subset hx
    refine ⟨_, hr', ⟨es.eraseIdxIfInBounds j, clock, since, seen, c0, (heap_set hb).1, ?_, stamped_erase hs j, ((heap_set hb).2 r (Ne.symm hne)).trans hr, fun x hx => hold x (hmem x hx), hsc, hsk, fun x hx => hvis x (hmem x hx)⟩, hch _, by simp⟩
    rw [h3, hsub, map_erase, map_erase, he]

/-! ### At the operations -/
variable {ops : Array Oper} {rest : List Oper} {o : Oper} {a : Act} {Q : Exit → Act → World → Prop}
theorem wpList_rangeA (hg : o.guard = none) (m : Operand) (T : TypeId) (hop : o.op = Op.range T m) (K E : TypeId) (ht : P.underlying T = some (.map K E)) (b : Nat) (hm : a.eval m = .map (some b)) (h : MapA w b f kv)
    (hK : ∀ w', IterA w' b w.heap.size f kv (fun _ => false) → Chg Nil w w' → w'.heap.size = w.heap.size + 1 → wpList P ops Q rest (a.put o.dst (.pointer (some ⟨w.heap.size, 0, none⟩))) w') : wpList P ops Q (o :: rest) a w := by
  refine wpList_plain hg fun K' hK' => ?_
  obtain ⟨w', hrun, r1, r2, r3⟩ := run_rangeA ht h
  unfold Oper.wp
  simp [execOp, hop, hm, hrun, Result.andThen]
  exact hK' _ _ (hK w' r1 r2 r3)
theorem wpList_nextA (hg : o.guard = none) (it : Operand) (hop : o.op = Op.next it false) (b r : Nat) (hit : a.eval it = .pointer (some ⟨r, 0, none⟩)) (vis : α → Bool) (h : IterA w b r f kv vis) (inj : ∀ a b, f a = f b → a = b)
    (hDone : (∀ p ∈ kv, vis p.1 = true) → wpList P ops Q rest (a.put o.dst (.tuple #[.bool false])) w)
    (hMore : ∀ k v w', (k, v) ∈ kv → vis k = false → IterA w' b r f kv (fun x => vis x || decide (x = k)) → Chg (· = r) w w' → w'.heap.size = w.heap.size →
      (Instr.entry (.pointer (some ⟨r, 0, none⟩))).run P w' = .ok (.tuple #[f k, v]) w' → wpList P ops Q rest (a.put o.dst (.tuple #[.bool true, f k, v])) w') : wpList P ops Q (o :: rest) a w := by
  refine wpList_plain hg fun K' hK' => ?_
  unfold Oper.wp
  rcases run_nextA (P := P) h inj o.type with ⟨h0, hrun⟩ | ⟨k, v, w', hk, hv, hrun, hi, hc, hz, hen⟩
  · simp [execOp, hop, hit, hrun, Result.andThen]
    exact hK' _ _ (hDone h0)
  · simp [execOp, hop, hit, hrun, Result.andThen]
    exact hK' _ _ (hMore k v w' hk hv hi hc hz hen)
theorem wpList_deleteIter (hg : o.guard = none) (m x : Operand) (T Kt : TypeId) (hop : o.op = Op.call { callee := .builtin .delete, args := #[m, x], argTypes := #[T, Kt] }) (K E : TypeId) (ht : P.underlying T = some (.map K E)) (F : KeyFn P K f)
    (b r : Nat) (hm : a.eval m = .map (some b)) (vis : α → Bool) (h : IterA w b r f kv vis) (k : α) (hx : a.eval x = f k)
    (hK : ∀ w', IterA w' b r f (adel kv k) vis → Chg (· = b) w w' → w'.heap.size = w.heap.size → wpList P ops Q rest (a.put o.dst (.tuple #[])) w') : wpList P ops Q (o :: rest) a w := by
  refine wpList_plain hg fun K' hK' => ?_
  obtain ⟨w', hr, h1, h2, h3⟩ := run_deleteIter (Kt := Kt) (ty := o.type) F ht h k
  unfold Oper.wp
  simp [execOp, hop, resolve, invoke, builtin, hm, hx, hr, Result.andThen]
  exact hK' _ _ (hK w' h1 h2 h3)
end
end Go.Proofs.YtgebinfbbopnlaaDoor
