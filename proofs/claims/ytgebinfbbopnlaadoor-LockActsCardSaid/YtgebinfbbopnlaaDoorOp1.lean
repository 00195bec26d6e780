/- The operations' laws by what is owned (Own), in the text's order and in whatever order a region draws. Over any program, no condition. -/
import Derived.Test.YtgebinfbbopnlaaDoorOwn
import Derived.OrdersHeld
namespace Go.Proofs.YtgebinfbbopnlaaDoor
open Go.RowKit
set_option linter.unusedSectionVars false
set_option linter.unusedVariables false
set_option linter.unusedSimpArgs false

section
variable {P : Program} {a : Act} {w w0 : World} {E : Ent} {L : List Res} {K : Act → World → Prop} {Q : Exit → Act → World → Prop}

/-! ### One operation -/
/-- It yields v in whatever world. -/
theorem op_pure {o : Oper} {v : Value} (hv : ∀ w, (execOp a.eval o).run P w = .ok (.value v) w) (hK : K (a.put o.dst v) w) : o.wp P a w K Q := by
  unfold Oper.wp; rw [hv]; exact hK
/-- It makes a block. -/
theorem op_new {o : Oper} (mk : Nat → Value) (cs : List Value) (T : TypeId) (hrun : ∀ w, (execOp a.eval o).run P w = .ok (.value (mk w.heap.size)) (w.alloc (.cells cs.toArray T)))
    (h : Own w0 E L w) (hK : ∀ b w', Own w0 E (rCell true b cs T :: L) w' → K (a.put o.dst (mk b)) w') : o.wp P a w K Q := by
  unfold Oper.wp; rw [hrun]
  exact hK _ _ (h.push ((Chg.refl Nil w).alloc _) (block_alloc w _) (fun b hb => by have : b = w.heap.size := hb; omega))
def ldv (P : Program) (T : TypeId) (vs : List Value) : Option Value :=
  match P.underlying T with
  | some (.struct _) | some (.array _ _) => (P.info? T).bind fun i => if i.size = vs.length then some (.agg vs.toArray) else none
  | some _ => match vs with | [v] => some v | _ => none
  | none => none
theorem run_isAgg {T : TypeId} {d : TypeDesc} (h : P.underlying T = some d) : (isAgg T).run P w = .ok (match d with | .struct _ | .array _ _ => true | _ => false) w := by
  unfold isAgg
  simp only [Sem.run_bind, run_underlying h, Result.andThen_ok]
  cases d <;> rfl
theorem sizeOf_run {T : TypeId} {n : Nat} (h : (P.info? T).map (·.size) = some n) : (sizeOf T).run P w = .ok n w := by
  cases hi : P.info? T with
  | none => rw [hi] at h; cases h
  | some i =>
    rw [hi] at h
    simp only [Option.map_some, Option.some.injEq] at h
    simp [sizeOf, typeInfo, hi, h]
theorem run_loadVarV {T : TypeId} {vs : List Value} {v : Value} (hT : ldv P T vs = some v) {b off : Nat} (hc : ∀ j u, vs[j]? = some u → w.cell? ⟨b, off + j, none⟩ = some u) : (loadVar T ⟨b, off, none⟩).run P w = .ok v w := by
  unfold ldv at hT
  have hagg : (P.info? T).bind (fun i => if i.size = vs.length then some (Value.agg vs.toArray) else none) = some v → (isAgg T).run P w = .ok true w → (loadVar T ⟨b, off, none⟩).run P w = .ok v w := fun hT hg => by
    cases hi : P.info? T with
    | none => rw [hi] at hT; cases hT
    | some i =>
      rw [hi] at hT
      simp only [Option.bind_some] at hT
      by_cases hs : i.size = vs.length
      · rw [if_pos hs] at hT
        cases hT
        have hz : (sizeOf T).run P w = .ok vs.length w := sizeOf_run (by rw [hi, ← hs]; rfl)
        have hl := run_loadCells_list (P := P) w ⟨b, off, none⟩ vs (fun j u hj => by rw [Addr.add_lit]; exact hc j u hj)
        unfold loadVar
        simp only [Sem.run_bind, hg, Result.andThen_ok, if_true, hz, hl, Sem.run_pure]
      · rw [if_neg hs] at hT; cases hT
  have hsc : ∀ u, vs = [u] → some u = some v → (isAgg T).run P w = .ok false w → (loadVar T ⟨b, off, none⟩).run P w = .ok v w := fun u e e2 hg => by
    cases e2
    have := hc 0 v (by rw [e]; rfl)
    unfold loadVar
    simp only [Sem.run_bind, hg, Result.andThen_ok, Bool.false_eq_true, if_false]
    rw [run_load]
    simp only [Nat.add_zero] at this
    simp [this]
  cases hu : P.underlying T with
  | none => rw [hu] at hT; cases hT
  | some d =>
    rw [hu] at hT
    have hg := run_isAgg (w := w) hu
    cases d <;> first
      | exact hagg hT hg
      | (match vs, hT with
         | [u], hT => exact hsc u rfl hT hg)
theorem op_load {dst : Option Tmp} {T : TypeId} {x : Operand} {ty : TypeId} {pos : String} {after : Array Edge} {g : Option (Nat × Bool)} {b off : Nat} (hx : a.eval x = .pointer (some ⟨b, off, none⟩)) {vs : List Value} {v : Value} (hT : ldv P T vs = some v)
    (h : Own w0 E L w) (i : Nat) {r : Res} (hi : L[i]? = some r) (hr : RdAt r b off vs) (hK : K (a.put dst v) w) : Oper.wp P ⟨dst, .load T x, ty, pos, after, g⟩ a w K Q := by
  have hl := run_loadVarV (P := P) (w := w) hT (hr w (h.fact i hi))
  unfold Oper.wp
  simp only [execOp, Instr.loadAt, hx, Instr.sureAddr, Sem.run_bind, Sem.run_pure, Result.andThen_ok, hl]
  exact hK
theorem op_store {dst : Option Tmp} {T : TypeId} {x y : Operand} {ty : TypeId} {pos : String} {after : Array Edge} {g : Option (Nat × Bool)} {b off : Nat} (hx : a.eval x = .pointer (some ⟨b, off, none⟩)) {vs : List Value} (hy : (a.eval y).cells = vs.toArray)
    (hs : (P.info? T).map (·.size) = some vs.length) (h1 : ∀ u ∈ vs, u.oneCell' = true) (h : Own w0 E L w) (i : Nat) {r r' : Res} (hi : L[i]? = some r) (hr : WrAt r b off vs r')
    (hK : ∀ w', Own w0 E (L.set i r') w' → K (a.put dst undef) w') : Oper.wp P ⟨dst, .store T x y, ty, pos, after, g⟩ a w K Q := by
  obtain ⟨hw, hr⟩ := hr
  obtain ⟨hc, hf, hfb, hff⟩ := hr w (h.fact i hi)
  have hst := run_storeCells_cells (P := P) b off vs 0 w (fun j hj => (hc j hj).1) (fun j hj => (hc j hj).2) h1
  rw [Nat.add_zero] at hst
  have hz : ∀ w, (sizeOf T).run P w = .ok vs.length w := fun w => sizeOf_run hs
  unfold Oper.wp
  simp only [execOp, Instr.storeAt, hx, Instr.sureAddr, storeVar, Sem.run_bind, Sem.run_pure, Result.andThen_ok, hz, hy, List.size_toArray, ne_eq, not_true_eq_false, if_false, hst]
  exact hK _ (h.upd i hi hw ((chg_setCells vs off w).mono (fun x _ e => by rw [e]; exact hfb)) hf (fun b hb => .inl (hff b hb)))
/-- A call of a Go function, by its contract. -/
theorem op_call {o : Oper} {f : FuncId} {args : Array Value} (is : List Nat) {Φ : Value → List Res → Prop} (hs : Spec P f args (pk is L) Φ) (hrun : ∀ w, (execOp a.eval o).run P w = .ok (.enter f args) w)
    (h : Own w0 E L w) (hK : ∀ v Lp w', Φ v Lp → Own w0 E (Lp ++ rs is L) w' → K (a.put o.dst v) w') : o.wp P a w K Q := by
  unfold Oper.wp; rw [hrun]
  have hp := h.perm (pk_perm is L)
  refine (hs _ w w hp.focus).mono ?_
  rintro e w' ⟨v, Lp, hΦ, rfl, ho⟩
  exact hK v Lp w' hΦ (hp.unfocus ho)

/-! ### In the text's order -/
theorem sq {ops : Array Oper} {o : Oper} {rest : List Oper} (hg : o.guard = none) (h : o.wp P a w (wpList P ops Q rest) Q) : wpList P ops Q (o :: rest) a w := by
  unfold wpList
  rw [if_pos (by simp [Region.wanted, hg])]
  exact .inl h
theorem sqg {ops : Array Oper} {o : Oper} {rest : List Oper} (hg : Region.wanted o (yielded ops a.tmps) = true) (h : o.wp P a w (wpList P ops Q rest) Q) : wpList P ops Q (o :: rest) a w := by
  unfold wpList
  rw [if_pos hg]
  exact .inl h
theorem sqn {ops : Array Oper} {o : Oper} {rest : List Oper} (hg : Region.wanted o (yielded ops a.tmps) = false) (h : wpList P ops Q rest (a.put o.dst undef) w) : wpList P ops Q (o :: rest) a w := by
  unfold wpList
  rw [if_neg (by simp [hg])]
  exact h

/-! ### In whatever order -/
/-- Whatever order is picked from here on; what is owned stays behind each operation but those of brk. -/
def wpAnyO (P : Program) (md : Region.Mode) (ops : Array Oper) (Q : Exit → Act → World → Prop) (w0 : World) (E : Ent) (brk : Nat → Bool) : Nat → Array Bool → List Res → Act → World → Prop
  | 0, listed, _, a, w => Region.ready md ops listed = [] ∧ Q .normal a w
  | fuel + 1, listed, L, a, w =>
    (Region.ready md ops listed = [] → Q .normal a w) ∧
    ∀ i ∈ Region.ready md ops listed, wpOp P ops Q i (fun a' w' => if brk i = true then wpAny P md ops Q fuel (listed.setIfInBounds i true) a' w' else Own w0 E L w' ∧ wpAnyO P md ops Q w0 E brk fuel (listed.setIfInBounds i true) L a' w') a w
variable {ops : Array Oper} {md : Region.Mode} {br : Nat → Bool}
theorem wpAny_of_O : ∀ (fuel : Nat) (listed : Array Bool) (L : List Res) (a : Act) (w : World), wpAnyO P md ops Q w0 E br fuel listed L a w → wpAny P md ops Q fuel listed a w
  | 0, _, _, _, _, h => h
  | fuel + 1, _, _, _, _, h => ⟨h.1, fun i hi => wpOp_mono (fun a' w' h' => by
      by_cases hb : br i = true
      · rw [if_pos hb] at h'; exact h'
      · rw [if_neg hb] at h'; exact wpAny_of_O fuel _ _ a' w' h'.2) (h.2 i hi)⟩
theorem wpAnyO_mono {L L' : List Res} (hL : ∀ w, Own w0 E L w → Own w0 E L' w) : ∀ (fuel : Nat) (listed : Array Bool) (a : Act) (w : World), wpAnyO P md ops Q w0 E br fuel listed L a w → wpAnyO P md ops Q w0 E br fuel listed L' a w
  | 0, _, _, _, h => h
  | fuel + 1, _, _, _, h => ⟨h.1, fun i hi => wpOp_mono (fun a' w' h' => by
      by_cases hb : br i = true
      · rw [if_pos hb] at h' ⊢; exact h'
      · rw [if_neg hb] at h' ⊢; exact ⟨hL _ h'.1, wpAnyO_mono hL fuel _ a' w' h'.2⟩) (h.2 i hi)⟩
/-- May number i be taken first? c: the numbers that may come up ahead of it. -/
def freeO (md : Region.Mode) (ops : Array Oper) (br : Nat → Bool) (listed : Array Bool) (i c : Nat) : Bool :=
  !c.testBit i && match ops[i]? with
  | none => false
  | some oi => (List.range ops.size).all fun j => j == i || match ops[j]? with
    | none => false
    | some oj => if c.testBit j then listed.getD j true || (!br j && oi.apart ops oj) else !listed.getD j false && !(oj.after.all fun e => !Region.binds md e || c.testBit e.on)
theorem wpAnyO_first {i c : Nat} {oi : Oper} {v : Value} {listed0 : Array Bool} (hi : ops[i]? = some oi) (hs : Region.noSelect ops = true) (hf : freeO md ops br listed0 i c = true)
    (hQ : ∀ c a w, Q (.panic c) (a.put oi.dst v) w → Q (.panic c) a w) :
    ∀ (fuel : Nat) (listed : Array Bool) (a : Act) (w : World), listed.size = ops.size →
      (∀ j, listed.getD j false = true → c.testBit j = true) → (∀ j, listed0.getD j true = true → listed.getD j true = true) →
      i ∈ Region.ready md ops listed → YieldsIf P ops (Own w0 E L) oi v a → Own w0 E L w →
      wpAnyO P md ops Q w0 E br fuel (listed.setIfInBounds i true) L (a.put oi.dst v) w → wpAnyO P md ops Q w0 E br (fuel + 1) listed L a w := by
  have hsel := Region.noSelect_spec hs
  simp only [freeO, hi, Bool.and_eq_true, Bool.not_eq_true', List.all_eq_true, List.mem_range] at hf
  obtain ⟨hci, hall⟩ := hf
  intro fuel
  induction fuel with
  | zero =>
    intro listed a w _ _ _ hr hy hS H
    refine ⟨fun h => (by rw [h] at hr; cases hr), fun j hj => ?_⟩
    by_cases hji : j = i
    · subst hji
      refine hy.wpOp hi hS ?_
      by_cases hb : br j = true
      · rw [if_pos hb]; exact H
      · rw [if_neg hb]; exact ⟨hS, H⟩
    · have := ready_mono hj hji
      rw [H.1] at this
      cases this
  | succ fuel ih =>
    intro listed a w hsz hsub hsup hr hy hS H
    refine ⟨fun h => (by rw [h] at hr; cases hr), fun j hj => ?_⟩
    by_cases hji : j = i
    · subst hji
      refine hy.wpOp hi hS ?_
      by_cases hb : br j = true
      · rw [if_pos hb]; exact wpAny_of_O _ _ _ _ _ H
      · rw [if_neg hb]; exact ⟨hS, H⟩
    · obtain ⟨hjun, oj, hoj, hdep⟩ := mem_ready.1 hj
      have hjl : j < ops.size := (Array.getElem?_eq_some_iff.1 hoj).1
      have hj1 := hall j hjl
      simp only [hoj, Bool.or_eq_true, beq_iff_eq, hji, false_or] at hj1
      have hcj : c.testBit j = true := by
        cases hc : c.testBit j
        · exfalso
          rw [hc] at hj1
          simp only [Bool.false_eq_true, if_false, Bool.and_eq_true, Bool.not_eq_true'] at hj1
          have : (oj.after.all fun e => !Region.binds md e || c.testBit e.on) = true := by
            rw [Array.all_eq_true_iff_forall_mem]
            intro e he
            cases hb : Region.binds md e
            · rfl
            · have := hsub e.on (hdep e he hb)
              simp [this]
          rw [this] at hj1
          exact absurd hj1.2 (by simp)
        · rfl
      rw [hcj] at hj1
      simp only [if_true, Bool.or_eq_true, Bool.and_eq_true, Bool.not_eq_true'] at hj1
      have hl0 : listed0.getD j true = true → False := fun h => by rw [hsup j h] at hjun; cases hjun
      obtain ⟨hbj, hap⟩ := hj1.resolve_left hl0
      have h1 := H.2 j (ready_mono hj hji)
      have h2 := wpOp_putIf hoj hap (fun cs b => hsel i oi cs b hi) (fun cs b => hsel j oj cs b hoj) hQ hy h1
      refine wpOp_mono (fun a' w' h3 => ?_) h2
      simp only [hbj, Bool.false_eq_true, if_false] at h3 ⊢
      refine ⟨h3.2.1, ih (listed.setIfInBounds j true) a' w' (by simpa using hsz) (fun k hk => ?_) (fun k hk => ?_) (ready_mono hr (Ne.symm hji)) h3.1 h3.2.1 ?_⟩
      · by_cases hjk : j = k
        · subst hjk; exact hcj
        · rw [getD_set_ne false hjk] at hk; exact hsub k hk
      · by_cases hjk : j = k
        · subst hjk
          have : j < listed.size := by omega
          simp [this]
        · rw [getD_set_ne true hjk]; exact hsup k hk
      · rw [Array.setIfInBounds_comm _ _ hji]
        exact h3.2.2
def takeO (md : Region.Mode) (ops : Array Oper) (br : Nat → Bool) (listed : Array Bool) (i c : Nat) : Bool :=
  listed.size == ops.size && ((List.range ops.size).all fun j => !listed.getD j false || c.testBit j) && (Region.ready md ops listed).contains i && freeO md ops br listed i c
theorem wpAnyO_take {fuel : Nat} {listed : Array Bool} (i c : Nat) {oi : Oper} (hi : ops[i]? = some oi) {v : Value} (hs : Region.noSelect ops = true) (ht : takeO md ops br listed i c = true)
    (hQ : ∀ c a w, Q (.panic c) (a.put oi.dst v) w → Q (.panic c) a w) (hy : YieldsIf P ops (Own w0 E L) oi v a) (h : Own w0 E L w)
    (hK : wpAnyO P md ops Q w0 E br fuel (listed.setIfInBounds i true) L (a.put oi.dst v) w) : wpAnyO P md ops Q w0 E br (fuel + 1) listed L a w := by
  simp only [takeO, Bool.and_eq_true, beq_iff_eq, List.all_eq_true, List.mem_range, Bool.or_eq_true, Bool.not_eq_true'] at ht
  obtain ⟨⟨⟨h1, h2⟩, h3⟩, h4⟩ := ht
  refine wpAnyO_first hi hs h4 hQ fuel listed a w h1 (fun j hj => ?_) (fun j hj => hj) (by simpa using h3) hy h hK
  rcases Nat.lt_or_ge j ops.size with hjl | hjl
  · rcases h2 j hjl with h | h
    · rw [h] at hj; cases hj
    · exact h
  · have : listed[j]? = none := by simp; omega
    simp [this] at hj
/-- It yields in whatever world. -/
theorem yp {o : Oper} {v : Value} (hg : Region.wanted o (yielded ops a.tmps) = true) (hv : ∀ w, (execOp a.eval o).run P w = .ok (.value v) w) : YieldsIf P ops (Own w0 E L) o v a := .inl ⟨hg, fun w _ => hv w⟩
/-- It is passed by. -/
theorem yn {o : Oper} (hg : Region.wanted o (yielded ops a.tmps) = false) : YieldsIf P ops (Own w0 E L) o undef a := .inr ⟨hg, rfl⟩
/-- It loads what is owned. -/
theorem yl {dst : Option Tmp} {T : TypeId} {x : Operand} {ty : TypeId} {pos : String} {after : Array Edge} {g : Option (Nat × Bool)} (hg : Region.wanted ⟨dst, .load T x, ty, pos, after, g⟩ (yielded ops a.tmps) = true) {b off : Nat} (hx : a.eval x = .pointer (some ⟨b, off, none⟩)) {vs : List Value} {v : Value} (hT : ldv P T vs = some v)
    (i : Nat) {r : Res} (hi : L[i]? = some r) (hr : RdAt r b off vs) : YieldsIf P ops (Own w0 E L) ⟨dst, .load T x, ty, pos, after, g⟩ v a := .inl ⟨hg, fun w h => by
  have hl := run_loadVarV (P := P) (w := w) hT (hr w (h.fact i hi))
  simp only [execOp, Instr.loadAt, hx, Instr.sureAddr, Sem.run_bind, Sem.run_pure, Result.andThen_ok, hl]⟩
def AllO (P : Program) (md : Region.Mode) (ops : Array Oper) (Q : Exit → Act → World → Prop) (w0 : World) (E : Ent) (br : Nat → Bool) (fuel : Nat) (listed : Array Bool) (L : List Res) (a : Act) (w : World) (is : List Nat) : Prop :=
  ∀ i ∈ is, wpOp P ops Q i (fun a' w' => if br i = true then wpAny P md ops Q fuel (listed.setIfInBounds i true) a' w' else Own w0 E L w' ∧ wpAnyO P md ops Q w0 E br fuel (listed.setIfInBounds i true) L a' w') a w
theorem AllO.nil {fuel : Nat} {listed : Array Bool} : AllO P md ops Q w0 E br fuel listed L a w [] := fun _ h => by cases h
theorem wpOp_of {i : Nat} {o : Oper} (hi : ops[i]? = some o) (hg : Region.wanted o (yielded ops a.tmps) = true) (h : o.wp P a w K Q) : wpOp P ops Q i K a w := by
  unfold wpOp
  simp only [hi, hg, if_true]
  exact .inl h
/-- Number i comes up; what it needs stays owned. -/
theorem AllO.cons {fuel : Nat} {listed : Array Bool} {i : Nat} {is : List Nat} {o : Oper} (hi : ops[i]? = some o) (hb : br i = false) (hg : Region.wanted o (yielded ops a.tmps) = true)
    (h : o.wp P a w (fun a' w' => Own w0 E L w' ∧ wpAnyO P md ops Q w0 E br fuel (listed.setIfInBounds i true) L a' w') Q) (hs : AllO P md ops Q w0 E br fuel listed L a w is) : AllO P md ops Q w0 E br fuel listed L a w (i :: is) := fun j hj => by
  rcases List.mem_cons.1 hj with rfl | hj
  · simp only [hb, Bool.false_eq_true, if_false]; exact wpOp_of hi hg h
  · exact hs j hj
/-- Number i comes up and turns what was owned. -/
theorem AllO.brk {fuel : Nat} {listed : Array Bool} {i : Nat} {is : List Nat} {o : Oper} (hi : ops[i]? = some o) (hb : br i = true) (hg : Region.wanted o (yielded ops a.tmps) = true)
    (h : o.wp P a w (wpAny P md ops Q fuel (listed.setIfInBounds i true)) Q) (hs : AllO P md ops Q w0 E br fuel listed L a w is) : AllO P md ops Q w0 E br fuel listed L a w (i :: is) := fun j hj => by
  rcases List.mem_cons.1 hj with rfl | hj
  · simp only [hb, if_true]; exact wpOp_of hi hg h
  · exact hs j hj
theorem wpAnyO_ready {fuel : Nat} {listed : Array Bool} (is : List Nat) (hr : Region.ready md ops listed = is) (hne : is ≠ []) (h : AllO P md ops Q w0 E br fuel listed L a w is) : wpAnyO P md ops Q w0 E br (fuel + 1) listed L a w :=
  ⟨fun h0 => absurd (hr ▸ h0) hne, hr ▸ h⟩
theorem wpAnyO_done {listed : Array Bool} (hr : Region.ready md ops listed = []) (h : Q .normal a w) : ∀ fuel, wpAnyO P md ops Q w0 E br fuel listed L a w
  | 0 => ⟨hr, h⟩
  | _ + 1 => ⟨fun _ => h, by rw [hr]; simp⟩
/-- Behind an operation: what was owned is owned, and more. -/
theorem O_and {fuel : Nat} {listed : Array Bool} {L' : List Res} (h : Own w0 E L' w) (is : List Nat) (hp : pk is L' = L) (hK : wpAnyO P md ops Q w0 E br fuel listed L' a w) : Own w0 E L w ∧ wpAnyO P md ops Q w0 E br fuel listed L a w :=
  ⟨hp ▸ h.pick is, wpAnyO_mono (fun w h => hp ▸ h.pick is) fuel listed a w hK⟩
/-- The beginning. -/
theorem wp_region_O {id : Nat} (br : Nat → Bool) (hm : P.follows .mixedOrders = true) (h : Own w0 E L w) (hK : ∀ w', Own w0 E L w' → wpAnyO P .any ops Q w0 E br ops.size (Array.replicate ops.size false) L a w') : (Code.region id ops true).wp P Q a w :=
  wp_region_any hm (wpAny_of_O _ _ _ _ _ (hK _ h.drew))

/-! ### Conditions, loops, the end -/
theorem then_n {next : Act → World → Prop} (h : next a w) : Exit.then next Q .normal a w := h
theorem then_e {next : Act → World → Prop} {id : Nat} (h : Q (.exit id) a w) : Exit.then next Q (.exit id) a w := h
theorem then_r {next : Act → World → Prop} (h : Q .ret a w) : Exit.then next Q .ret a w := h
theorem blk_n {id : Nat} (h : Q .normal a w) : Exit.inBlock id Q .normal a w := h
theorem blk_r {id : Nat} (h : Q .ret a w) : Exit.inBlock id Q .ret a w := h
theorem blk_e {id : Nat} (h : Q .normal a w) : Exit.inBlock id Q (.exit id) a w := by simp only [Exit.inBlock, if_true]; exact h
theorem blk_x {id id' : Nat} (hne : (id' == id) = false) (h : Q (.exit id') a w) : Exit.inBlock id Q (.exit id') a w := by
  have : ¬ id' = id := by simpa using hne
  simp only [Exit.inBlock, if_neg this]; exact h
/-- A loop: x tells what changes from round to round. -/
theorem wp_loopO {X : Type} {body : Code} (A : X → Act) (R : X → List Res) (G : X → Prop) (μ : X → Nat) (x0 : X) (h0 : G x0) (ha : A x0 = a) (is : List Nat) (hR : R x0 = pk is L) (h : Own w0 E L w)
    (round : ∀ x w, G x → Own w0 E (R x) w → body.wp P (Exit.then (fun a' w' => ∃ x', (G x' ∧ μ x' < μ x) ∧ a' = A x' ∧ Own w0 E (R x') w') Q) (A x) w) : (Code.loop body).wp P Q a w := by
  intro b k cs
  have key : ∀ n x a w, μ x = n → G x → a = A x → Own w0 E (R x) w →
      ∃ e a' w', Q e a' w' ∧ Arrives P (lone (b.at a (.code body :: .inLoop body :: k)) cs w) b k cs e a' w' := by
    intro n
    induction n using Nat.strongRecOn with
    | _ n ih =>
      intro x a w hn hG hA hO
      subst hA
      obtain ⟨e, a₁, w₁, hq, harr⟩ := round x w hG hO b (.inLoop body :: k) cs
      cases e with
      | normal =>
        obtain ⟨x', ⟨hG', hlt⟩, hA', hO'⟩ := hq
        obtain ⟨e₂, a₂, w₂, hq₂, harr₂⟩ := ih (μ x') (hn ▸ hlt) x' a₁ w₁ rfl hG' hA' hO'
        exact ⟨e₂, a₂, w₂, hq₂, .of_steps (Steps.trans harr (.one step_inLoop)) harr₂⟩
      | exit id => exact ⟨_, a₁, w₁, hq, .pass (x := .inLoop body) rfl (fun _ _ => .inl (by simp)) harr⟩
      | goto l => exact ⟨_, a₁, w₁, hq, .pass (x := .inLoop body) rfl (fun _ _ => .inl (by simp)) harr⟩
      | ret => exact ⟨_, a₁, w₁, hq, .pass (x := .inLoop body) rfl (fun _ _ => .inl (by simp)) harr⟩
      | panic ch => exact ⟨_, a₁, w₁, hq, .pass (x := .inLoop body) rfl (fun _ _ => .inl (by simp)) harr⟩
      | outgrown => exact ⟨_, a₁, w₁, hq, .pass (x := .inLoop body) rfl (fun _ _ => .inl (by simp)) harr⟩
  obtain ⟨e, a', w', hq, harr⟩ := key _ x0 a w rfl h0 ha.symm (hR ▸ h.pick is)
  exact ⟨e, a', w', hq, .of_steps (.one step_loop) harr⟩
/-- What the results hold. -/
def resV (P : Program) (L : List Res) (tm : Array Value) : List ResultVar → List Value → Prop
  | [], vs => vs = []
  | .tmp t :: rs, vs => ∃ v vs', vs = v :: vs' ∧ tm.getD t undef = v ∧ resV P L tm rs vs'
  | .cell p T :: rs, vs => ∃ v vs' b off us r, vs = v :: vs' ∧ tm.getD p undef = .pointer (some ⟨b, off, none⟩) ∧ ldv P T us = some v ∧ r ∈ L ∧ RdAt r b off us ∧ resV P L tm rs vs'
def resF (tm : Array Value) : ResultVar → Sem Value
  | .tmp t => pure (tm.getD t undef)
  | .cell p T => do loadVar T (← asAddr (tm.getD p undef))
theorem resV_run {tm : Array Value} : ∀ (l : List ResultVar) (vs : List Value), resV P L tm l vs → Own w0 E L w → (l.mapM (resF tm)).run P w = .ok vs w
  | [], vs, h, _ => by
    have : vs = [] := h
    subst this; rfl
  | .tmp t :: l, vs, h, ho => by
    obtain ⟨v, vs', rfl, hv, h⟩ := h
    have ih := resV_run l vs' h ho
    have e : (resF tm (.tmp t)).run P w = .ok v w := by
      show (Pure.pure (tm.getD t undef) : Sem Value).run P w = _
      rw [hv]; rfl
    simp only [List.mapM_cons, Sem.run_bind, Sem.run_pure, Result.andThen_ok, e, ih]
  | .cell p T :: l, vs, h, ho => by
    obtain ⟨v, vs', b, off, us, r, rfl, hp, hT, hr, hrd, h⟩ := h
    have ih := resV_run l vs' h ho
    have hl := run_loadVarV (P := P) (w := w) hT (hrd w (ho.facts r hr))
    have e : (resF tm (.cell p T)).run P w = .ok v w := by
      show (asAddr (tm.getD p undef) >>= fun x => loadVar T x).run P w = _
      rw [Sem.run_bind, hp]
      exact hl
    simp only [List.mapM_cons, Sem.run_bind, Sem.run_pure, Result.andThen_ok, e, ih]
/-- One result, or a tuple. -/
def retV (vs : List Value) : Value := match vs with | [v] => v | _ => .tuple vs.toArray
theorem ret_O {fn : Func} {R : Ending → World → Prop} {tm : Array Value} (vs : List Value) (h : Own w0 E L w) (hr : resV P L tm fn.results.toList vs) (hR : R (.returned (retV vs)) w) : bodyPost P fn R .ret ⟨tm, []⟩ w := by
  refine ⟨rfl, _, ?_, hR⟩
  have hm := resV_run fn.results.toList vs hr h
  have e0 : (fn.results.mapM (resF tm)) = List.toArray <$> fn.results.toList.mapM (resF tm) := Array.mapM_eq_mapM_toList
  have e : results fn tm = (fn.results.mapM (resF tm)) >>= fun vs => pure (if h : vs.size = 1 then vs[0] else .tuple vs) := rfl
  have e1 : (fn.results.mapM (resF tm)).run P w = .ok vs.toArray w := by
    rw [e0]
    show ((fn.results.toList.mapM (resF tm)) >>= fun l => pure l.toArray).run P w = _
    rw [Sem.run_bind, hm, Result.andThen_ok, Sem.run_pure]
  rw [e, Sem.run_bind, e1, Result.andThen_ok, Sem.run_pure]
  congr 1
  match vs with
  | [] => rfl
  | [v] => rfl
  | _ :: _ :: _ => rfl
end
end Go.Proofs.YtgebinfbbopnlaaDoor
