/- The operations' laws by what is owned: slices told by their elements (length, an element's address, loads, stores, append), guarded operations, calls, cuts, the beginning of a contract's proof. Over any program, no condition. -/
import Derived.Test.YtgebinfbbopnlaaDoorOp1
import Derived.IntWalk
namespace Go.Proofs.YtgebinfbbopnlaaDoor
open Go.RowKit
set_option linter.unusedSectionVars false
set_option linter.unusedVariables false
set_option linter.unusedSimpArgs false

/-- Where a slice begins. -/
def blkN : Value → Nat
  | .slice (some a) _ _ => a.block
  | .map (some r) => r
  | _ => 0
def offN : Value → Nat
  | .slice (some a) _ _ => a.off
  | _ => 0
/-- A slice whose elements are l, each as enc tells (k cells). -/
abbrev rRows {α : Type} (wr : Bool) (v : Value) (T k : Nat) (enc : α → List Value) (l : List α) : Res := rSl wr v T k l.length (l.flatMap enc)

theorem SliceAt.own {w : World} {v : Value} {T k n : Nat} {xs : List Value} {S : Nat → Prop} (h : SliceAt w v T k n xs S) : SliceAt w v T k n xs (blkOf v) ∧ ∀ b, blkOf v b → S b := by
  obtain ⟨h1, ⟨rfl, h2⟩ | ⟨g, off, cap, cs, rfl, hb, a, b, c, d, s⟩⟩ := h
  · exact ⟨⟨h1, .inl ⟨rfl, h2⟩⟩, fun b hb => hb.elim⟩
  · exact ⟨⟨h1, .inr ⟨g, off, cap, cs, rfl, hb, a, b, c, d, rfl⟩⟩, fun b hb => by have : b = g := hb; rw [this]; exact s⟩
theorem rdSl {wr : Bool} {v : Value} {T k n : Nat} {xs : List Value} (p : Nat) {vs : List Value} (h : ∀ j u, vs[j]? = some u → xs[p + j]? = some u) : RdAt (rSl wr v T k n xs) (blkN v) (offN v + p) vs := fun w hf j u hj => by
  obtain ⟨h1, ⟨rfl, h2⟩ | ⟨g, off, cap, cs, rfl, hb, h2, h3, h4, h5, _⟩⟩ := hf
  · have := h j u hj
    have hx : xs = [] := by subst h2; simpa using h1
    rw [hx] at this; simp at this
  · show w.cell? ⟨g, off + p + j, none⟩ = _
    rw [cell_of hb, Nat.add_assoc]
    exact h5 _ u (h j u hj)
theorem wr {x y : Int} (h : y = x ∧ -9223372036854775808 ≤ x ∧ x ≤ 9223372036854775807) : Value.int .i64 (IntKind.i64.wrap x) = Value.int .i64 y := by
  rw [IntWalk.i64_in _ ⟨h.2.1, h.2.2⟩, h.1]
/-- Part of element x of l (place i, from its cell r on). -/
theorem rdRow {α : Type} {wr : Bool} {v : Value} {T k : Nat} {enc : α → List Value} {l : List α} (he : ∀ a, (enc a).length = k) {i : Nat} {x : α} (hi : l[i]? = some x) (r : Nat) {vs : List Value} (h : ((enc x).drop r).take vs.length = vs) :
    RdAt (rRows wr v T k enc l) (blkN v) (offN v + i * k + r) vs := by
  rw [Nat.add_assoc]
  refine rdSl _ fun j u hj => ?_
  have hl := (List.getElem?_eq_some_iff.1 hj).1
  have h2 := congrArg (fun l => l[j]?) h
  simp only [List.getElem?_take, List.getElem?_drop, if_pos hl] at h2
  have hlt : r + j < k := by
    rw [← he x]
    have : (enc x)[r + j]? = some u := by rw [h2]; exact hj
    exact (List.getElem?_eq_some_iff.1 this).1
  rw [Nat.add_assoc, flat_get enc he l i (r + j) x hi hlt, h2]; exact hj
theorem rdRow0 {α : Type} {wr : Bool} {v : Value} {T k : Nat} {enc : α → List Value} {l : List α} (he : ∀ a, (enc a).length = k) {i : Nat} {x : α} (hi : l[i]? = some x) {vs : List Value} (h : (enc x).take vs.length = vs) :
    RdAt (rRows wr v T k enc l) (blkN v) (offN v + i * k) vs := rdRow (r := 0) he hi h

theorem setCells_get {b : Nat} {T : TypeId} {fz : Nat × Nat} {w : World} {cs : Array Value} (vs : List Value) (o : Nat) (h : w.heap[b]? = some (.cells cs T fz)) (hl : o + vs.length ≤ cs.size) :
    ∃ cs', (w.setCells b o vs).heap[b]? = some (.cells cs' T fz) ∧ cs'.size = cs.size ∧ ∀ i, cs'[i]? = if o ≤ i ∧ i < o + vs.length then vs[i - o]? else cs[i]? := by
  obtain ⟨cs', h1, h2, h3, h4⟩ := block_setCells vs o w cs h
  refine ⟨cs', h1, h2, fun i => ?_⟩
  split
  · have := h3 (i - o) (by omega) (by omega)
    rw [show o + (i - o) = i by omega] at this
    exact this
  · exact h4 i (by omega)
theorem flat_set {α : Type} {k : Nat} {enc : α → List Value} (he : ∀ a, (enc a).length = k) : ∀ (l : List α) (i : Nat) (x : α), i < l.length → (l.set i x).flatMap enc = (l.flatMap enc).take (i * k) ++ (enc x ++ (l.flatMap enc).drop (i * k + k))
  | [], _, _, h => by simp at h
  | y :: l, 0, x, _ => by simp [he y, List.drop_append]
  | y :: l, i + 1, x, h => by
    have ih := flat_set he l i x (by simpa using h)
    simp only [List.set_cons_succ, List.flatMap_cons, ih]
    have e1 : (enc y ++ l.flatMap enc).take ((i + 1) * k) = enc y ++ (l.flatMap enc).take (i * k) := by
      rw [List.take_append, he, Nat.add_mul, Nat.one_mul, List.take_of_length_le (by rw [he]; omega)]; congr 2; omega
    have e2 : (enc y ++ l.flatMap enc).drop ((i + 1) * k + k) = (l.flatMap enc).drop (i * k + k) := by
      rw [List.drop_append, he, Nat.add_mul, Nat.one_mul, List.drop_of_length_le (by rw [he]; omega), List.nil_append]; congr 1; omega
    rw [e1, e2, List.append_assoc]
/-- Part of an element is stored: from its cell r on. -/
theorem wrRow {α : Type} {v : Value} {T k : Nat} {enc : α → List Value} {l : List α} (he : ∀ a, (enc a).length = k) {i : Nat} {x : α} (hi : l[i]? = some x) (r : Nat) (x' : α) {vs : List Value} (h : (enc x).take r ++ (vs ++ (enc x).drop (r + vs.length)) = enc x') (hr : Nat.ble r k = true) :
    WrAt (rRows true v T k enc l) (blkN v) (offN v + i * k + r) vs (rRows true v T k enc (l.set i x')) := by
  refine ⟨rfl, fun w hf => ?_⟩
  have hil : i < l.length := (List.getElem?_eq_some_iff.1 hi).1
  have hrl : r + vs.length ≤ k := by
    have h1 := congrArg List.length h
    have h2 : (enc x).length = k := he x
    have h3 : (enc x').length = k := he x'
    simp only [List.length_append, List.length_take, List.length_drop] at h1
    have := Nat.le_of_ble_eq_true hr
    omega
  have hik : (i + 1) * k ≤ l.length * k := Nat.mul_le_mul_right _ hil
  rw [Nat.add_mul, Nat.one_mul] at hik
  obtain ⟨h1, ⟨rfl, h2⟩ | ⟨g, off, cap, cs, rfl, hb, h2, h3, h4, h5, _⟩⟩ := hf
  · have : l.length = 0 := h2
    omega
  have hck : l.length * k ≤ cap * k := Nat.mul_le_mul_right _ h2
  show (∀ j, j < vs.length → (w.cell? ⟨g, off + i * k + r + j, none⟩).isSome = true ∧ w.frozen? ⟨g, off + i * k + r + j, none⟩ = false) ∧ SliceAt (w.setCells g (off + i * k + r) vs) (.slice (some ⟨g, off, none⟩) l.length cap) T k (l.set i x').length ((l.set i x').flatMap enc) _ ∧ _ ∧ _
  refine ⟨fun j hj => ⟨?_, free_of hb _⟩, ?_, rfl, fun _ e => e⟩
  · rw [cell_of hb]; simp; omega
  obtain ⟨cs', e1, e2, e3⟩ := setCells_get vs (off + i * k + r) hb (by omega)
  rw [List.length_set]
  refine ⟨by rw [flat_len enc he]; simp, .inr ⟨g, off, cap, cs', rfl, e1, h2, h3, by rw [e2]; exact h4, fun j u hj => ?_, rfl⟩⟩
  rw [flat_set he l i x' hil] at hj
  rw [e3]
  have hlx : (l.flatMap enc).length = l.length * k := flat_len enc he l
  rw [List.getElem?_append, List.length_take, hlx, Nat.min_eq_left (by omega)] at hj
  by_cases c1 : j < i * k
  · rw [if_pos c1, List.getElem?_take, if_pos c1] at hj
    rw [if_neg (by omega)]
    exact h5 j u hj
  · rw [if_neg c1, List.getElem?_append, he x'] at hj
    by_cases c2 : j - i * k < k
    · rw [if_pos c2, ← h, List.getElem?_append, List.length_take, he x, Nat.min_eq_left (by omega)] at hj
      by_cases c3 : j - i * k < r
      · rw [if_pos c3, List.getElem?_take, if_pos c3] at hj
        rw [if_neg (by omega)]
        refine h5 j u ?_
        rw [← hj, show j = i * k + (j - i * k) by omega, flat_get enc he l i (j - i * k) x hi c2]
        simp
      · rw [if_neg c3, List.getElem?_append] at hj
        by_cases c4 : j - i * k - r < vs.length
        · rw [if_pos c4] at hj
          rw [if_pos (by omega), ← hj]
          congr 1; omega
        · rw [if_neg c4, List.getElem?_drop] at hj
          rw [if_neg (by omega)]
          refine h5 j u ?_
          rw [← hj, show j = i * k + (j - i * k) by omega, flat_get enc he l i (j - i * k) x hi c2]
          congr 1; omega
    · rw [if_neg c2, List.getElem?_drop] at hj
      rw [if_neg (by omega)]
      refine h5 j u ?_
      rw [← hj]; congr 1; omega
section
variable {P : Program} {a : Act} {w w0 : World} {E : Ent} {L : List Res} {K : Act → World → Prop} {Q : Exit → Act → World → Prop} {ops : Array Oper} {rest : List Oper}

/-! ### What yields where L is owned -/
def Gives (P : Program) (w0 : World) (E : Ent) (L : List Res) (o : Oper) (a : Act) (v : Value) : Prop := ∀ w, Own w0 E L w → (execOp a.eval o).run P w = .ok (.value v) w
theorem g_pure {o : Oper} {v : Value} (hv : ∀ w, (execOp a.eval o).run P w = .ok (.value v) w) : Gives P w0 E L o a v := fun w _ => hv w
theorem g_eq {o : Oper} {v v' : Value} (h : Gives P w0 E L o a v) (e : v = v') : Gives P w0 E L o a v' := e ▸ h
/-- A load of a cell of a block. -/
theorem g_ld {dst : Option Tmp} {T : TypeId} {x : Operand} {ty : TypeId} {pos : String} {after : Array Edge} {g : Option (Nat × Bool)} {wr : Bool} {b : Nat} {cs : List Value} {T' : TypeId} (off : Nat) (vs : List Value) (v : Value)
    (hx : (a.eval x, ldv P T vs, (cs.drop off).take vs.length) = (.pointer (some ⟨b, off, none⟩), some v, vs)) (i : Nat) (hi : L[i]? = some (rCell wr b cs T')) : Gives P w0 E L ⟨dst, .load T x, ty, pos, after, g⟩ a v := fun w h => by
  obtain ⟨h1, h2, h3⟩ : a.eval x = _ ∧ ldv P T vs = _ ∧ (cs.drop off).take vs.length = vs := by simpa using hx
  have hl := run_loadVarV (P := P) (w := w) h2 (rdCell off h3 w (h.fact i hi))
  simp only [execOp, Instr.loadAt, h1, Instr.sureAddr, Sem.run_bind, Sem.run_pure, Result.andThen_ok, hl]
/-- A load of what a resource tells. -/
theorem g_ldr {dst : Option Tmp} {T : TypeId} {x : Operand} {ty : TypeId} {pos : String} {after : Array Edge} {g : Option (Nat × Bool)} {r : Res} {b : Nat} (off : Nat) (vs : List Value) (v : Value)
    (hx : (a.eval x, ldv P T vs) = (.pointer (some ⟨b, off, none⟩), some v)) (i : Nat) (hi : L[i]? = some r) (hr : RdAt r b off vs) : Gives P w0 E L ⟨dst, .load T x, ty, pos, after, g⟩ a v := fun w h => by
  obtain ⟨h1, h2⟩ : a.eval x = _ ∧ ldv P T vs = _ := by simpa using hx
  have hl := run_loadVarV (P := P) (w := w) h2 (hr w (h.fact i hi))
  simp only [execOp, Instr.loadAt, h1, Instr.sureAddr, Sem.run_bind, Sem.run_pure, Result.andThen_ok, hl]
theorem SliceAt.val {w : World} {v : Value} {T k n : Nat} {xs : List Value} {S : Nat → Prop} (h : SliceAt w v T k n xs S) : ∃ ad cap, v = .slice ad n cap ∧ n ≤ cap ∧ (∀ i, i < n → ad = some ⟨blkN v, offN v, none⟩) := by
  obtain ⟨h1, ⟨rfl, h2⟩ | ⟨g, off, cap, cs, rfl, hb, h2, h3, h4, h5, _⟩⟩ := h
  · exact ⟨none, 0, by rw [h2], by omega, fun i hi => by omega⟩
  · exact ⟨_, cap, rfl, h2, fun _ _ => rfl⟩
/-- len of a slice. -/
theorem g_len {dst : Option Tmp} {T : TypeId} {x : Operand} {ty : TypeId} {pos : String} {after : Array Edge} {g : Option (Nat × Bool)} {wr : Bool} {v : Value} {d k n : Nat} {xs : List Value} (hx : (a.eval x, P.underlying T) = (v, some (.slice d))) (i : Nat) (hi : L[i]? = some (rSl wr v d k n xs)) :
    Gives P w0 E L ⟨dst, .call { callee := .builtin .len, args := #[x], argTypes := #[T] }, ty, pos, after, g⟩ a (.int .i64 n) := fun w h => by
  obtain ⟨h1, h2⟩ : a.eval x = v ∧ P.underlying T = _ := by simpa using hx
  obtain ⟨ad, cap, e, _, _⟩ := (h.fact i hi : SliceAt _ _ _ _ _ _ _).val
  subst e
  simp [execOp, resolve, invoke, builtin, Builtin.len_, h1, Sem.run_bind, run_underlying h2, goInt]
/-- The address of an element of a slice. -/
theorem g_idx {dst : Option Tmp} {T : TypeId} {x y : Operand} {ty : TypeId} {pos : String} {after : Array Edge} {g : Option (Nat × Bool)} {wr : Bool} {v : Value} {d k n : Nat} {xs : List Value} (j : Nat) (hx : (a.eval x, a.eval y, P.underlying T, (P.info? d).map (·.size)) = (v, .int .i64 (j : Int), some (.slice d), some k)) (hj : j < n) (i : Nat) (hi : L[i]? = some (rSl wr v d k n xs)) :
    Gives P w0 E L ⟨dst, .indexAddr T x y, ty, pos, after, g⟩ a (.pointer (some ⟨blkN v, offN v + j * k, none⟩)) := fun w h => by
  obtain ⟨h1, h2, h3, h4⟩ : a.eval x = v ∧ a.eval y = _ ∧ P.underlying T = _ ∧ (P.info? d).map (·.size) = some k := by simpa using hx
  obtain ⟨ad, cap, e, _, hp⟩ := (h.fact i hi : SliceAt _ _ _ _ _ _ _).val
  obtain rfl := hp j hj
  obtain ⟨B, hB⟩ : ∃ B, B = blkN v := ⟨_, rfl⟩
  obtain ⟨O, hO⟩ : ∃ O, O = offN v := ⟨_, rfl⟩
  rw [← hB, ← hO] at e ⊢
  subst e
  have hz := sizeOf_run (w := w) h4
  have hi1 : (0 : Int) ≤ (j : Int) ∧ (j : Int) < (n : Int) := by omega
  simp only [execOp, Instr.indexAt, h1, h2, asIntOf, Sem.run_bind, Sem.run_pure, Result.andThen_ok, run_underlying h3]
  simp only [Sem.run_ite, hi1, and_self, if_true, Sem.run_bind, hz, Result.andThen_ok, Sem.run_pure, Int.toNat_natCast, Addr.add_lit]

theorem g_idxI {dst : Option Tmp} {T : TypeId} {x y : Operand} {ty : TypeId} {pos : String} {after : Array Edge} {g : Option (Nat × Bool)} {wr : Bool} {v : Value} {d k n : Nat} {xs : List Value} (j : Nat) {z : Int} (hz : z = (j : Int)) (hx : (a.eval x, a.eval y, P.underlying T, (P.info? d).map (·.size)) = (v, .int .i64 z, some (.slice d), some k)) (hj : j < n) (i : Nat) (hi : L[i]? = some (rSl wr v d k n xs)) :
    Gives P w0 E L ⟨dst, .indexAddr T x y, ty, pos, after, g⟩ a (.pointer (some ⟨blkN v, offN v + j * k, none⟩)) := g_idx j (hz ▸ hx) hj i hi

/-! ### One operation, in the text's order -/
/-- wpList, Code.wp, wpAnyO, wpAny, shut: no tactic looks into them. -/
structure LW (P : Program) (ops : Array Oper) (Q : Exit → Act → World → Prop) (l : List Oper) (a : Act) (w : World) : Prop where
  out : wpList P ops Q l a w
structure CW (P : Program) (c : Code) (Q : Exit → Act → World → Prop) (a : Act) (w : World) : Prop where
  out : c.wp P Q a w
structure DW (P : Program) (ops : Array Oper) (Q : Exit → Act → World → Prop) (w0 : World) (E : Ent) (br : Nat → Bool) (fuel : Nat) (listed : Array Bool) (L : List Res) (a : Act) (w : World) : Prop where
  out : wpAnyO P .any ops Q w0 E br fuel listed L a w
structure AW (P : Program) (ops : Array Oper) (Q : Exit → Act → World → Prop) (fuel : Nat) (listed : Array Bool) (a : Act) (w : World) : Prop where
  out : wpAny P .any ops Q fuel listed a w
theorem lnil {ops : Array Oper} (h : Q .normal a w) : LW P ops Q [] a w := ⟨h⟩
theorem sn {ops : Array Oper} {o : Oper} {rest : List Oper} (hg : Region.wanted o (yielded ops a.tmps) = false) (h : LW P ops Q rest (a.put o.dst undef) w) : LW P ops Q (o :: rest) a w := ⟨sqn hg h.out⟩
theorem sq_q {o : Oper} {v : Value} (hg : Region.wanted o (yielded ops a.tmps) = true) (h : Own w0 E L w) (hv : Gives P w0 E L o a v) (hK : LW P ops Q rest (a.put o.dst v) w) : LW P ops Q (o :: rest) a w := ⟨sqg hg (by unfold Oper.wp; rw [hv w h]; exact hK.out)⟩
theorem sq_p {o : Oper} (v : Value) (hg : Region.wanted o (yielded ops a.tmps) = true) (hv : ∀ w, (execOp a.eval o).run P w = .ok (.value v) w) (hK : LW P ops Q rest (a.put o.dst v) w) : LW P ops Q (o :: rest) a w := ⟨sqg hg (by unfold Oper.wp; rw [hv w]; exact hK.out)⟩
/-- Guarded: carried out where B is so. -/
theorem sq_m1 {o : Oper} {v : Value} (B : Bool) (hg : Region.wanted o (yielded ops a.tmps) = B) (h : Own w0 E L w) (hv : B = true → Gives P w0 E L o a v) (hK : LW P ops Q rest (a.put o.dst (if B = true then v else undef)) w) : LW P ops Q (o :: rest) a w := by
  obtain ⟨hK⟩ := hK
  cases B
  · exact ⟨sqn hg hK⟩
  · exact ⟨sqg hg (by unfold Oper.wp; rw [hv rfl w h]; exact hK)⟩
theorem sq_m0 {o : Oper} {v : Value} (B : Bool) (hg : Region.wanted o (yielded ops a.tmps) = !B) (h : Own w0 E L w) (hv : B = false → Gives P w0 E L o a v) (hK : LW P ops Q rest (a.put o.dst (if B = false then v else undef)) w) : LW P ops Q (o :: rest) a w := by
  obtain ⟨hK⟩ := hK
  cases B
  · exact ⟨sqg hg (by unfold Oper.wp; rw [hv rfl w h]; exact hK)⟩
  · exact ⟨sqn hg hK⟩
theorem sq_new {o : Oper} (hg : Region.wanted o (yielded ops a.tmps) = true) (mk : Nat → Value) (cs : List Value) (T : TypeId) (hrun : ∀ w, (execOp a.eval o).run P w = .ok (.value (mk w.heap.size)) (w.alloc (.cells cs.toArray T)))
    (h : Own w0 E L w) (hK : ∀ b w', Own w0 E (rCell true b cs T :: L) w' → LW P ops Q rest (a.put o.dst (mk b)) w') : LW P ops Q (o :: rest) a w := ⟨sqg hg (op_new mk cs T hrun h fun b w' h => (hK b w' h).out)⟩
/-- A store into a block. -/
theorem op_st {dst : Option Tmp} {T : TypeId} {x y : Operand} {ty : TypeId} {pos : String} {after : Array Edge} {g : Option (Nat × Bool)} {b : Nat} (off : Nat) (vs cs' : List Value) {cs : List Value} {T' : TypeId} (h : Own w0 E L w) (i : Nat) (hi : L[i]? = some (rCell true b cs T'))
    (hx : (a.eval x, (a.eval y).cells, (P.info? T).map (·.size), Nat.ble (off + vs.length) cs.length, vs.all (·.oneCell'), cs.take off ++ (vs ++ cs.drop (off + vs.length))) = (.pointer (some ⟨b, off, none⟩), vs.toArray, some vs.length, true, true, cs'))
    (hK : ∀ w', Own w0 E (L.set i (rCell true b cs' T')) w' → K (a.put dst undef) w') : Oper.wp P ⟨dst, .store T x y, ty, pos, after, g⟩ a w K Q := by
  simp only [Prod.mk.injEq] at hx
  obtain ⟨h1, h2, h3, h4, h5, h6⟩ := hx
  exact op_store h1 h2 h3 (List.all_eq_true.1 h5) h i hi (wrCell off vs (Nat.le_of_ble_eq_true h4) h6) hK
theorem op_str {dst : Option Tmp} {T : TypeId} {x y : Operand} {ty : TypeId} {pos : String} {after : Array Edge} {g : Option (Nat × Bool)} {b : Nat} (off : Nat) (vs : List Value) {r r' : Res} (h : Own w0 E L w) (i : Nat) (hi : L[i]? = some r)
    (hx : (a.eval x, (a.eval y).cells, (P.info? T).map (·.size), vs.all (·.oneCell')) = (.pointer (some ⟨b, off, none⟩), vs.toArray, some vs.length, true)) (hr : WrAt r b off vs r')
    (hK : ∀ w', Own w0 E (L.set i r') w' → K (a.put dst undef) w') : Oper.wp P ⟨dst, .store T x y, ty, pos, after, g⟩ a w K Q := by
  simp only [Prod.mk.injEq] at hx
  obtain ⟨h1, h2, h3, h4⟩ := hx
  exact op_store h1 h2 h3 (List.all_eq_true.1 h4) h i hi hr hK
def okInfo (P : Program) (d size : Nat) : Bool := match P.info? d with
  | some i => (match i.zero with | some z => z.cells.size == size | none => false) && (i.size == size && (Nat.ble i.bytes 1000 && Nat.ble 1 size))
  | none => false
theorem okInfo_spec {d size : Nat} (h : okInfo P d size = true) : ∃ z bytes, (P.info? d).map (fun i => (i.zero, i.size, i.bytes)) = some (some z, size, bytes) ∧ z.cells.size = size ∧ bytes ≤ 1000 ∧ 0 < size := by
  unfold okInfo at h
  cases hi : P.info? d with
  | none => rw [hi] at h; cases h
  | some i =>
    rw [hi] at h
    simp only [Bool.and_eq_true, beq_iff_eq] at h
    obtain ⟨h1, h2, h3, h4⟩ := h
    cases hz : i.zero with
    | none => rw [hz] at h1; cases h1
    | some z =>
      rw [hz] at h1
      exact ⟨z, i.bytes, by simp [hz, h2], by simpa using h1, Nat.le_of_ble_eq_true h3, Nat.le_of_ble_eq_true h4⟩
/-- A value of one cell. -/
def OneV (v : Value) : Prop := v.cells = #[v] ∧ v.oneCell' = true
theorem Own.slv {wr : Bool} {v : Value} {T k n : Nat} {xs : List Value} (h : Own w0 E L w) (i : Nat) (hi : L[i]? = some (rSl wr v T k n xs)) : OneV v := by
  obtain ⟨ad, cap, e, _, _⟩ := (h.fact i hi : SliceAt _ _ _ _ _ _ _).val
  rw [e]; exact ⟨rfl, rfl⟩
theorem op_sto {dst : Option Tmp} {T : TypeId} {x y : Operand} {ty : TypeId} {pos : String} {after : Array Edge} {g : Option (Nat × Bool)} {b : Nat} {v : Value} (hv : OneV v) (off : Nat) (cs' : List Value) {cs : List Value} {T' : TypeId} (h : Own w0 E L w) (i : Nat) (hi : L[i]? = some (rCell true b cs T'))
    (hx : (a.eval x, a.eval y, (P.info? T).map (·.size), Nat.ble (off + 1) cs.length, cs.take off ++ (v :: cs.drop (off + 1))) = (.pointer (some ⟨b, off, none⟩), v, some 1, true, cs'))
    (hK : ∀ w', Own w0 E (L.set i (rCell true b cs' T')) w' → K (a.put dst undef) w') : Oper.wp P ⟨dst, .store T x y, ty, pos, after, g⟩ a w K Q := by
  simp only [Prod.mk.injEq] at hx
  obtain ⟨h1, h2, h3, h4, h6⟩ := hx
  exact op_store (vs := [v]) h1 (by rw [h2]; exact hv.1) h3 (fun u hu => by rw [List.mem_singleton.1 hu]; exact hv.2) h i hi (wrCell off [v] (Nat.le_of_ble_eq_true h4) h6) hK
theorem sq_sto {dst : Option Tmp} {T : TypeId} {x y : Operand} {ty : TypeId} {pos : String} {after : Array Edge} {g : Option (Nat × Bool)} {b : Nat} {v : Value} (hg : Region.wanted ⟨dst, .store T x y, ty, pos, after, g⟩ (yielded ops a.tmps) = true) (hv : OneV v) (off : Nat) (cs' : List Value) {cs : List Value} {T' : TypeId} (h : Own w0 E L w) (i : Nat) (hi : L[i]? = some (rCell true b cs T'))
    (hx : (a.eval x, a.eval y, (P.info? T).map (·.size), Nat.ble (off + 1) cs.length, cs.take off ++ (v :: cs.drop (off + 1))) = (.pointer (some ⟨b, off, none⟩), v, some 1, true, cs'))
    (hK : ∀ w', Own w0 E (L.set i (rCell true b cs' T')) w' → LW P ops Q rest (a.put dst undef) w') : LW P ops Q (⟨dst, .store T x y, ty, pos, after, g⟩ :: rest) a w := ⟨sqg hg (op_sto hv off cs' h i hi hx fun w' h => (hK w' h).out)⟩
/-- One element is appended. -/
theorem op_app {α : Type} {enc : α → List Value} {l : List α} {dst : Option Tmp} {T : TypeId} {s x : Operand} {ty : TypeId} {pos : String} {after : Array Edge} {g : Option (Nat × Bool)} {v : Value} {b o size : Nat} {d : TypeId} {r : Res} (c : Nat) (e : α)
    (hx : (a.eval s, a.eval x, P.underlying T, okInfo P d size, (enc e).length, (enc e).all (·.oneCell')) = (v, .slice (some ⟨b, o, none⟩) 1 c, some (.slice d), true, size, true))
    (h : Own w0 E L w) (i : Nat) (hi : L[i]? = some (rRows true v d size enc l)) (j : Nat) (hj : L[j]? = some r) (hr : RdAt r b o (enc e)) (hb : l.length < 100000000000)
    (hK : ∀ v' w', Own w0 E (L.set i (rRows true v' d size enc (l ++ [e]))) w' → K (a.put dst v') w') : Oper.wp P ⟨dst, .call { callee := .builtin .append, args := #[s, x], argTypes := #[T, T] }, ty, pos, after, g⟩ a w K Q := by
  simp only [Prod.mk.injEq] at hx
  obtain ⟨h1, h2, h3, h4', h6, h7⟩ := hx
  obtain ⟨z, bytes, h4, h5, hby, h8⟩ := okInfo_spec h4'
  obtain ⟨v', w', S', hrun, hs, hc, hg⟩ := run_appendS (P := P) (ty := ty) (c := c) h3 h4 h5 h8 (h.fact i hi : SliceAt _ _ _ _ _ _ _) (a := ⟨b, o, none⟩) (m := 1) (news := enc e) (by omega)
    (fun j u hu => by rw [Addr.add_lit]; exact hr w (h.fact _ hj) j u hu) (fun u hu => List.all_eq_true.1 h7 u hu) (by unfold maxLen; omega) (by
      have : (l.length + 1) * bytes ≤ 100000000000 * 1000 := Nat.mul_le_mul (by omega) hby
      omega)
  obtain ⟨hs1, hs2⟩ := hs.own
  unfold Oper.wp
  simp [execOp, resolve, invoke, builtin, h1, h2, hrun, Result.andThen, Oper.upon]
  refine hK _ _ (h.upd i hi rfl hc ?_ (fun b hb => ?_))
  · have : (l ++ [e]).flatMap enc = l.flatMap enc ++ enc e := by simp
    show SliceAt w' v' d size (l ++ [e]).length ((l ++ [e]).flatMap enc) _
    rw [this, List.length_append]
    exact hs1
  · rcases hg b (hs2 b hb) with h | h
    · exact .inl h
    · exact .inr h.1
theorem sq_call {o : Oper} {f : FuncId} (args : Array Value) (is : List Nat) {Φ : Value → List Res → Prop} (hg : Region.wanted o (yielded ops a.tmps) = true) (hs : Spec P f args (pk is L) Φ) (hrun : ∀ w, (execOp a.eval o).run P w = .ok (.enter f args) w)
    (h : Own w0 E L w) (hK : ∀ v Lp w', Φ v Lp → Own w0 E (Lp ++ rs is L) w' → LW P ops Q rest (a.put o.dst v) w') : LW P ops Q (o :: rest) a w := ⟨sqg hg (op_call is hs hrun h fun v Lp w' hΦ h => (hK v Lp w' hΦ h).out)⟩
theorem sq_st {dst : Option Tmp} {T : TypeId} {x y : Operand} {ty : TypeId} {pos : String} {after : Array Edge} {g : Option (Nat × Bool)} {b : Nat} (hg : Region.wanted ⟨dst, .store T x y, ty, pos, after, g⟩ (yielded ops a.tmps) = true) (off : Nat) (vs cs' : List Value) {cs : List Value} {T' : TypeId} (h : Own w0 E L w) (i : Nat) (hi : L[i]? = some (rCell true b cs T'))
    (hx : (a.eval x, (a.eval y).cells, (P.info? T).map (·.size), Nat.ble (off + vs.length) cs.length, vs.all (·.oneCell'), cs.take off ++ (vs ++ cs.drop (off + vs.length))) = (.pointer (some ⟨b, off, none⟩), vs.toArray, some vs.length, true, true, cs'))
    (hK : ∀ w', Own w0 E (L.set i (rCell true b cs' T')) w' → LW P ops Q rest (a.put dst undef) w') : LW P ops Q (⟨dst, .store T x y, ty, pos, after, g⟩ :: rest) a w := ⟨sqg hg (op_st off vs cs' h i hi hx fun w' h => (hK w' h).out)⟩
theorem sq_str {dst : Option Tmp} {T : TypeId} {x y : Operand} {ty : TypeId} {pos : String} {after : Array Edge} {g : Option (Nat × Bool)} {b : Nat} (hg : Region.wanted ⟨dst, .store T x y, ty, pos, after, g⟩ (yielded ops a.tmps) = true) (off : Nat) (vs : List Value) {r r' : Res} (h : Own w0 E L w) (i : Nat) (hi : L[i]? = some r)
    (hx : (a.eval x, (a.eval y).cells, (P.info? T).map (·.size), vs.all (·.oneCell')) = (.pointer (some ⟨b, off, none⟩), vs.toArray, some vs.length, true)) (hr : WrAt r b off vs r')
    (hK : ∀ w', Own w0 E (L.set i r') w' → LW P ops Q rest (a.put dst undef) w') : LW P ops Q (⟨dst, .store T x y, ty, pos, after, g⟩ :: rest) a w := ⟨sqg hg (op_str off vs h i hi hx hr fun w' h => (hK w' h).out)⟩
theorem sq_app {α : Type} {enc : α → List Value} {l : List α} {dst : Option Tmp} {T : TypeId} {s x : Operand} {ty : TypeId} {pos : String} {after : Array Edge} {g : Option (Nat × Bool)} {v : Value} {b o size : Nat} {d : TypeId} {r : Res} (hg : Region.wanted ⟨dst, .call { callee := .builtin .append, args := #[s, x], argTypes := #[T, T] }, ty, pos, after, g⟩ (yielded ops a.tmps) = true) (c : Nat) (e : α)
    (hx : (a.eval s, a.eval x, P.underlying T, okInfo P d size, (enc e).length, (enc e).all (·.oneCell')) = (v, .slice (some ⟨b, o, none⟩) 1 c, some (.slice d), true, size, true))
    (h : Own w0 E L w) (i : Nat) (hi : L[i]? = some (rRows true v d size enc l)) (j : Nat) (hj : L[j]? = some r) (hr : RdAt r b o (enc e)) (hb : l.length < 100000000000)
    (hK : ∀ v' w', Own w0 E (L.set i (rRows true v' d size enc (l ++ [e]))) w' → LW P ops Q rest (a.put dst v') w') : LW P ops Q (⟨dst, .call { callee := .builtin .append, args := #[s, x], argTypes := #[T, T] }, ty, pos, after, g⟩ :: rest) a w := ⟨sqg hg (op_app c e hx h i hi j hj hr hb fun v' w' h => (hK v' w' h).out)⟩
/-- An empty slice is owned at no cost. -/
theorem Own.nilSl (h : Own w0 E L w) (T k : Nat) : Own w0 E (rSl true (.slice none 0 0) T k 0 [] :: L) w := h.push (Chg.refl _ _) (rSl_nil _ _ _ _) (fun b hb => (hb : False).elim)
theorem Own.nilRows {α : Type} (h : Own w0 E L w) (T k : Nat) (enc : α → List Value) : Own w0 E (rRows true (.slice none 0 0) T k enc [] :: L) w := h.nilSl T k

/-! ### In whatever order -/
theorem yq {o : Oper} {v : Value} (hg : Region.wanted o (yielded ops a.tmps) = true) (hv : Gives P w0 E L o a v) : YieldsIf P ops (Own w0 E L) o v a := .inl ⟨hg, hv⟩
theorem ym1 {o : Oper} {v : Value} (B : Bool) (hg : Region.wanted o (yielded ops a.tmps) = B) (hv : B = true → Gives P w0 E L o a v) : YieldsIf P ops (Own w0 E L) o (if B = true then v else undef) a := by
  cases B
  · exact .inr ⟨hg, rfl⟩
  · exact .inl ⟨hg, hv rfl⟩
theorem ym0 {o : Oper} {v : Value} (B : Bool) (hg : Region.wanted o (yielded ops a.tmps) = !B) (hv : B = false → Gives P w0 E L o a v) : YieldsIf P ops (Own w0 E L) o (if B = false then v else undef) a := by
  cases B
  · exact .inl ⟨hg, hv rfl⟩
  · exact .inr ⟨hg, rfl⟩

/-! ### Cuts, the beginning, the end -/
theorem loop_end' {X : Type} {A : X → Act} {R : X → List Res} {G : X → Prop} {μ : X → Nat} {x : X} {a : Act} {w : World} (f : (Nat → Value) → X) (hG : G (f fun n => a.tmps.getD n undef) ∧ μ (f fun n => a.tmps.getD n undef) < μ x) (ha : a = A (f fun n => a.tmps.getD n undef)) (is : List Nat) (hR : R (f fun n => a.tmps.getD n undef) = pk is L) (h : Own w0 E L w) :
    ∃ x', (G x' ∧ μ x' < μ x) ∧ a = A x' ∧ Own w0 E (R x') w := ⟨_, hG, ha, hR ▸ h.pick is⟩
theorem mid_end {X : Type} {A : X → Act} {R : X → List Res} {G : X → Prop} {a : Act} {w : World} (f : (Nat → Value) → X) (hG : G (f fun n => a.tmps.getD n undef)) (ha : a = A (f fun n => a.tmps.getD n undef)) (is : List Nat) (hR : R (f fun n => a.tmps.getD n undef) = pk is L) (h : Own w0 E L w) :
    ∃ x', G x' ∧ a = A x' ∧ Own w0 E (R x') w := ⟨_, hG, ha, hR ▸ h.pick is⟩
/-- Behind a piece of code, if it ends, M is so. -/
def Mid (M : Act → World → Prop) (Q : Exit → Act → World → Prop) : Exit → Act → World → Prop
  | .normal, a, w => M a w
  | e, a, w => Q e a w
theorem c_mid {c : Code} (M : Act → World → Prop) (h : CW P c (Mid M Q) a w) (hM : ∀ a w, M a w → Q .normal a w) : CW P c Q a w :=
  ⟨wp_mono h.out fun e a w hq => by cases e <;> first | exact hM _ _ hq | exact hq⟩
/-- Code behind code. -/
def Thn (P : Program) (y : Code) (Q : Exit → Act → World → Prop) : Exit → Act → World → Prop
  | .normal, a, w => CW P y Q a w
  | e, a, w => Q e a w
theorem c_seq {x y : Code} (h : CW P x (Thn P y Q) a w) : CW P (.seq x y) Q a w := ⟨wp_seq (wp_mono h.out fun e a w hq => by cases e <;> first | exact hq.out | exact hq)⟩
theorem c_skip (h : Q .normal a w) : CW P .skip Q a w := ⟨wp_skip h⟩
theorem c_ret (h : Q .ret a w) : CW P .ret Q a w := ⟨wp_ret h⟩
theorem c_exit {id : Nat} (h : Q (.exit id) a w) : CW P (.exit id) Q a w := ⟨wp_exit h⟩
theorem c_block {id : Nat} {c : Code} (h : CW P c (Exit.inBlock id Q) a w) : CW P (.block id c) Q a w := ⟨wp_block h.out⟩
theorem c_true {c : Operand} {x y : Code} (hc : a.eval c = .bool true) (h : CW P x Q a w) : CW P (.cond c x y) Q a w := ⟨wp_cond_true hc h.out⟩
theorem c_false {c : Operand} {x y : Code} (hc : a.eval c = .bool false) (h : CW P y Q a w) : CW P (.cond c x y) Q a w := ⟨wp_cond_false hc h.out⟩
theorem c_cond {c : Operand} {x y : Code} (t : Bool) (hc : a.eval c = .bool t) (ht : t = true → CW P x Q a w) (hf : t = false → CW P y Q a w) : CW P (.cond c x y) Q a w := ⟨wp_cond_split hc (fun e => (ht e).out) (fun e => (hf e).out)⟩
theorem c_reg {id : Nat} {l : List Oper} (h : LW P l.toArray Q l a w) : CW P (.region id l.toArray false) Q a w := ⟨wp_region_lit h.out⟩
/-- A loop: x tells what changes from round to round. -/
def Rnd {X : Type} (w0 : World) (E : Ent) (A : X → Act) (R : X → List Res) (G : X → Prop) (μ : X → Nat) (x : X) (Q : Exit → Act → World → Prop) : Exit → Act → World → Prop
  | .normal, a, w => ∃ x', (G x' ∧ μ x' < μ x) ∧ a = A x' ∧ Own w0 E (R x') w
  | e, a, w => Q e a w
theorem c_loop {X : Type} {body : Code} (A : X → Act) (R : X → List Res) (G : X → Prop) (μ : X → Nat) (x0 : X) (h0 : G x0) (ha : A x0 = a) (is : List Nat) (hR : R x0 = pk is L) (h : Own w0 E L w)
    (round : ∀ x w, G x → Own w0 E (R x) w → CW P body (Rnd w0 E A R G μ x Q) (A x) w) : CW P (.loop body) Q a w :=
  ⟨wp_loopO A R G μ x0 h0 ha is hR h fun x w hG hO => wp_mono (round x w hG hO).out fun e a w hq => by cases e <;> exact hq⟩
theorem rnd_e {X : Type} {A : X → Act} {R : X → List Res} {G : X → Prop} {μ : X → Nat} {x : X} {id : Nat} (h : Q (.exit id) a w) : Rnd w0 E A R G μ x Q (.exit id) a w := h
theorem rnd_r {X : Type} {A : X → Act} {R : X → List Res} {G : X → Prop} {μ : X → Nat} {x : X} (h : Q .ret a w) : Rnd w0 E A R G μ x Q .ret a w := h
theorem thn_n {y : Code} (h : CW P y Q a w) : Thn P y Q .normal a w := h
theorem thn_e {y : Code} {id : Nat} (h : Q (.exit id) a w) : Thn P y Q (.exit id) a w := h
theorem thn_r {y : Code} (h : Q .ret a w) : Thn P y Q .ret a w := h
theorem mid_n {M : Act → World → Prop} (h : M a w) : Mid M Q .normal a w := h
theorem mid_e {M : Act → World → Prop} {id : Nat} (h : Q (.exit id) a w) : Mid M Q (.exit id) a w := h
theorem mid_r {M : Act → World → Prop} (h : Q .ret a w) : Mid M Q .ret a w := h
theorem loop_end {X : Type} {A : X → Act} {R : X → List Res} {G : X → Prop} {μ : X → Nat} {x : X} {a : Act} {w : World} (f : (Nat → Value) → X) (hG : G (f fun n => a.tmps.getD n undef) ∧ μ (f fun n => a.tmps.getD n undef) < μ x) (ha : a = A (f fun n => a.tmps.getD n undef)) (is : List Nat) (hR : R (f fun n => a.tmps.getD n undef) = pk is L) (h : Own w0 E L w) :
    Rnd w0 E A R G μ x Q .normal a w := ⟨_, hG, ha, hR ▸ h.pick is⟩
theorem spec_of {f : FuncId} {fn : Func} {c : Code} {args : Array Value} {Φ : Value → List Res → Prop} (tm : Array Value) (hf : P.funcs[f]? = some fn) (hb : fn.body = some c) (ht : args ++ Array.replicate (fn.ntmps - args.size) undef = tm)
    (h : ∀ E w0 w, Own w0 E L w → CW P c (bodyPost P fn fun e w' => ∃ v L', Φ v L' ∧ e = .returned v ∧ Own w0 E L' w') ⟨tm, []⟩ w) : Spec P f args L Φ := fun E w0 w ho =>
  calls_of_wp hf hb (by rw [ht]; exact (h E w0 w ho).out)
/-- A contract of the elder kind that turns nothing. -/
theorem spec_quiet {f : FuncId} {args : Array Value} {v : Value} (h : ∀ w, Calls P f args w fun e w' => e = .returned v ∧ Chg Nil w w') : Spec P f args [] fun u L => u = v ∧ L = [] := fun E w0 w ho =>
  (h w).mono fun e w' ⟨he, hc⟩ => ⟨v, [], ⟨rfl, rfl⟩, he, ho.quiet hc⟩
theorem ret_end {fn : Func} {Φ : Value → List Res → Prop} {a : Act} (vs : List Value) (is : List Nat) (h : Own w0 E L w) (hd : a.defers = []) (hr : resV P L a.tmps fn.results.toList vs) (hΦ : Φ (retV vs) (pk is L)) :
    bodyPost P fn (fun e w' => ∃ v L', Φ v L' ∧ e = .returned v ∧ Own w0 E L' w') .ret a w := by
  obtain ⟨tm, ds⟩ := a
  obtain rfl : ds = [] := hd
  exact ret_O vs h hr ⟨_, _, hΦ, rfl, h.pick is⟩
theorem res_n {tm : Array Value} : resV P L tm [] [] := rfl
theorem res_t {tm : Array Value} {t : Tmp} {l : List ResultVar} {v : Value} {vs : List Value} (hv : tm.getD t undef = v) (h : resV P L tm l vs) : resV P L tm (.tmp t :: l) (v :: vs) := ⟨v, vs, rfl, hv, h⟩
theorem res_c {tm : Array Value} {p : Tmp} {T : TypeId} {l : List ResultVar} {vs : List Value} {wr : Bool} {b : Nat} {cs : List Value} {T' : TypeId} (off : Nat) (us : List Value) (v : Value) (i : Nat) (hi : L[i]? = some (rCell wr b cs T'))
    (hx : (tm.getD p undef, ldv P T us, (cs.drop off).take us.length) = (.pointer (some ⟨b, off, none⟩), some v, us)) (h : resV P L tm l vs) : resV P L tm (.cell p T :: l) (v :: vs) := by
  simp only [Prod.mk.injEq] at hx
  exact ⟨v, vs, b, off, us, _, rfl, hx.1, hx.2.1, List.mem_of_getElem? hi, rdCell off hx.2.2, h⟩
def resT (tm : Array Value) : ResultVar → Option Value
  | .tmp t => some (tm.getD t undef)
  | _ => none
/-- One result, several: all in temporaries. -/
theorem ret_t {fn : Func} {Φ : Value → List Res → Prop} {a : Act} (vs : List Value) (is : List Nat) (h : Own w0 E L w) (hr : (a.defers, fn.results.toList.map (resT a.tmps)) = ([], vs.map some)) (hΦ : Φ (retV vs) (pk is L)) :
    bodyPost P fn (fun e w' => ∃ v L', Φ v L' ∧ e = .returned v ∧ Own w0 E L' w') .ret a w := by
  obtain ⟨tm, ds⟩ := a
  simp only [Prod.mk.injEq] at hr
  obtain ⟨rfl, hr⟩ := hr
  refine ret_end vs is h rfl ?_ hΦ
  have : ∀ (l : List ResultVar) (vs : List Value), l.map (resT tm) = vs.map some → resV P L tm l vs := by
    intro l
    induction l with
    | nil => intro vs h; simpa [resV] using h.symm
    | cons x l ih =>
      intro vs h
      cases vs with
      | nil => simp at h
      | cons v vs =>
        simp only [List.map_cons, List.cons.injEq] at h
        cases x with
        | tmp t => exact ⟨v, vs, rfl, Option.some.inj h.1, ih vs h.2⟩
        | cell p T => cases h.1
  exact this _ _ hr
end
end Go.Proofs.YtgebinfbbopnlaaDoor
