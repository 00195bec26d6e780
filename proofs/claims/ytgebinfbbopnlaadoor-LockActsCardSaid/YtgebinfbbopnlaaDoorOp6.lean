/- Maps by what is owned: a map told by its entries in the order of their laying (rMap): made, asked, stored into, deleted from, its length. Over any program, no condition. -/
import Derived.Test.YtgebinfbbopnlaaDoorOp4
import Derived.Test.YtgebinfbbopnlaaDoorOp3
import Derived.Test.YtgebinfbbopnlaaDoorBase
namespace Go.Proofs.YtgebinfbbopnlaaDoor
open Go.RowKit
set_option linter.unusedSectionVars false
set_option linter.unusedVariables false
set_option linter.unusedSimpArgs false

/-- Block r is a map with just these entries. -/
def rMap {α : Type} (wr : Bool) (r : Nat) (f : α → Value) (kv : List (α × Value)) : Res :=
  ⟨wr, (· = r), fun w => MapA w r f kv, fun w w' h _ hb => by
    obtain ⟨es, clock, h1, h2⟩ := h
    exact ⟨es, clock, (hb r rfl).trans h1, h2⟩, fun w b h e => by
    have : b = r := e
    obtain ⟨es, clock, h1, h2⟩ := h
    rw [this]; exact lt_of_block h1⟩
section
variable {α : Type} [DecidableEq α] {P : Program} {a : Act} {w w0 : World} {En : Ent} {L M : List Res} {Ka : Act → World → Prop} {Q : Exit → Act → World → Prop} {ops : Array Oper} {rest : List Oper} {K E : TypeId} {f : α → Value} {kv : List (α × Value)}
variable {dst : Option Tmp} {m x v : Operand} {T ty : TypeId} {pos : String} {after : Array Edge} {g : Option (Nat × Bool)} {r : Nat}
/-- m[k]; with ok: whether it is there. -/
theorem g_look {wr ok : Bool} {z : Value} (F : KeyFn P K f) (k : α) (hx : (a.eval m, a.eval x, P.underlying T) = (.map (some r), f k, some (.map K E))) (hz : ∀ w, (zeroValue E).run P w = .ok z w) (i : Nat) (hi : L[i]? = some (rMap wr r f kv)) :
    Gives P w0 En L ⟨dst, .lookup T m x ok, ty, pos, after, g⟩ a (if ok then .tuple #[(aget kv k).getD z, .bool (aget kv k).isSome] else (aget kv k).getD z) := fun w ho => by
  simp only [Prod.mk.injEq] at hx
  have h : MapA w r f kv := ho.fact i hi
  simp [execOp, hx.1, hx.2.1, h.run_lookup F hx.2.2 (hz w) k ok, Result.andThen]
/-- The zero map asked. -/
theorem g_look0 {ok : Bool} {z : Value} (F : KeyFn P K f) (k : α) (hx : (a.eval m, a.eval x, P.underlying T) = (.map none, f k, some (.map K E))) (hz : ∀ w, (zeroValue E).run P w = .ok z w) :
    Gives P w0 En L ⟨dst, .lookup T m x ok, ty, pos, after, g⟩ a (if ok then .tuple #[z, .bool false] else z) := fun w ho => by
  simp only [Prod.mk.injEq] at hx
  simp [execOp, hx.1, hx.2.1, run_lookup_nilmap F hx.2.2 (hz w) k ok, Result.andThen]
theorem op_mapu (F : KeyFn P K f) (k : α) (u : Value) (hx : (a.eval m, a.eval x, a.eval v, P.underlying T) = (.map (some r), f k, u, some (.map K E))) (h : Own w0 En L w) (i : Nat) (hi : L[i]? = some (rMap true r f kv))
    (hK : ∀ w', Own w0 En (L.set i (rMap true r f (aput kv k u))) w' → Ka (a.put dst undef) w') : Oper.wp P ⟨dst, .mapUpdate T m x v, ty, pos, after, g⟩ a w Ka Q := by
  simp only [Prod.mk.injEq] at hx
  have hm : MapA w r f kv := h.fact i hi
  obtain ⟨w', hr, h1, h2, h3⟩ := hm.run_update F hx.2.2.2 k u
  unfold Oper.wp
  simp [execOp, hx.1, hx.2.1, hx.2.2.1, hr, Result.andThen, Oper.upon]
  exact hK _ (h.upd i hi rfl h2 h1 fun b hb => .inl hb)
theorem op_mapd {Kt : TypeId} (F : KeyFn P K f) (k : α) (hx : (a.eval m, a.eval x, P.underlying T) = (.map (some r), f k, some (.map K E))) (h : Own w0 En L w) (i : Nat) (hi : L[i]? = some (rMap true r f kv))
    (hK : ∀ w', Own w0 En (L.set i (rMap true r f (adel kv k))) w' → Ka (a.put dst (.tuple #[])) w') : Oper.wp P ⟨dst, .call { callee := .builtin .delete, args := #[m, x], argTypes := #[T, Kt] }, ty, pos, after, g⟩ a w Ka Q := by
  simp only [Prod.mk.injEq] at hx
  have hm : MapA w r f kv := h.fact i hi
  obtain ⟨w', hr, h1, h2, h3⟩ := hm.run_delete (Kt := Kt) (ty := ty) F hx.2.2 k
  unfold Oper.wp
  simp [execOp, resolve, invoke, builtin, hx.1, hx.2.1, hr, Result.andThen, Oper.upon]
  exact hK _ (h.upd i hi rfl h2 h1 fun b hb => .inl hb)
/-- A map made. -/
theorem op_newm {o : Oper} (f : α → Value) (hrun : ∀ w, (execOp a.eval o).run P w = .ok (.value (.map (some w.heap.size))) (w.alloc (.map #[] 0)))
    (h : Own w0 En L w) (hK : ∀ b w', Own w0 En (rMap true b f [] :: L) w' → Ka (a.put o.dst (.map (some b))) w') : o.wp P a w Ka Q := by
  unfold Oper.wp; rw [hrun]
  exact hK _ _ (h.push ((Chg.refl Nil w).alloc _) (mapA_made w f) (fun b hb => by have : b = w.heap.size := hb; omega))
theorem sq_newm {o : Oper} (hg : Region.wanted o (yielded ops a.tmps) = true) (f : α → Value) (hrun : ∀ w, (execOp a.eval o).run P w = .ok (.value (.map (some w.heap.size))) (w.alloc (.map #[] 0)))
    (h : Own w0 En L w) (hK : ∀ b w', Own w0 En (rMap true b f [] :: L) w' → LW P ops Q rest (a.put o.dst (.map (some b))) w') : LW P ops Q (o :: rest) a w := ⟨sqg hg (op_newm f hrun h fun b w' h => (hK b w' h).out)⟩
theorem sq_mapu (hg : Region.wanted ⟨dst, .mapUpdate T m x v, ty, pos, after, g⟩ (yielded ops a.tmps) = true) (F : KeyFn P K f) (k : α) (u : Value) (hx : (a.eval m, a.eval x, a.eval v, P.underlying T) = (.map (some r), f k, u, some (.map K E))) (h : Own w0 En L w) (i : Nat) (hi : L[i]? = some (rMap true r f kv))
    (hK : ∀ w', Own w0 En (L.set i (rMap true r f (aput kv k u))) w' → LW P ops Q rest (a.put dst undef) w') : LW P ops Q (⟨dst, .mapUpdate T m x v, ty, pos, after, g⟩ :: rest) a w := ⟨sqg hg (op_mapu F k u hx h i hi fun w' h => (hK w' h).out)⟩
theorem sq_mapd {Kt : TypeId} (hg : Region.wanted ⟨dst, .call { callee := .builtin .delete, args := #[m, x], argTypes := #[T, Kt] }, ty, pos, after, g⟩ (yielded ops a.tmps) = true) (F : KeyFn P K f) (k : α) (hx : (a.eval m, a.eval x, P.underlying T) = (.map (some r), f k, some (.map K E))) (h : Own w0 En L w) (i : Nat) (hi : L[i]? = some (rMap true r f kv))
    (hK : ∀ w', Own w0 En (L.set i (rMap true r f (adel kv k))) w' → LW P ops Q rest (a.put dst (.tuple #[])) w') : LW P ops Q (⟨dst, .call { callee := .builtin .delete, args := #[m, x], argTypes := #[T, Kt] }, ty, pos, after, g⟩ :: rest) a w := ⟨sqg hg (op_mapd F k hx h i hi fun w' h => (hK w' h).out)⟩
theorem g_lenm {wr : Bool} (hx : (a.eval x, P.underlying T) = (.map (some r), some (.map K E))) (i : Nat) (hi : L[i]? = some (rMap wr r f kv)) :
    Gives P w0 En L ⟨dst, .call { callee := .builtin .len, args := #[x], argTypes := #[T] }, ty, pos, after, g⟩ a (.int .i64 (kv.length : Int)) := fun w ho => by
  simp only [Prod.mk.injEq] at hx
  have h : MapA w r f kv := ho.fact i hi
  have hr := MapV.run_len (ty := ty) hx.2 (.inr ⟨r, rfl, h⟩)
  simp [execOp, resolve, invoke, builtin, hx.1, hr, Result.andThen]
variable {br : Nat → Bool} {fuel i : Nat} {listed : Array Bool} {is : List Nat}
theorem ad_newm {o : Oper} (js : List Nat) (hi : ops[i]? = some o) (hb : (br i, Region.wanted o (yielded ops a.tmps)) = (false, true)) (f : α → Value) (hrun : ∀ w, (execOp a.eval o).run P w = .ok (.value (.map (some w.heap.size))) (w.alloc (.map #[] 0)))
    (h : Own w0 En M w) (hK : ∀ b w', Own w0 En (rMap true b f [] :: M) w' → pk js (rMap true b f [] :: M) = L ∧ DW P ops Q w0 En br fuel (listed.setIfInBounds i true) L (a.put o.dst (.map (some b))) w') (hs : AllD P ops Q w0 En br fuel listed L a w is) : AllD P ops Q w0 En br fuel listed L a w (i :: is) := by
  simp only [Prod.mk.injEq] at hb
  exact ⟨AllO.cons hi hb.1 hb.2 (op_newm f hrun h fun b w' h' => ⟨h'.sub js (hK b w' h').1, (hK b w' h').2.out⟩) hs.out⟩
theorem ad_mapu (js : List Nat) (hi : ops[i]? = some ⟨dst, .mapUpdate T m x v, ty, pos, after, g⟩) (hb : (br i, Region.wanted ⟨dst, .mapUpdate T m x v, ty, pos, after, g⟩ (yielded ops a.tmps)) = (false, true)) (F : KeyFn P K f) (k : α) (u : Value) (hx : (a.eval m, a.eval x, a.eval v, P.underlying T) = (.map (some r), f k, u, some (.map K E))) (h : Own w0 En M w) (j : Nat) (hj : M[j]? = some (rMap true r f kv))
    (hK : ∀ w', Own w0 En (M.set j (rMap true r f (aput kv k u))) w' → pk js (M.set j (rMap true r f (aput kv k u))) = L ∧ DW P ops Q w0 En br fuel (listed.setIfInBounds i true) L (a.put dst undef) w') (hs : AllD P ops Q w0 En br fuel listed L a w is) : AllD P ops Q w0 En br fuel listed L a w (i :: is) := by
  simp only [Prod.mk.injEq] at hb
  exact ⟨AllO.cons hi hb.1 hb.2 (op_mapu F k u hx h j hj fun w' h' => ⟨h'.sub js (hK w' h').1, (hK w' h').2.out⟩) hs.out⟩
theorem ad_mapd {Kt : TypeId} (js : List Nat) (hi : ops[i]? = some ⟨dst, .call { callee := .builtin .delete, args := #[m, x], argTypes := #[T, Kt] }, ty, pos, after, g⟩) (hb : (br i, Region.wanted ⟨dst, .call { callee := .builtin .delete, args := #[m, x], argTypes := #[T, Kt] }, ty, pos, after, g⟩ (yielded ops a.tmps)) = (false, true)) (F : KeyFn P K f) (k : α) (hx : (a.eval m, a.eval x, P.underlying T) = (.map (some r), f k, some (.map K E))) (h : Own w0 En M w) (j : Nat) (hj : M[j]? = some (rMap true r f kv))
    (hK : ∀ w', Own w0 En (M.set j (rMap true r f (adel kv k))) w' → pk js (M.set j (rMap true r f (adel kv k))) = L ∧ DW P ops Q w0 En br fuel (listed.setIfInBounds i true) L (a.put dst (.tuple #[])) w') (hs : AllD P ops Q w0 En br fuel listed L a w is) : AllD P ops Q w0 En br fuel listed L a w (i :: is) := by
  simp only [Prod.mk.injEq] at hb
  exact ⟨AllO.cons hi hb.1 hb.2 (op_mapd F k hx h j hj fun w' h' => ⟨h'.sub js (hK w' h').1, (hK w' h').2.out⟩) hs.out⟩
end
end Go.Proofs.YtgebinfbbopnlaaDoor
