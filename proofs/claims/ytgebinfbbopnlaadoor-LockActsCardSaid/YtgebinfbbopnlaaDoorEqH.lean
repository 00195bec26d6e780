/- Structs compared, by value. -/
import Derived.Test.YtgebinfbbopnlaaDoorOp2
namespace Go.Proofs.YtgebinfbbopnlaaDoor
open Go.RowKit Go.MapKept
set_option linter.unusedSectionVars false
set_option linter.unusedVariables false
set_option linter.unusedSimpArgs false
theorem beqB (x y : ByteArray) : (x.toList == y.toList) = decide (x = y) := by
  rw [← beq_toListBytes, Bool.eq_iff_iff, bytes_beq]; simp
theorem beqS {x y : ByteArray} : Value.bool (x.toList == y.toList) = Value.bool (decide (x = y)) := by rw [beqB]
theorem bneS {x y : ByteArray} : Value.bool (!(x.toList == y.toList)) = Value.bool (!decide (x = y)) := by rw [beqB]
section
variable {P : Program} {a : Act} {w w0 : World} {E : Ent} {L : List Res} {dst : Option Tmp} {x y : Operand} {T T2 ty : TypeId} {pos : String} {after : Array Edge} {g : Option (Nat × Bool)}
theorem g_eq_of {v1 v2 : Value} {b : Bool} (hx : (a.eval x, a.eval y) = (v1, v2)) (h1 : ∀ w, (eqGuard .eql T x y v1 v2).run P w = .ok () w) (h2 : ∀ w, (Op.equal T v1 v2).run P w = .ok b w) (h3 : binOp .eql T v1 v2 = do pure (.bool (← Op.equal T v1 v2))) :
    Gives P w0 E L ⟨dst, .binOp .eql T x y T2, ty, pos, after, g⟩ a (.bool b) := fun w _ => by
  simp only [Prod.mk.injEq] at hx
  simp only [execOp, hx.1, hx.2, h3, Sem.run_bind, h1, h2, Result.andThen_ok, Sem.run_pure]
theorem g_ne_of {v1 v2 : Value} {b : Bool} (hx : (a.eval x, a.eval y) = (v1, v2)) (h1 : ∀ w, (eqGuard .neq T x y v1 v2).run P w = .ok () w) (h2 : ∀ w, (Op.equal T v1 v2).run P w = .ok b w) (h3 : binOp .neq T v1 v2 = do pure (.bool (!(← Op.equal T v1 v2)))) :
    Gives P w0 E L ⟨dst, .binOp .neq T x y T2, ty, pos, after, g⟩ a (.bool (!b)) := fun w _ => by
  simp only [Prod.mk.injEq] at hx
  simp only [execOp, hx.1, hx.2, h3, Sem.run_bind, h1, h2, Result.andThen_ok, Sem.run_pure]
theorem eqH (n1 g1 n2 g2 : Int) (w : World) : (Op.equal 33 (.agg #[.int .i64 n1, .int .i64 g1]) (.agg #[.int .i64 n2, .int .i64 g2])).run Tryd.prog w = .ok (decide (n1 = n2) && decide (g1 = g2)) w := by
  unfold Op.equal
  rw [show Op.maxDepth = 9999 + 1 from rfl, run_equalIn_struct w 9999 33 _ _ (by kernel_rfl) (by kernel_rfl)]
  by_cases c1 : n1 = n2 <;> by_cases c2 : g1 = g2 <;> simp [go_sem, c1, c2]
theorem g_eqH {n1 g1 n2 g2 : Int} (hx : (a.eval x, a.eval y) = (.agg #[.int .i64 n1, .int .i64 g1], .agg #[.int .i64 n2, .int .i64 g2])) : Gives Tryd.prog w0 E L ⟨dst, .binOp .eql 33 x y T2, ty, pos, after, g⟩ a (.bool (decide (n1 = n2) && decide (g1 = g2))) :=
  g_eq_of hx (fun w => by kernel_rfl) (eqH n1 g1 n2 g2) rfl
theorem g_neH {n1 g1 n2 g2 : Int} (hx : (a.eval x, a.eval y) = (.agg #[.int .i64 n1, .int .i64 g1], .agg #[.int .i64 n2, .int .i64 g2])) : Gives Tryd.prog w0 E L ⟨dst, .binOp .neq 33 x y T2, ty, pos, after, g⟩ a (.bool (!(decide (n1 = n2) && decide (g1 = g2)))) :=
  g_ne_of hx (fun w => by kernel_rfl) (eqH n1 g1 n2 g2) rfl
end
end Go.Proofs.YtgebinfbbopnlaaDoor
