/- The operations' laws by what is owned: max and min of ints; what is owned, in another order. Over any program, no condition. -/
import Derived.Test.YtgebinfbbopnlaaDoorOp8
import Derived.Test.YtgebinfbbopnlaaDoorOp10
namespace Go.Proofs.YtgebinfbbopnlaaDoor
open Go.RowKit
set_option linter.unusedSectionVars false
set_option linter.unusedVariables false
set_option linter.unusedSimpArgs false
section
variable {P : Program} {a : Act} {w w0 : World} {E : Ent} {L : List Res} {dst : Option Tmp} {x y : Operand} {T ty : TypeId} {pos : String} {after : Array Edge} {g : Option (Nat × Bool)} {u v : Int}
theorem g_maxI (hx : (a.eval x, a.eval y) = (.int .i64 u, .int .i64 v)) : Gives P w0 E L ⟨dst, .call { callee := .builtin .max, args := #[x, y], argTypes := #[T, T] }, ty, pos, after, g⟩ a (.int .i64 (max u v)) := fun w _ => by
  simp only [Prod.mk.injEq] at hx
  have e : (if v > u then v else u) = max u v := by split <;> omega
  simp [execOp, resolve, invoke, builtin, hx.1, hx.2, Builtin.max_, Builtin.max2, Result.andThen, -gt_iff_lt]
  rw [e]
theorem g_minI (hx : (a.eval x, a.eval y) = (.int .i64 u, .int .i64 v)) : Gives P w0 E L ⟨dst, .call { callee := .builtin .min, args := #[x, y], argTypes := #[T, T] }, ty, pos, after, g⟩ a (.int .i64 (min u v)) := fun w _ => by
  simp only [Prod.mk.injEq] at hx
  have e : (if v < u then v else u) = min u v := by split <;> omega
  simp [execOp, resolve, invoke, builtin, hx.1, hx.2, Builtin.min_, Builtin.min2, Result.andThen]
  rw [e]
theorem Own.pickE {L M : List Res} (h : Own w0 E L w) (is : List Nat) (e : pk is L = M) : Own w0 E M w := e ▸ h.pick is
end
end Go.Proofs.YtgebinfbbopnlaaDoor
