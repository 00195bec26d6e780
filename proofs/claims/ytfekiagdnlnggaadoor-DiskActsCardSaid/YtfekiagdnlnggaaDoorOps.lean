/- Operations under a name of the caller's choice: min and max of two ints. Over any program. -/
import Derived.Test.YtfekiagdnlnggaaDoorBase
namespace Go.Proofs.YtfekiagdnlnggaaDoor
open Go.RowKit
set_option linter.unusedVariables false
set_option linter.unusedSimpArgs false
section
variable {P : Program} {w : World} {ops : Array Oper} {rest : List Oper} {o : Oper} {a : Act} {Q : Exit → Act → World → Prop}
theorem wpList_maxI (hg : o.guard = none) (x y : Operand) (T : TypeId) (hop : o.op = .call { callee := .builtin .max, args := #[x, y], argTypes := #[T, T] }) (u v z : Int) (hx : a.eval x = .int .i64 u) (hy : a.eval y = .int .i64 v) (hz : z = max u v)
    (hK : wpList P ops Q rest (a.put o.dst (.int .i64 z)) w) : wpList P ops Q (o :: rest) a w := by
  refine wpList_plain hg fun K' hK' => ?_
  have e : (if v > u then v else u) = z := by rw [hz]; split <;> omega
  unfold Oper.wp
  simp [execOp, hop, resolve, invoke, builtin, hx, hy, Builtin.max_, Builtin.max2, Result.andThen, -gt_iff_lt]
  rw [e]
  exact hK' _ _ hK
theorem wpList_minI (hg : o.guard = none) (x y : Operand) (T : TypeId) (hop : o.op = .call { callee := .builtin .min, args := #[x, y], argTypes := #[T, T] }) (u v z : Int) (hx : a.eval x = .int .i64 u) (hy : a.eval y = .int .i64 v) (hz : z = min u v)
    (hK : wpList P ops Q rest (a.put o.dst (.int .i64 z)) w) : wpList P ops Q (o :: rest) a w := by
  refine wpList_plain hg fun K' hK' => ?_
  have e : (if v < u then v else u) = z := by rw [hz]; split <;> omega
  unfold Oper.wp
  simp [execOp, hop, resolve, invoke, builtin, hx, hy, Builtin.min_, Builtin.min2, Result.andThen]
  rw [e]
  exact hK' _ _ hK
end
end Go.Proofs.YtfekiagdnlnggaaDoor
