/- Ranges compared, by value. -/
import Derived.Test.YtgebinfbbopnlaaDoorEqH
namespace Go.Proofs.YtgebinfbbopnlaaDoor
open Go.RowKit Go.MapKept
set_option linter.unusedSectionVars false
set_option linter.unusedVariables false
set_option linter.unusedSimpArgs false
section
variable {P : Program} {a : Act} {w w0 : World} {E : Ent} {L : List Res} {dst : Option Tmp} {x y : Operand} {T T2 ty : TypeId} {pos : String} {after : Array Edge} {g : Option (Nat × Bool)}
theorem eqR (n1 g1 n2 g2 : Int) (w : World) : (Op.equal 63 (.agg #[.int .i64 n1, .int .i64 g1]) (.agg #[.int .i64 n2, .int .i64 g2])).run Tryd.prog w = .ok (decide (n1 = n2) && decide (g1 = g2)) w := by
  unfold Op.equal
  rw [show Op.maxDepth = 9999 + 1 from rfl, run_equalIn_struct w 9999 63 _ _ (by kernel_rfl) (by kernel_rfl)]
  by_cases c1 : n1 = n2 <;> by_cases c2 : g1 = g2 <;> simp [go_sem, c1, c2]
theorem g_eqR {n1 g1 n2 g2 : Int} (hx : (a.eval x, a.eval y) = (.agg #[.int .i64 n1, .int .i64 g1], .agg #[.int .i64 n2, .int .i64 g2])) : Gives Tryd.prog w0 E L ⟨dst, .binOp .eql 63 x y T2, ty, pos, after, g⟩ a (.bool (decide (n1 = n2) && decide (g1 = g2))) :=
  g_eq_of hx (fun w => by kernel_rfl) (eqR n1 g1 n2 g2) rfl
theorem g_neR {n1 g1 n2 g2 : Int} (hx : (a.eval x, a.eval y) = (.agg #[.int .i64 n1, .int .i64 g1], .agg #[.int .i64 n2, .int .i64 g2])) : Gives Tryd.prog w0 E L ⟨dst, .binOp .neq 63 x y T2, ty, pos, after, g⟩ a (.bool (!(decide (n1 = n2) && decide (g1 = g2)))) :=
  g_ne_of hx (fun w => by kernel_rfl) (eqR n1 g1 n2 g2) rfl
end
end Go.Proofs.YtgebinfbbopnlaaDoor
