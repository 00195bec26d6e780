/- The reference's locks compared, by value. -/
import Derived.Test.YtgebinfbbopnlaaDoorEqH
namespace Go.Proofs.YtgebinfbbopnlaaDoor
open Go.RowKit Go.MapKept
set_option linter.unusedSectionVars false
set_option linter.unusedVariables false
set_option linter.unusedSimpArgs false
section
variable {P : Program} {a : Act} {w w0 : World} {E : Ent} {L : List Res} {dst : Option Tmp} {x y : Operand} {T T2 ty : TypeId} {pos : String} {after : Array Edge} {g : Option (Nat × Bool)}
set_option maxHeartbeats 2000000 in
theorem eqL6 (a0 a1 a2 a3 a4 b0 b1 b2 b3 b4 : Int) (a5 b5 : Bool) (w : World) : (Op.equal 70 (.agg #[.int .i64 a0, .int .i64 a1, .int .i64 a2, .int .i64 a3, .int .i64 a4, .bool a5]) (.agg #[.int .i64 b0, .int .i64 b1, .int .i64 b2, .int .i64 b3, .int .i64 b4, .bool b5])).run Tryd.prog w = .ok (decide (a0 = b0) && (decide (a1 = b1) && (decide (a2 = b2) && (decide (a3 = b3) && (decide (a4 = b4) && (a5 == b5)))))) w := by
  unfold Op.equal
  rw [show Op.maxDepth = 9999 + 1 from rfl, run_equalIn_struct w 9999 70 _ _ (by kernel_rfl) (by kernel_rfl)]
  by_cases c0 : a0 = b0
  rotate_left
  · simp [go_sem, c0]
  by_cases c1 : a1 = b1
  rotate_left
  · simp [go_sem, c0, c1]
  by_cases c2 : a2 = b2
  rotate_left
  · simp [go_sem, c0, c1, c2]
  by_cases c3 : a3 = b3
  rotate_left
  · simp [go_sem, c0, c1, c2, c3]
  by_cases c4 : a4 = b4
  rotate_left
  · simp [go_sem, c0, c1, c2, c3, c4]
  cases a5 <;> cases b5 <;> simp [go_sem, c0, c1, c2, c3, c4]
theorem g_eqL6 {a0 a1 a2 a3 a4 b0 b1 b2 b3 b4 : Int} {a5 b5 : Bool} (hx : (a.eval x, a.eval y) = (.agg #[.int .i64 a0, .int .i64 a1, .int .i64 a2, .int .i64 a3, .int .i64 a4, .bool a5], .agg #[.int .i64 b0, .int .i64 b1, .int .i64 b2, .int .i64 b3, .int .i64 b4, .bool b5])) : Gives Tryd.prog w0 E L ⟨dst, .binOp .eql 70 x y T2, ty, pos, after, g⟩ a (.bool (decide (a0 = b0) && (decide (a1 = b1) && (decide (a2 = b2) && (decide (a3 = b3) && (decide (a4 = b4) && (a5 == b5))))))) :=
  g_eq_of hx (fun w => by kernel_rfl) (eqL6 a0 a1 a2 a3 a4 b0 b1 b2 b3 b4 a5 b5) rfl
theorem g_neL6 {a0 a1 a2 a3 a4 b0 b1 b2 b3 b4 : Int} {a5 b5 : Bool} (hx : (a.eval x, a.eval y) = (.agg #[.int .i64 a0, .int .i64 a1, .int .i64 a2, .int .i64 a3, .int .i64 a4, .bool a5], .agg #[.int .i64 b0, .int .i64 b1, .int .i64 b2, .int .i64 b3, .int .i64 b4, .bool b5])) : Gives Tryd.prog w0 E L ⟨dst, .binOp .neq 70 x y T2, ty, pos, after, g⟩ a (.bool (!(decide (a0 = b0) && (decide (a1 = b1) && (decide (a2 = b2) && (decide (a3 = b3) && (decide (a4 = b4) && (a5 == b5)))))))) :=
  g_ne_of hx (fun w => by kernel_rfl) (eqL6 a0 a1 a2 a3 a4 b0 b1 b2 b3 b4 a5 b5) rfl
end
end Go.Proofs.YtgebinfbbopnlaaDoor
