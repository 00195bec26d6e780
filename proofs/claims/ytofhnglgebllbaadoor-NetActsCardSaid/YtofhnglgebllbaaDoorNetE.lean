/- Messages compared, by value. -/
import Derived.Test.YtofhnglgebllbaaDoorNetP
import Derived.Test.YtofhnglgebllbaaDoorEqs
namespace Go.Proofs.YtofhnglgebllbaaDoor
open Go.RowKit Go.MapKept
set_option linter.unusedSectionVars false
set_option linter.unusedVariables false
set_option linter.unusedSimpArgs false
section
variable {P : Program} {a : Act} {w w0 : World} {E : Ent} {L : List Res} {dst : Option Tmp} {x y : Operand} {T T2 ty : TypeId} {pos : String} {after : Array Edge} {g : Option (Nat × Bool)}
theorem beqBy (x y : ByteArray) : (x == y) = decide (x = y) := by
  rw [Bool.eq_iff_iff, bytes_beq]; simp
theorem toList_eq {x y : ByteArray} : x.toList = y.toList ↔ x = y := by
  have := beqB x y
  rw [Bool.eq_iff_iff] at this
  simpa using this
theorem eqM3 (a1 b1 c1 a2 b2 c2 : ByteArray) (w : World) : (Op.equal 48 (.agg #[.string a1, .string b1, .string c1]) (.agg #[.string a2, .string b2, .string c2])).run Tryd.prog w = .ok (decide (a1 = a2) && (decide (b1 = b2) && decide (c1 = c2))) w := by
  unfold Op.equal
  rw [show Op.maxDepth = 9999 + 1 from rfl, run_equalIn_struct w 9999 48 _ _ (by kernel_rfl) (by kernel_rfl)]
  by_cases q1 : a1 = a2 <;> by_cases q2 : b1 = b2 <;> by_cases q3 : c1 = c2 <;> simp [go_sem, q1, q2, q3, beqBy, toList_eq]
theorem eqN3 (a1 b1 c1 a2 b2 c2 : ByteArray) (w : World) : (Op.equal 52 (.agg #[.string a1, .string b1, .string c1]) (.agg #[.string a2, .string b2, .string c2])).run Tryd.prog w = .ok (decide (a1 = a2) && (decide (b1 = b2) && decide (c1 = c2))) w := by
  unfold Op.equal
  rw [show Op.maxDepth = 9999 + 1 from rfl, run_equalIn_struct w 9999 52 _ _ (by kernel_rfl) (by kernel_rfl)]
  by_cases q1 : a1 = a2 <;> by_cases q2 : b1 = b2 <;> by_cases q3 : c1 = c2 <;> simp [go_sem, q1, q2, q3, beqBy, toList_eq]
theorem g_neM3 {a1 b1 c1 a2 b2 c2 : ByteArray} (hx : (a.eval x, a.eval y) = (.agg #[.string a1, .string b1, .string c1], .agg #[.string a2, .string b2, .string c2])) : Gives Tryd.prog w0 E L ⟨dst, .binOp .neq 48 x y T2, ty, pos, after, g⟩ a (.bool (!(decide (a1 = a2) && (decide (b1 = b2) && decide (c1 = c2))))) :=
  g_ne_of hx (fun w => by kernel_rfl) (eqM3 a1 b1 c1 a2 b2 c2) rfl
theorem g_neN3 {a1 b1 c1 a2 b2 c2 : ByteArray} (hx : (a.eval x, a.eval y) = (.agg #[.string a1, .string b1, .string c1], .agg #[.string a2, .string b2, .string c2])) : Gives Tryd.prog w0 E L ⟨dst, .binOp .neq 52 x y T2, ty, pos, after, g⟩ a (.bool (!(decide (a1 = a2) && (decide (b1 = b2) && decide (c1 = c2))))) :=
  g_ne_of hx (fun w => by kernel_rfl) (eqN3 a1 b1 c1 a2 b2 c2) rfl
end
end Go.Proofs.YtofhnglgebllbaaDoor
