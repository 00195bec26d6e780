/- Two texts joined, by what is owned. Over any program, no condition. -/
import Derived.Test.YtofhnglgebllbaaDoorOp2
import Derived.Laws.Concat
namespace Go.Proofs.YtofhnglgebllbaaDoor
open Go.RowKit
set_option linter.unusedVariables false
theorem g_cat {P : Program} {a : Act} {w0 : World} {E : Ent} {L : List Res} {dst : Option Tmp} {x y : Operand} {T T2 ty : TypeId} {pos : String} {after : Array Edge} {g : Option (Nat × Bool)} {s t : ByteArray} (hx : (a.eval x, a.eval y) = (.string s, .string t)) (hl : s.size + t.size ≤ 9223372036854775807) :
    Gives P w0 E L ⟨dst, .binOp .add T x y T2, ty, pos, after, g⟩ a (.string (s ++ t)) := fun w _ => by
  simp only [Prod.mk.injEq] at hx
  simp [execOp, hx.1, hx.2, binOp_string_add, run_string_add_sum w s t hl, Result.andThen, eqGuard]
end Go.Proofs.YtofhnglgebllbaaDoor
