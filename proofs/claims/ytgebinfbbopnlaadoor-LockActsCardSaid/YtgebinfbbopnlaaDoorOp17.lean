/- A whole slice appended in a region that draws its order; slices read out of any resource (SlRd): length, index. Over any program, no condition. -/
import Derived.Test.YtgebinfbbopnlaaDoorOp9
import Derived.Test.YtgebinfbbopnlaaDoorOp3
namespace Go.Proofs.YtgebinfbbopnlaaDoor
open Go.RowKit
set_option linter.unusedSectionVars false
set_option linter.unusedVariables false
set_option linter.unusedSimpArgs false
section
variable {P : Program} {a : Act} {w w0 : World} {E : Ent} {L M : List Res} {K : Act → World → Prop} {Q : Exit → Act → World → Prop} {ops : Array Oper} {br : Nat → Bool} {fuel : Nat} {listed : Array Bool} {i : Nat} {is : List Nat}
theorem ad_appw {α : Type} {enc : α → List Value} {l l2 : List α} {dst : Option Tmp} {T : TypeId} {s x : Operand} {ty : TypeId} {pos : String} {after : Array Edge} {g : Option (Nat × Bool)} {v v2 : Value} {size : Nat} {d : TypeId} {r : Res} (js : List Nat)
    (hi : ops[i]? = some ⟨dst, .call { callee := .builtin .append, args := #[s, x], argTypes := #[T, T] }, ty, pos, after, g⟩) (hb : (br i, Region.wanted ⟨dst, .call { callee := .builtin .append, args := #[s, x], argTypes := #[T, T] }, ty, pos, after, g⟩ (yielded ops a.tmps)) = (false, true))
    (hx : (a.eval s, a.eval x, P.underlying T, okInfo P d size) = (v, v2, some (.slice d), true)) (he : ∀ x, (enc x).length = size) (h1 : ∀ x, (enc x).all (·.oneCell') = true)
    (h : Own w0 E M w) (j : Nat) (hj : M[j]? = some (rRows true v d size enc l)) (k : Nat) (hk : M[k]? = some r) (hr : SlRd r v2 l2.length (l2.flatMap enc)) (hlen : l.length + l2.length < 100000000000)
    (hK : ∀ v' w', Own w0 E (M.set j (rRows true v' d size enc (l ++ l2))) w' → pk js (M.set j (rRows true v' d size enc (l ++ l2))) = L ∧ DW P ops Q w0 E br fuel (listed.setIfInBounds i true) L (a.put dst v') w') (hs : AllD P ops Q w0 E br fuel listed L a w is) : AllD P ops Q w0 E br fuel listed L a w (i :: is) := by
  simp only [Prod.mk.injEq] at hb
  exact ⟨AllO.cons hi hb.1 hb.2 (op_appw hx he h1 h j hj k hk hr hlen fun v' w' h' => ⟨h'.sub js (hK v' w' h').1, (hK v' w' h').2.out⟩) hs.out⟩
end
end Go.Proofs.YtgebinfbbopnlaaDoor
