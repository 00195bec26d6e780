/- A slice made of so many noughts, by what is owned. Over any program, no condition. -/
import Derived.Test.YtgebinfbbopnlaaDoorOp2
import Derived.Test.YtgebinfbbopnlaaDoorMake
namespace Go.Proofs.YtgebinfbbopnlaaDoor
open Go.RowKit
set_option linter.unusedVariables false
set_option linter.unusedSimpArgs false
section
variable {P : Program} {w0 w : World} {En : Ent} {L : List Res} {a : Act} {K : Act → World → Prop} {Q : Exit → Act → World → Prop} {rest : List Oper} {ops : Array Oper} {dst : Option Tmp} {T : TypeId} {n1 n2 : Operand} {ty : TypeId} {pos : String} {after : Array Edge} {g : Option (Nat × Bool)} {E : TypeId} {α : Type} {enc : α → List Value} {x0 : α} {z : Value} {n bytes : Nat}
theorem rep_flat2 (h : enc x0 = [z]) : ∀ n : Nat, (List.replicate n x0).flatMap enc = List.replicate n z
  | 0 => rfl
  | n + 1 => by rw [List.replicate_succ, List.flatMap_cons, rep_flat2 h n, h, List.replicate_succ]; rfl
theorem op_mks (x0 : α) (n : Nat) (henc : enc x0 = [z]) (hx : (a.eval n1, a.eval n2, P.underlying T, (P.info? E).map (fun i => (i.zero, i.size, i.bytes))) = (.int .i64 (n : Int), .int .i64 (n : Int), some (.slice E), some (some z, 1, bytes))) (hz : z.cells = #[z]) (hb : bytes * n ≤ 281474976710656) (hn : n ≤ 9223372036854775807) (h : Own w0 En L w)
    (hK : ∀ v w', Own w0 En (rRows true v E 1 enc (List.replicate n x0) :: L) w' → K (a.put dst v) w') : Oper.wp P ⟨dst, .makeSlice T n1 n2, ty, pos, after, g⟩ a w K Q := by
  simp only [Prod.mk.injEq] at hx
  obtain ⟨h1, h2, h3, h4⟩ := hx
  have hrun := mk_one (P := P) h3 h4 hz w n hb hn
  unfold Oper.wp
  simp [execOp, h1, h2, hrun, Result.andThen, Oper.upon]
  refine hK _ _ (h.push ((Chg.refl Nil w).alloc _) (r := rRows true (.slice (some ⟨w.heap.size, 0, none⟩) n n) E 1 enc (List.replicate n x0)) ?_ fun b hb => ?_)
  · show SliceAt _ _ _ _ _ _ _
    rw [List.length_replicate, rep_flat2 henc]
    exact (sliceAt_made' hn (block_alloc w _)).own.1
  · have : b = w.heap.size := by
      have hb' : blkOf (Value.slice (some ⟨w.heap.size, 0, none⟩) n n) b := hb
      simpa [blkOf] using hb'
    omega
theorem sq_mks (hg : Region.wanted ⟨dst, .makeSlice T n1 n2, ty, pos, after, g⟩ (yielded ops a.tmps) = true) (x0 : α) (n : Nat) (henc : enc x0 = [z]) (hx : (a.eval n1, a.eval n2, P.underlying T, (P.info? E).map (fun i => (i.zero, i.size, i.bytes))) = (.int .i64 (n : Int), .int .i64 (n : Int), some (.slice E), some (some z, 1, bytes))) (hz : z.cells = #[z]) (hb : bytes * n ≤ 281474976710656) (hn : n ≤ 9223372036854775807) (h : Own w0 En L w)
    (hK : ∀ v w', Own w0 En (rRows true v E 1 enc (List.replicate n x0) :: L) w' → LW P ops Q rest (a.put dst v) w') : LW P ops Q (⟨dst, .makeSlice T n1 n2, ty, pos, after, g⟩ :: rest) a w :=
  ⟨sqg hg (op_mks x0 n henc hx hz hb hn h fun v w' h => (hK v w' h).out)⟩
end
/-- What is known behind a piece of code. -/
def midM {X : Type} (w0 : World) (E : Ent) (A : X → Act) (R : X → List Res) (G : X → Prop) : Act → World → Prop := fun a w => ∃ x, G x ∧ a = A x ∧ Own w0 E (R x) w
end Go.Proofs.YtgebinfbbopnlaaDoor
