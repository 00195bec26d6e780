/- An argument that is a slice, told by its elements and only read (rArg). Over any program, no condition. -/
import Derived.Test.YtgebinfbbopnlaaDoorEnvR
import Derived.Test.YtgebinfbbopnlaaDoorShape
namespace Go.Proofs.YtgebinfbbopnlaaDoor
open Go.RowKit
set_option linter.unusedSectionVars false
set_option linter.unusedVariables false
set_option linter.unusedSimpArgs false

/-- A slice whose elements are l, each as enc tells (k cells); it is only read. -/
def rArg {α : Type} (v : Value) (k : Nat) (enc : α → List Value) (l : List α) : Res :=
  ⟨false, fun b => b = blkN v ∧ ∃ (i : Nat) (x : α) (r : Nat) (u : Value), l[i]? = some x ∧ (enc x)[r]? = some u,
   fun w => (∃ ad cap, v = .slice ad l.length cap ∧ cap ≤ 9223372036854775807 ∧ l.length ≤ cap ∧ (∀ i, i < l.length → ad = some ⟨blkN v, offN v, none⟩)) ∧ ∀ (i : Nat) x, l[i]? = some x → ∀ (r : Nat) u, (enc x)[r]? = some u → w.cell? ⟨blkN v, offN v + i * k + r, none⟩ = some u,
   fun w w' h _ hb => ⟨h.1, fun i x hx r u hu => by rw [World.cell?_of_block (w := w) (hb (blkN v) ⟨rfl, i, x, r, u, hx, hu⟩)]; exact h.2 i x hx r u hu⟩,
   fun w b h ⟨hb, i, x, r, u, hx, hu⟩ => by rw [hb]; exact World.block_lt_of_cell? w _ (h.2 i x hx r u hu)⟩
theorem arg_of_sh {W : World} {s : Sh} {a0 : Option Addr} {cap : Nat} {l : List s.D} (h : (Sh.slice s).At W W.heap.size (a0, cap, l)) : (rArg (.slice a0 l.length cap) s.size s.cells l).fact W := by
  obtain ⟨h1, h2, h3⟩ := h
  refine ⟨⟨a0, cap, rfl, h2, h1, fun i hi => ?_⟩, fun i x hx r u hu => ?_⟩
  · obtain ⟨_, g, off, e, _⟩ := h3 i l[i] (List.getElem?_eq_getElem hi)
    have e' : a0 = _ := e
    rw [e']; rfl
  · obtain ⟨_, g, off, e, _, hc⟩ := h3 i x hx
    have e' : a0 = _ := e
    subst e'
    exact hc r u hu
theorem rdArg {α : Type} {v : Value} {k : Nat} {enc : α → List Value} {l : List α} {i : Nat} {x : α} (hi : l[i]? = some x) (r : Nat) {vs : List Value} (h : ((enc x).drop r).take vs.length = vs) :
    RdAt (rArg v k enc l) (blkN v) (offN v + i * k + r) vs := fun w hf j u hj => by
  have hl := (List.getElem?_eq_some_iff.1 hj).1
  have h2 := congrArg (fun l => l[j]?) h
  simp only [List.getElem?_take, List.getElem?_drop, if_pos hl] at h2
  rw [Nat.add_assoc]
  exact hf.2 i x hi (r + j) u (by rw [h2]; exact hj)
theorem rdArg0 {α : Type} {v : Value} {k : Nat} {enc : α → List Value} {l : List α} {i : Nat} {x : α} (hi : l[i]? = some x) {vs : List Value} (h : (enc x).take vs.length = vs) :
    RdAt (rArg v k enc l) (blkN v) (offN v + i * k) vs := rdArg (r := 0) hi h
section
variable {P : Program} {a : Act} {w w0 : World} {E : Ent} {L : List Res}
theorem g_lenA {α : Type} {enc : α → List Value} {l : List α} {k : Nat} {dst : Option Tmp} {T : TypeId} {x : Operand} {ty : TypeId} {pos : String} {after : Array Edge} {g : Option (Nat × Bool)} {v : Value} (d : TypeId) (hx : (a.eval x, P.underlying T) = (v, some (.slice d))) (i : Nat) (hi : L[i]? = some (rArg v k enc l)) :
    Gives P w0 E L ⟨dst, .call { callee := .builtin .len, args := #[x], argTypes := #[T] }, ty, pos, after, g⟩ a (.int .i64 l.length) := fun w h => by
  obtain ⟨h1, h2⟩ : a.eval x = v ∧ P.underlying T = _ := by simpa using hx
  obtain ⟨⟨ad, cap, e, _⟩, _⟩ := h.fact i hi
  rw [e] at h1
  simp [execOp, resolve, invoke, builtin, Builtin.len_, h1, Sem.run_bind, run_underlying h2, goInt]
theorem g_idxA {α : Type} {enc : α → List Value} {l : List α} {k : Nat} {dst : Option Tmp} {T : TypeId} {x y : Operand} {ty : TypeId} {pos : String} {after : Array Edge} {g : Option (Nat × Bool)} {v : Value} (d : TypeId) (j : Nat) (hx : (a.eval x, a.eval y, P.underlying T, (P.info? d).map (·.size)) = (v, .int .i64 (j : Int), some (.slice d), some k)) (hj : j < l.length) (i : Nat) (hi : L[i]? = some (rArg v k enc l)) :
    Gives P w0 E L ⟨dst, .indexAddr T x y, ty, pos, after, g⟩ a (.pointer (some ⟨blkN v, offN v + j * k, none⟩)) := fun w h => by
  obtain ⟨h1, h2, h3, h4⟩ : a.eval x = v ∧ a.eval y = _ ∧ P.underlying T = _ ∧ (P.info? d).map (·.size) = some k := by simpa using hx
  obtain ⟨⟨ad, cap, e, _, _, hp⟩, _⟩ := h.fact i hi
  obtain rfl := hp j hj
  obtain ⟨B, hB⟩ : ∃ B, B = blkN v := ⟨_, rfl⟩
  obtain ⟨O, hO⟩ : ∃ O, O = offN v := ⟨_, rfl⟩
  rw [← hB, ← hO] at e ⊢
  subst e
  have hz := sizeOf_run (w := w) h4
  have hi1 : (0 : Int) ≤ (j : Int) ∧ (j : Int) < (l.length : Int) := by omega
  simp only [execOp, Instr.indexAt, h1, h2, asIntOf, Sem.run_bind, Sem.run_pure, Result.andThen_ok, run_underlying h3]
  simp only [Sem.run_ite, hi1, and_self, if_true, Sem.run_bind, hz, Result.andThen_ok, Sem.run_pure, Int.toNat_natCast, Addr.add_lit]
end
end Go.Proofs.YtgebinfbbopnlaaDoor
