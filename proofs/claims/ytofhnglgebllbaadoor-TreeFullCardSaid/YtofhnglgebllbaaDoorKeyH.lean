/- Handles as a map's keys. -/
import Derived.Test.YtofhnglgebllbaaDoorEqs
import Derived.Test.YtofhnglgebllbaaDoorOp6
import Derived.WideKeyRuns
namespace Go.Proofs.YtofhnglgebllbaaDoor
open Go.RowKit
set_option linter.unusedVariables false
set_option linter.unusedSimpArgs false
/-- A handle as a map's key. -/
def hk (h : Int × Int) : Value := .agg #[.int .i64 h.1, .int .i64 h.2]
theorem hk_eq (a b : Int × Int) (w : World) : (Op.equal 29 (hk a) (hk b)).run Tryd.prog w = .ok (decide (a = b)) w := by
  obtain ⟨a1, a2⟩ := a
  obtain ⟨b1, b2⟩ := b
  refine (eqH a1 a2 b1 b2 w).trans (congrArg (fun x => Result.ok x w) ?_)
  by_cases c1 : a1 = b1 <;> by_cases c2 : a2 = b2 <;> simp [c1, c2]
theorem hk_keep (a : Int × Int) (w : World) : (Instr.keyThatStays (hk a) (hk a)).run Tryd.prog w = .ok (hk a) w := by
  have : Instr.sameBits 10000 (hk a) (hk a) = true := by simp [Instr.sameBits, hk]
  simp [Instr.keyThatStays, this]
theorem hk_find (a : Int × Int) (w : World) : ∀ (l : List MapEntry) (kv : List ((Int × Int) × Value)) (i : Nat), l.map (fun e => (e.key, e.val)) = kv.map (fun p => (hk p.1, p.2)) →
    (Instr.findAsking 29 (hk a) l i).run Tryd.prog w = .ok (findA kv a i) w
  | [], [], _, _ => rfl
  | [], _ :: _, _, h => by cases h
  | _ :: _, [], _, h => by cases h
  | e :: l, p :: kv, i, h => by
    simp only [List.map_cons, List.cons.injEq, Prod.mk.injEq] at h
    obtain ⟨⟨h1, h2⟩, h3⟩ := h
    unfold Instr.findAsking findA
    simp only [Sem.run_bind, h1, hk_eq, Result.andThen_ok]
    by_cases c : a = p.1
    · simp [c, h2]
    · simp [c, hk_find a w l kv (i + 1) h3]
theorem keyHk : KeyFn Tryd.prog 29 hk where
  chk := fun em a w => by kernel_rfl
  find := fun a l kv w h => (run_findKey_eq (P := Tryd.prog) w (k := 29) (by decide +kernel) (hk a) l).trans (hk_find a w l kv 0 h)
  keep := hk_keep
  inj := fun a b h => by
    obtain ⟨a1, a2⟩ := a
    obtain ⟨b1, b2⟩ := b
    simp [hk] at h
    simp [h]
end Go.Proofs.YtofhnglgebllbaaDoor
