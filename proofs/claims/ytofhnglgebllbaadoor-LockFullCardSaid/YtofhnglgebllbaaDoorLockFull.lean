/- locklaw: contracts by what is owned (printed by walk.py). -/
import Derived.Test.YtofhnglgebllbaaDoorLwF
namespace Go.Proofs.YtofhnglgebllbaaDoor
open Go.RowKit
set_option linter.unusedVariables false
set_option linter.unusedSimpArgs false
set_option maxRecDepth 100000

theorem lockFull_any (ad : Nat → Addr) (n c : Int) (w : World) (he : EnvA w.heap.size ad w) :
    Calls Tryd.prog 8 #[.int .i64 n, .int .i64 c] w fun e w' => e = .returned (.bool true) ∧ Chg Nil w w' := by
  refine ((lockFull_spec (B := w.heap.size) ad n c).reads (w := w) rfl ?_).mono ?_
  · intro r hr
    simp only [List.mem_cons, List.mem_nil_iff, or_false] at hr
    subst hr
    exact he
  · rintro e w' ⟨u, L', ⟨rfl, _⟩, he, hc'⟩
    exact ⟨he, hc'⟩

end Go.Proofs.YtofhnglgebllbaaDoor
