/- locklaw: contracts by what is owned (printed by walk.py). -/
import Derived.Test.YtofhnglgebllbaaDoorLwG
namespace Go.Proofs.YtofhnglgebllbaaDoor
open Go.RowKit
set_option linter.unusedVariables false
set_option linter.unusedSimpArgs false
set_option maxRecDepth 100000

theorem lockBytes_any (ad : Nat → Addr) (a0 : Option Addr) (cap : Nat) (acts : List LAct) (a s : Int) (wb : Bool) (w : World) (he : EnvA w.heap.size ad w) (hs : (Sh.slice shLAct).At w w.heap.size (a0, cap, acts)) :
    Calls Tryd.prog 9 #[.slice a0 acts.length cap, .agg #[.int .i64 a, .int .i64 s], .bool wb] w fun e w' => e = .returned (.bool true) ∧ Chg Nil w w' := by
  refine ((lockBytes_spec (B := w.heap.size) ad (.slice a0 acts.length cap) acts a s wb).reads (w := w) rfl ?_).mono ?_
  · intro r hr
    simp only [List.mem_cons, List.mem_nil_iff, or_false] at hr
    rcases hr with rfl | rfl
    · exact arg_of_sh hs
    · exact he
  · rintro e w' ⟨u, L', ⟨rfl, _⟩, he, hc'⟩
    exact ⟨he, hc'⟩

end Go.Proofs.YtofhnglgebllbaaDoor
