/- coded of law package 2, by what is owned. No condition. -/
import Derived.Test.YtgebinfbbopnlaaDoorEnvB
import Derived.Test.YtgebinfbbopnlaaDoorCoded2
namespace Go.Proofs.YtgebinfbbopnlaaDoor
open Go.RowKit
set_option linter.unusedVariables false
theorem coded2_spec {B : Nat} (ad : Nat → Addr) (c : Nat) (code : Int) (hc : c ≤ 15) (hcode : (c : Int) = code) : Spec Tryd.prog 20 #[errV ad c, .int .i64 code] [rEnvA B ad] fun u L => u = .bool true ∧ L = [rEnvA B ad] := fun E w0 w ho =>
  (coded2_ok ad c code w (ho.fact 0 rfl) hc hcode).mono fun e w' ⟨he, hc'⟩ => ⟨_, _, ⟨rfl, rfl⟩, he, ho.quiet hc'⟩
end Go.Proofs.YtgebinfbbopnlaaDoor
