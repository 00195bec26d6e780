/- names.Check and the reference's NameError, by what is owned. -/
import Derived.Test.YtofhnglgebllbaaDoorName7
import Derived.Test.YtofhnglgebllbaaDoorEnvAR
import Derived.Test.YtofhnglgebllbaaDoorOp6
namespace Go.Proofs.YtofhnglgebllbaaDoor
open Go.RowKit
set_option linter.unusedVariables false
theorem check_spec {B : Nat} (ad : Nat → Addr) (s : ByteArray) (hs : s.size ≤ 9223372036854775807) : Spec Tryd.prog 104 #[.string s] [rEnv B ad [4]] fun u L => u = errV ad (nameC s) ∧ L = [rEnv B ad [4]] := fun E w0 w ho =>
  (check_any ad s w (ho.fact 0 rfl) hs).mono fun e w' ⟨he, hc⟩ => ⟨_, _, ⟨rfl, rfl⟩, he, ho.quiet hc⟩
theorem nameError_spec (s : ByteArray) (hs : s.size ≤ 9223372036854775807) : Spec Tryd.prog 47 #[.string s] [] fun u L => u = .int .i64 (nameC s : Nat) ∧ L = [] :=
  spec_quiet fun w => (nameError_any s w hs).mono fun e w' ⟨he, hc⟩ => ⟨he, hc ▸ Chg.refl _ _⟩
theorem check_two {B : Nat} (ad : Nat → Addr) (s : ByteArray) (hs : s.size ≤ 9223372036854775807) : Spec Tryd.prog 104 #[.string s] [rEnv B ad [4]] fun u L => (nameOk s ∧ u = .nilIface ∧ L = [rEnv B ad [4]]) ∨ (¬ nameOk s ∧ u = errV ad 4 ∧ L = [rEnv B ad [4]]) :=
  (check_spec ad s hs).mono fun u L ⟨h1, h2⟩ => by
    by_cases h : nameOk s
    · exact .inl ⟨h, by rw [h1, nameC_yes h]; rfl, h2⟩
    · exact .inr ⟨h, by rw [h1, nameC_no h], h2⟩
theorem nameError_two (s : ByteArray) (hs : s.size ≤ 9223372036854775807) : Spec Tryd.prog 47 #[.string s] [] fun u L => (nameOk s ∧ u = .int .i64 0 ∧ L = []) ∨ (¬ nameOk s ∧ u = .int .i64 4 ∧ L = []) :=
  (nameError_spec s hs).mono fun u L ⟨h1, h2⟩ => by
    by_cases h : nameOk s
    · exact .inl ⟨h, by rw [h1, nameC_yes h]; rfl, h2⟩
    · exact .inr ⟨h, by rw [h1, nameC_no h]; rfl, h2⟩
end Go.Proofs.YtofhnglgebllbaaDoor
