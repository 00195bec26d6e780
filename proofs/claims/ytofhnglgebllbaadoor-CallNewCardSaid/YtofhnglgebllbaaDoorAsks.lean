/- The closed fact asks of law package 3. -/
import Derived.Test.YtofhnglgebllbaaDoorCallE
import Derived.Test.YtofhnglgebllbaaDoorCoded3S
namespace Go.Proofs.YtofhnglgebllbaaDoor
open Go.RowKit Go.Lib
set_option linter.unusedVariables false
set_option linter.unusedSimpArgs false

theorem asks_text : reqE 1 ⟨#[97, 98]⟩ = (⟨#[0, 0, 0, 0, 0, 0, 0, 1, 0, 0, 0, 2, 97, 98, 0, 0]⟩, 0) := by kernel_rfl
set_option maxHeartbeats 1000000 in
set_option maxRecDepth 100000 in
theorem asks_ok {B : Nat} (ad : Nat → Addr) (w : World) (he : EnvA B ad w) : Calls Tryd.prog 45 #[] w fun e w' => e = .returned (.bool true) ∧ Chg Nil w w' := by
  have HE := Lib.hid (encode_any (B := B) ad 1 ⟨#[97, 98]⟩ w (he.env.sub (by decide)) (by decide) (by decide))
  rw [asks_text] at HE
  unfold reqV at HE
  clear he
  go_enter Tryd.func45, Tryd.ntmps45
  go_wp2_with fail
  refine HE.out.mono ?_
  rintro e w1 ⟨rfl, hc1⟩
  simp only [errV_zero]
  go_wp2_with fail
  go_ret
  exact ⟨rfl, hc1⟩
theorem asks_spec {B : Nat} (ad : Nat → Addr) : Spec Tryd.prog 45 #[] [rEnvA B ad] fun u L => u = .bool true ∧ L = [rEnvA B ad] := fun E w0 w ho =>
  (asks_ok ad w (ho.fact 0 rfl)).mono fun e w' ⟨he, hc⟩ => ⟨_, _, ⟨rfl, rfl⟩, he, ho.quiet hc⟩
end Go.Proofs.YtofhnglgebllbaaDoor
