/- coded of law package 2 by contract. -/
import Derived.Test.YtgebinfbbopnlaaDoorCode
namespace Go.Proofs.YtgebinfbbopnlaaDoor
open Go.RowKit
set_option linter.unusedVariables false

set_option maxHeartbeats 1000000 in
theorem coded2_ok {B : Nat} (ad : Nat → Addr) (c : Nat) (code : Int) (w : World) (he : EnvA B ad w) (hc : c ≤ 15) (hcode : (c : Int) = code) :
    Calls Tryd.prog 20 #[errV ad c, .int .i64 code] w fun e w' => e = .returned (.bool true) ∧ Chg Nil w w' := by
  by_cases h0 : c = 0
  · subst h0
    have hb : ((0 : Int) == code) = true := by simp; omega
    rw [errV_zero]
    clear hcode
    go_enter Tryd.func20, Tryd.ntmps20
    go_wp2_with fail
    refine (code_nil _).mono ?_
    rintro e w1 ⟨rfl, rfl⟩
    go_wp2_with fail
    go_ret
    exact ⟨rfl, Chg.refl _ _⟩
  · have hb : ((c : Int) == code) = true := by simp; omega
    have HE := Lib.hid he
    rw [errV_pos h0]
    clear hcode he
    go_enter Tryd.func20, Tryd.ntmps20
    go_wp2_with fail
    refine (code_err ad c w HE.out (by omega) hc).mono ?_
    rintro e w1 ⟨rfl, hc1⟩
    go_wp2_with fail
    go_ret
    exact ⟨rfl, hc1⟩
end Go.Proofs.YtgebinfbbopnlaaDoor
