/- package pigeonholesref1: Byte by contract. -/
import Derived.Test.YtofhnglgebllbaaDoorBase
namespace Go.Proofs.YtofhnglgebllbaaDoor
open Go.RowKit
set_option linter.unusedVariables false
set_option linter.unusedSimpArgs false

def byteOf (n : Int) : UInt8 := UInt8.ofNat (n % 256).toNat

theorem conv_one (n : Int) (w : World) : (convert 246 9 (.slice (some ⟨w.heap.size, 0, none⟩) 1 1)).run Tryd.prog (w.alloc (.cells #[.int .u8 (n % 256)] 5)) =
    .ok (.string ⟨#[byteOf n]⟩) (w.alloc (.cells #[.int .u8 (n % 256)] 5)) := by
  have := run_convert_bytes_arg (P := Tryd.prog) (w.alloc (.cells #[.int .u8 (n % 256)] 5)) 246 5 Tryd.underlying246 Tryd.underlying5 w.heap.size 0 1 1 [n % 256] rfl (fun i hi => by
    obtain rfl : i = 0 := by omega
    simp) 9 Tryd.underlying9
  rw [this]; rfl

set_option maxHeartbeats 400000 in
theorem byte_any (n : Int) (w : World) : Calls Tryd.prog 167 #[.int .i64 n] w fun e w' => e = .returned (.string ⟨#[byteOf n]⟩) ∧ Chg Nil w w' := by
  have hcv := conv_one n w
  go_enter Tryd.func167, Tryd.ntmps167
  go_wp2_with fail
  go_ret
  exact ⟨rfl, (Chg.refl _ _).alloc _⟩
end Go.Proofs.YtofhnglgebllbaaDoor
