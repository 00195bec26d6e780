/- pigeonholesref1: Zeros; strings.Repeat of a nought. -/
import Derived.Test.YtofhnglgebllbaaDoorMake
import Derived.Laws.BytesArg
namespace Go.Proofs.YtofhnglgebllbaaDoor
open Go.RowKit
set_option linter.unusedVariables false
set_option linter.unusedSimpArgs false

def zerosB (n : Nat) : ByteArray := ⟨(List.replicate n (0 : UInt8)).toArray⟩
theorem zerosB_size (n : Nat) : (zerosB n).size = n := by simp [zerosB, ByteArray.size]
set_option maxHeartbeats 1000000 in
set_option maxRecDepth 100000 in
theorem zeros_nat (m : Nat) (w : World) (h1 : m ≤ 1000000) : Calls Tryd.prog 194 #[.int .i64 m] w fun e w' => e = .returned (.string (zerosB m)) ∧ Chg Nil w w' := by
  have hmk : ∀ W, (Instr.makeSlice 246 (.int .i64 (m : Int)) (.int .i64 (m : Int))).run Tryd.prog W = .ok (.slice (some ⟨W.heap.size, 0, none⟩) m m) (W.alloc (.cells (Array.replicate m (.int .u8 0)) 5)) := fun W => by
    have := mk_one (P := Tryd.prog) (T := 246) Tryd.underlying246 info_u8 rfl W m (by omega) (by omega)
    rwa [List.toArray_replicate] at this
  have hcv : (convert 246 9 (.slice (some ⟨w.heap.size, 0, none⟩) m m)).run Tryd.prog (w.alloc (.cells (Array.replicate m (.int .u8 0)) 5)) = .ok (.string (zerosB m)) (w.alloc (.cells (Array.replicate m (.int .u8 0)) 5)) := by
    have := run_convert_bytes_arg (P := Tryd.prog) (w.alloc (.cells (Array.replicate m (.int .u8 0)) 5)) 246 5 Tryd.underlying246 Tryd.underlying5 w.heap.size 0 m m (List.replicate m 0) (by simp) (fun i hi => by
      rw [cell_of (block_alloc w _)]
      simp [hi, List.getD]) 9 Tryd.underlying9
    rw [this]
    have e : strOfNums (List.replicate m 0) = zerosB m := by simp [strOfNums, zerosB]
    rw [e]
  go_enter Tryd.func194, Tryd.ntmps194
  go_wp2_with fail
  go_ret
  exact ⟨rfl, (Chg.refl _ _).alloc _⟩
end Go.Proofs.YtofhnglgebllbaaDoor
