/- The reference's Cut of eight bytes by contract. -/
import Derived.Test.YtofhnglgebllbaaDoorXdr7
namespace Go.Proofs.YtofhnglgebllbaaDoor
open Go.RowKit Go.Lib
set_option linter.unusedVariables false
set_option linter.unusedSimpArgs false

set_option maxHeartbeats 2000000 in
set_option maxRecDepth 100000 in
theorem cut8_any (s : ByteArray) (w : World) (hs : s.size ≤ 9223372036854775807) :
    Calls Tryd.prog 156 #[.string s, .int .i64 8] w fun e w' => e = .returned (.tuple #[.int .i64 (cutB s 8).1, .string (cutB s 8).2]) ∧ Chg Nil w w' := by
  unfold cutB
  by_cases hf : 8 ≤ s.size
  · rcases Nat.lt_or_ge 127 s[0].toNat with h7 | h7
    · rw [if_neg (fun h => by have := (cutOk8 s hf).1 h; omega)]
      have hfI : ¬ (s.size : Int) < 8 := by omega
      have hfd : decide ((s.size : Int) < 8) = false := by simp; omega
      have h0 : (0 : Int) < (s.size : Int) := by omega
      have hgt : (127 : Int) < ((s[0].toNat : Nat) : Int) := by omega
      go_enter Tryd.func156, Tryd.ntmps156
      go_wp2_with fail
      go_ret2
      exact ⟨rfl, Chg.refl _ _⟩
    · rw [if_pos ((cutOk8 s hf).2 h7)]
      have hgt : ¬ (127 : Int) < ((s[0].toNat : Nat) : Int) := by omega
      have h0 : (0 : Int) < (s.size : Int) := by omega
      have hb0 : (s.data.toList[0]?).getD 0 = s[0] := byte_at (by omega)
      have H7 := Lib.hid (numK_lt7 s (by rw [hb0]; exact h7))
      clear h7 hb0
      have hfI : ¬ (s.size : Int) < 8 := by omega
      have hfd : decide ((s.size : Int) < 8) = false := by simp; omega
      have hf8 : (8 : Int) ≤ (s.size : Int) := by omega
      go_enter Tryd.func156, Tryd.ntmps156
      go_wp2_with fail
      go_loopw [6, 7] (fun v i wr => RelCut s 8 w v i wr) (fun _ i _ => (8 - RowKit.intOf i).toNat)
      case atStart => exact ⟨0, Nat.zero_le _, rfl, rfl, Chg.refl _ _⟩
      case round =>
        obtain ⟨k, hk, rfl, rfl, hC⟩ := hrel
        by_cases hlt : k < 8
        · have j0 : (0 : Int) ≤ (k : Int) := by omega
          have j1 : (k : Int) < (s.size : Int) := by omega
          have j2 : (k : Int) < 8 := by omega
          have hks : k < s.size := by omega
          have hst : numK s (k + 1) = numK s k * 256 + (s[k]).toNat := by rw [numK, byte_at hks]
          have HST := Lib.hid hst
          have hx : True := trivial
          have hx2 : numK s k < 36028797018963968 := by
            rcases k with _ | k
            · simp [numK]
            · exact Nat.lt_of_lt_of_le (H7.out k) (Nat.mul_le_mul_left 128 (Nat.pow_le_pow_right (by omega) (show k ≤ 6 by omega)))
          have hb := (s[k]).toNat_lt
          obtain ⟨q, hq⟩ : ∃ q, q = numK s k := ⟨_, rfl⟩
          rw [← hq] at hx2 HST ⊢
          have hw1 : IntKind.i64.wrap (256 * (q : Int)) = 256 * (q : Int) := IntWalk.i64_in _ (by omega)
          have hw2 : IntKind.i64.wrap (256 * (q : Int) + ((s[k].toNat : Nat) : Int)) = ((q * 256 + s[k].toNat : Nat) : Int) := by rw [IntWalk.i64_in _ (by omega)]; omega
          have hw3 : IntKind.i64.wrap ((s[k].toNat : Nat) : Int) = ((s[k].toNat : Nat) : Int) := IntWalk.i64_in _ (by omega)
          clear hst hx hq hb
          go_wp2_with fail
          refine ⟨⟨k + 1, by omega, by rw [HST.out, Int.natCast_add, Int.natCast_mul]; rfl, by go_num, hC⟩, by simp [RowKit.intOf]; omega⟩
        · obtain rfl : k = 8 := by omega
          go_wp2_with fail
          go_quiet (fail)
          go_wp2_with fail
          go_ret2
          exact ⟨rfl, hC.then (by repeat (first | exact Chg.refl _ _ | exact Chg.drewN _ _ | refine Chg.drew ?_ | refine Chg.drewsN ?_ _))⟩
  · rw [if_neg (fun h => hf h.1)]
    have hfI : (s.size : Int) < 8 := by omega
    go_enter Tryd.func156, Tryd.ntmps156
    go_wp2_with fail
    go_ret2
    exact ⟨rfl, Chg.refl _ _⟩
end Go.Proofs.YtofhnglgebllbaaDoor
