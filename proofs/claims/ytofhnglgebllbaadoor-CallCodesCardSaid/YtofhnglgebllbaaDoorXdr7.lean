/- The reference's Cut by contract. -/
import Derived.Test.YtofhnglgebllbaaDoorXdr6
namespace Go.Proofs.YtofhnglgebllbaaDoor
open Go.RowKit Go.Lib
set_option linter.unusedVariables false
set_option linter.unusedSimpArgs false

theorem numK_lt7 (s : ByteArray) (h : ((s.data.toList[0]?).getD 0).toNat ≤ 127) : ∀ k, numK s (k + 1) < 128 * 256 ^ k
  | 0 => by show 0 * 256 + ((s.data.toList[0]?).getD 0).toNat < 128 * 1; omega
  | k + 1 => by
    have h1 := numK_lt7 s h k
    have h2 := ((s.data.toList[k + 1]?).getD 0).toNat_lt
    rw [numK, Nat.pow_succ]
    omega
theorem numK_ge7 (s : ByteArray) (h : 128 ≤ ((s.data.toList[0]?).getD 0).toNat) : ∀ k, 128 * 256 ^ k ≤ numK s (k + 1)
  | 0 => by show 128 * 1 ≤ 0 * 256 + ((s.data.toList[0]?).getD 0).toNat; omega
  | k + 1 => by
    have h1 := numK_ge7 s h k
    rw [numK, Nat.pow_succ]
    omega
/-- Does the reference cut a number of so many bytes? -/
def cutOk (s : ByteArray) (m : Nat) : Prop := m ≤ s.size ∧ (m = 8 → numK s 8 < 9223372036854775808)
instance (s : ByteArray) (m : Nat) : Decidable (cutOk s m) := by unfold cutOk; infer_instance
def cutB (s : ByteArray) (m : Nat) : Int × ByteArray := if cutOk s m then ((numK s m : Nat), s.extract m s.size) else (-1, s)
theorem byte_at {s : ByteArray} {k : Nat} (h : k < s.size) : (s.data.toList[k]?).getD 0 = s[k] := by
  have hkl : k < s.data.toList.length := by rw [Array.length_toList]; exact h
  rw [List.getElem?_eq_getElem hkl]; rfl
def RelCut (s : ByteArray) (m : Nat) (w : World) (v i : Value) (wr : World) : Prop := ∃ k : Nat, k ≤ m ∧ v = .int .i64 ((numK s k : Nat) : Int) ∧ i = .int .i64 k ∧ Chg Nil w wr
set_option maxHeartbeats 2000000 in
set_option maxRecDepth 100000 in
theorem cut4_any (s : ByteArray) (w : World) (hs : s.size ≤ 9223372036854775807) :
    Calls Tryd.prog 156 #[.string s, .int .i64 4] w fun e w' => e = .returned (.tuple #[.int .i64 (cutB s 4).1, .string (cutB s 4).2]) ∧ Chg Nil w w' := by
  unfold cutB
  by_cases hf : 4 ≤ s.size
  · rw [if_pos ⟨hf, by omega⟩]
    have hfI : ¬ (s.size : Int) < 4 := by omega
    have hfd : decide ((s.size : Int) < 4) = false := by simp; omega
    have hf4 : (4 : Int) ≤ (s.size : Int) := by omega
    go_enter Tryd.func156, Tryd.ntmps156
    go_wp2_with fail
    go_loopw [6, 7] (fun v i wr => RelCut s 4 w v i wr) (fun _ i _ => (4 - RowKit.intOf i).toNat)
    case atStart => exact ⟨0, Nat.zero_le _, rfl, rfl, Chg.refl _ _⟩
    case round =>
      obtain ⟨k, hk, rfl, rfl, hC⟩ := hrel
      by_cases hlt : k < 4
      · have j0 : (0 : Int) ≤ (k : Int) := by omega
        have j1 : (k : Int) < (s.size : Int) := by omega
        have j2 : (k : Int) < 4 := by omega
        have hks : k < s.size := by omega
        have hst : numK s (k + 1) = numK s k * 256 + (s[k]).toNat := by rw [numK, byte_at hks]
        have HST := Lib.hid hst
        have hx := numK_lt s k
        have hx2 : numK s k < 16777216 := Nat.lt_of_lt_of_le hx (Nat.pow_le_pow_right (by omega) (show k ≤ 3 by omega))
        have hb := (s[k]).toNat_lt
        obtain ⟨q, hq⟩ : ∃ q, q = numK s k := ⟨_, rfl⟩
        rw [← hq] at hx2 HST ⊢
        have hw1 : IntKind.i64.wrap (256 * (q : Int)) = 256 * (q : Int) := IntWalk.i64_in _ (by omega)
        have hw2 : IntKind.i64.wrap (256 * (q : Int) + ((s[k].toNat : Nat) : Int)) = ((q * 256 + s[k].toNat : Nat) : Int) := by rw [IntWalk.i64_in _ (by omega)]; omega
        have hw3 : IntKind.i64.wrap ((s[k].toNat : Nat) : Int) = ((s[k].toNat : Nat) : Int) := IntWalk.i64_in _ (by omega)
        clear hst hx hq hb
        go_wp2_with fail
        refine ⟨⟨k + 1, by omega, by rw [HST.out, Int.natCast_add, Int.natCast_mul]; rfl, by go_num, hC⟩, by simp [RowKit.intOf]; omega⟩
      · obtain rfl : k = 4 := by omega
        go_wp2_with fail
        go_quiet (fail)
        go_wp2_with fail
        go_ret2
        exact ⟨rfl, hC.then (by repeat (first | exact Chg.refl _ _ | exact Chg.drewN _ _ | refine Chg.drew ?_ | refine Chg.drewsN ?_ _))⟩
  · rw [if_neg (fun h => hf h.1)]
    have hfI : (s.size : Int) < 4 := by omega
    go_enter Tryd.func156, Tryd.ntmps156
    go_wp2_with fail
    go_ret2
    exact ⟨rfl, Chg.refl _ _⟩
theorem cutOk8 (s : ByteArray) (h : 8 ≤ s.size) : cutOk s 8 ↔ s[0].toNat ≤ 127 := by
  have hb : (s.data.toList[0]?).getD 0 = s[0] := byte_at (by omega)
  constructor
  · intro hc
    rcases Nat.lt_or_ge 127 s[0].toNat with h1 | h1
    · have : 128 * 256 ^ 7 ≤ numK s 8 := numK_ge7 s (by rw [hb]; omega) 7
      have h2 := hc.2 rfl
      have e : 128 * 256 ^ 7 = 9223372036854775808 := rfl
      omega
    · exact h1
  · intro h1
    refine ⟨h, fun _ => ?_⟩
    have : numK s 8 < 128 * 256 ^ 7 := numK_lt7 s (by rw [hb]; exact h1) 7
    have e : 128 * 256 ^ 7 = 9223372036854775808 := rfl
    omega
end Go.Proofs.YtofhnglgebllbaaDoor
