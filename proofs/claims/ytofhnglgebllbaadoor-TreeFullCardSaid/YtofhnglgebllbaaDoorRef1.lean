/- package pigeonholesref1: small functions by contracts. -/
import Derived.Test.YtofhnglgebllbaaDoorByte
namespace Go.Proofs.YtofhnglgebllbaaDoor
open Go.RowKit
set_option linter.unusedVariables false
set_option linter.unusedSimpArgs false

/-- The digits of a number. -/
def digs : Nat → Nat → List UInt8
  | 0, _ => []
  | k + 1, m => if m < 10 then [byteOf (48 + m)] else digs k (m / 10) ++ [byteOf (48 + (m % 10 : Nat))]

theorem digs_len : ∀ (k m : Nat), (digs k m).length ≤ k
  | 0, _ => Nat.le_refl _
  | k + 1, m => by
    unfold digs
    split
    · simp
    · have := digs_len k (m / 10); simp; exact this

set_option maxHeartbeats 400000 in
theorem below_any (k : Nat) (hk30 : k ≤ 30) : ∀ (n : Int) (w : World), n ≤ 0 → -n < 10 ^ k → -9223372036854775808 ≤ n → 0 < k →
    Calls Tryd.prog 101 #[.int .i64 n] w fun e w' => e = .returned (.string ⟨(digs k (-n).toNat).toArray⟩) ∧ Chg Nil w w' := by
  induction k with
  | zero => intro m w _ _ _ h; omega
  | succ k ih =>
    intro n w hn hm hb _
    by_cases h : -10 < n
    · have e : digs (k + 1) (-n).toNat = [byteOf (48 - n)] := by
        have : (-n).toNat < 10 := by omega
        simp only [digs, this, if_true]
        congr 2; omega
      rw [e]
      clear hm e ih
      go_enter Tryd.func101, Tryd.ntmps101
      go_wp2_with (go_at_call 167; refine (byte_any _ _).mono ?_; rintro e w1 ⟨rfl, hc1⟩)
      go_ret
      exact ⟨rfl, hc1⟩
    · obtain ⟨m, rfl⟩ : ∃ m : Nat, n = -(m : Int) := ⟨(-n).toNat, by omega⟩
      have e : digs (k + 1) (-(-(m : Int))).toNat = digs k (m / 10) ++ [byteOf (48 + ((m : Int) % 10))] := by
        have h1 : (-(-(m : Int))).toNat = m := by omega
        have h2 : ¬ m < 10 := by omega
        simp [h1, digs, h2]
      have hk : 0 < k := by
        rcases k with _ | k
        · simp at hm; omega
        · omega
      have hq : (-(m : Int)).tdiv 10 = -((m : Int) / 10) := by rw [Int.neg_tdiv]; simp [Int.tdiv_eq_ediv_of_nonneg]
      have hr : (-(m : Int)).tmod 10 = -((m : Int) % 10) := by rw [Int.neg_tmod]; simp [Int.tmod_eq_emod_of_nonneg]
      have hs : (48 : Int) - -((m : Int) % 10) = 48 + (m : Int) % 10 := by omega
      have hm' : -(-((m : Int) / 10)) < 10 ^ k := by
        have : (10 : Int) ^ (k + 1) = 10 * 10 ^ k := by rw [Int.pow_succ]; omega
        omega
      have hlen : (digs k (m / 10)).length ≤ 1000 := by have := digs_len k (m / 10); omega
      have IH := Lib.hid (ih (by omega))
      have HM := Lib.hid hm'
      have ht : (-(-((m : Int) / 10))).toNat = m / 10 := by omega
      have HT := Lib.hid ht
      rw [e]
      clear ih hm hm' ht e
      go_enter Tryd.func101, Tryd.ntmps101
      go_wp2_with fail
      refine (IH.out _ _ (by omega) HM.out (by omega) hk).mono ?_
      rintro e w1 ⟨rfl, hc1⟩
      rw [HT.out]
      go_wp2_with fail
      refine (byte_any _ _).mono ?_
      rintro e w2 ⟨rfl, hc2⟩
      go_wp2_with fail
      go_ret
      exact ⟨by simp [ByteArray.mk_append_mk], hc1.then hc2⟩

def decL (n : Int) : List UInt8 := if n < 0 then 45 :: digs 19 (-n).toNat else digs 19 n.toNat
theorem decL_len (n : Int) : (decL n).length ≤ 20 := by
  unfold decL
  split
  · have := digs_len 19 (-n).toNat; simp; omega
  · have := digs_len 19 n.toNat; omega
def decS (n : Int) : ByteArray := ⟨(decL n).toArray⟩

set_option maxHeartbeats 400000 in
theorem decimal_any (n : Int) (w : World) (h0 : -9223372036854775808 ≤ n) (h1 : n ≤ 9223372036854775807) :
    Calls Tryd.prog 19 #[.int .i64 n] w fun e w' => e = .returned (.string (decS n)) ∧ Chg Nil w w' := by
  by_cases h : n < 0
  · have e : decS n = ⟨(45 :: digs 19 (-n).toNat).toArray⟩ := by simp [decS, decL, h]
    have hlen : (digs 19 (-n).toNat).length ≤ 1000 := by have := digs_len 19 (-n).toNat; omega
    have hp : -n < 10 ^ 19 := by simp; omega
    have HP := Lib.hid hp
    rw [e]
    clear e hp
    go_enter Tryd.func19, Tryd.ntmps19
    go_wp2_with fail
    refine (below_any 19 (by omega) _ _ (by omega) HP.out (by omega) (by omega)).mono ?_
    rintro e w1 ⟨rfl, hc1⟩
    go_wp2_with fail
    go_ret
    exact ⟨by simp [ByteArray.mk_append_mk], hc1⟩
  · have e : decS n = ⟨(digs 19 n.toNat).toArray⟩ := by simp [decS, decL, h]
    have hp : -(-n) < 10 ^ 19 := by simp; omega
    have HP := Lib.hid hp
    have HT := Lib.hid (show (-(-n)).toNat = n.toNat by omega)
    rw [e]
    clear e hp
    go_enter Tryd.func19, Tryd.ntmps19
    go_wp2_with fail
    refine (below_any 19 (by omega) _ _ (by omega) HP.out (by omega) (by omega)).mono ?_
    rintro e w1 ⟨rfl, hc1⟩
    rw [HT.out]
    go_wp2_with fail
    go_ret
    exact ⟨rfl, hc1⟩
end Go.Proofs.YtofhnglgebllbaaDoor
