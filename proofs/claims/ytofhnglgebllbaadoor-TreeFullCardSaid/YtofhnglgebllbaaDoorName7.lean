/- The reference's NameError and PathError by contract. -/
import Derived.Test.YtofhnglgebllbaaDoorName3
namespace Go.Proofs.YtofhnglgebllbaaDoor
open Go.RowKit Go.Lib
set_option linter.unusedVariables false
set_option linter.unusedSimpArgs false

def RelNE (s : ByteArray) (w : World) (i : Value) (wr : World) : Prop := ∃ k : Nat, k ≤ s.size ∧ i = .int .i64 k ∧ w = wr ∧ ∀ b ∈ s.data.toList.take k, signN b.toNat = true
theorem bad_of {l : List UInt8} {k : Nat} {b : UInt8} (h : l[k]? = some b) (hb : signN b.toNat = false) : badAt l ≠ none := by
  unfold badAt
  intro e
  rw [List.findIdx?_eq_none_iff] at e
  have := e b (List.mem_of_getElem? h)
  rw [hb] at this
  cases this
theorem bad_none {l : List UInt8} (h : ∀ b ∈ l, signN b.toNat = true) : badAt l = none := by
  unfold badAt
  rw [List.findIdx?_eq_none_iff]
  intro x hx
  rw [h x hx]; rfl
theorem byte_list {s : ByteArray} {k : Nat} (h : k < s.size) : s.data.toList[k]? = some s[k] := by
  have hkl : k < s.data.toList.length := by rw [Array.length_toList]; exact h
  rw [List.getElem?_eq_getElem hkl]; rfl
set_option maxHeartbeats 4000000 in
set_option maxRecDepth 100000 in
theorem nameError_any (s : ByteArray) (w : World) (hs : s.size ≤ 9223372036854775807) :
    Calls Tryd.prog 47 #[.string s] w fun e w' => e = .returned (.int .i64 (nameC s : Nat)) ∧ w = w' := by
  by_cases h0 : s.size < 1
  · have HX := Lib.hid (nameC_no (s := s) (fun h => by have := h.1; omega))
    rw [HX.out]
    go_enter Tryd.func47, Tryd.ntmps47
    go_wp2_with fail
    go_ret
    exact ⟨rfl, rfl⟩
  have h0d : decide (s.size < 1) = false := by simpa using h0
  have h0e : s.size ≠ 0 := by omega
  by_cases h1 : 24 < s.size
  · have HX := Lib.hid (nameC_no (s := s) (fun h => by have := h.2.1; omega))
    rw [HX.out]
    go_enter Tryd.func47, Tryd.ntmps47
    go_wp2_with fail
    go_ret
    exact ⟨rfl, rfl⟩
  have h1d : decide (24 < s.size) = false := by simpa using h1
  by_cases h2 : s = dot1
  · have HX := Lib.hid (nameC_no (s := s) (fun h => h.2.2.1 h2))
    rw [HX.out]
    subst h2
    unfold dot1 at *
    clear h0d h1d h0 h1 h0e
    go_enter Tryd.func47, Tryd.ntmps47
    go_wp2_with fail
    go_ret
    exact ⟨rfl, rfl⟩
  have h2n := txt_ne (l := [46]) h2
  by_cases h3 : s = dot2
  · have HX := Lib.hid (nameC_no (s := s) (fun h => h.2.2.2.1 h3))
    rw [HX.out]
    subst h3
    unfold dot2 at *
    clear h0d h1d h0 h1 h0e
    go_enter Tryd.func47, Tryd.ntmps47
    go_wp2_with fail
    go_ret
    exact ⟨rfl, rfl⟩
  have h3n := txt_ne (l := [46, 46]) h3
  have HOK := Lib.hid (show nameOk s ↔ badAt s.data.toList = none from ⟨fun h => h.2.2.2.2, fun h => ⟨by omega, by omega, h2, h3, h⟩⟩)
  clear h2 h3
  go_enter Tryd.func47, Tryd.ntmps47
  go_wp2_with fail
  go_loopw [3] (fun i wr => RelNE s w i wr) (fun i _ => (s.size - RowKit.intOf i).toNat)
  case atStart => exact ⟨0, Nat.zero_le _, rfl, rfl, by simp⟩
  case round =>
    obtain ⟨k, hk, rfl, rfl, hall⟩ := hrel
    have HA := Lib.hid hall
    clear hall
    by_cases hlt : k < s.size
    · have j0 : (0 : Int) ≤ (k : Int) := by omega
      have j1 : (k : Int) < (s.size : Int) := by omega
      have HB := Lib.hid (byte_list hlt)
      obtain ⟨n, hn⟩ : ∃ n : Nat, n = s[k].toNat := ⟨_, rfl⟩
      have HN := Lib.hid hn
      have hnI : ((s[k].toNat : Nat) : Int) = (n : Int) := by rw [hn]
      clear hn
      rcases (show (n < 45 ∨ n = 47) ∨ n = 45 ∨ n = 46 ∨ (48 ≤ n ∧ n ≤ 57) ∨ (58 ≤ n ∧ n ≤ 64) ∨ (65 ≤ n ∧ n ≤ 90) ∨ ((91 ≤ n ∧ n ≤ 94) ∨ n = 96) ∨ n = 95 ∨ (97 ≤ n ∧ n ≤ 122) ∨ 123 ≤ n by omega) with hz | hz | hz | hz | hz | hz | hz | hz | hz | hz
      · have t1 : decide ((97 : Int) ≤ (n : Int)) = false := by simp; omega
        have t2 : decide ((n : Int) ≤ 122) = true := by simp; omega
        have t3 : decide ((65 : Int) ≤ (n : Int)) = false := by simp; omega
        have t4 : decide ((n : Int) ≤ 90) = true := by simp; omega
        have t5 : decide ((48 : Int) ≤ (n : Int)) = false := by simp; omega
        have t6 : decide ((n : Int) ≤ 57) = true := by simp; omega
        have t7 : ((n : Int) != 46) = true := by simp; omega
        have t8 : ((n : Int) != 45) = true := by simp; omega
        have t9 : ((n : Int) != 95) = true := by simp; omega
        have HS := Lib.hid (show signN n = false by unfold signN; simp; omega)
        clear hz
        have HX := Lib.hid (nameC_no (s := s) (fun h => bad_of HB.out (by rw [← HN.out]; exact HS.out) (HOK.out.1 h)))
        go_wp2_with fail
        go_ret
        exact ⟨by rw [HX.out]; rfl, rfl⟩
      · have t1 : decide ((97 : Int) ≤ (n : Int)) = false := by simp; omega
        have t2 : decide ((n : Int) ≤ 122) = true := by simp; omega
        have t3 : decide ((65 : Int) ≤ (n : Int)) = false := by simp; omega
        have t4 : decide ((n : Int) ≤ 90) = true := by simp; omega
        have t5 : decide ((48 : Int) ≤ (n : Int)) = false := by simp; omega
        have t6 : decide ((n : Int) ≤ 57) = true := by simp; omega
        have t7 : ((n : Int) != 46) = true := by simp; omega
        have t8 : ((n : Int) != 45) = false := by simp; omega
        have t9 : ((n : Int) != 95) = true := by simp; omega
        have HS := Lib.hid (show signN n = true by unfold signN; simp; omega)
        clear hz
        go_wp2_with fail
        go_roundw
        case rel => exact ⟨k + 1, by omega, by go_num, rfl, fun x hx => by
          rw [take_snoc1 HB.out] at hx
          rcases List.mem_append.1 hx with hx | hx
          · exact HA.out x hx
          · rw [List.mem_singleton.1 hx, ← HN.out]; exact HS.out⟩
        case measure => simp [RowKit.intOf]; omega
      · have t1 : decide ((97 : Int) ≤ (n : Int)) = false := by simp; omega
        have t2 : decide ((n : Int) ≤ 122) = true := by simp; omega
        have t3 : decide ((65 : Int) ≤ (n : Int)) = false := by simp; omega
        have t4 : decide ((n : Int) ≤ 90) = true := by simp; omega
        have t5 : decide ((48 : Int) ≤ (n : Int)) = false := by simp; omega
        have t6 : decide ((n : Int) ≤ 57) = true := by simp; omega
        have t7 : ((n : Int) != 46) = false := by simp; omega
        have t8 : ((n : Int) != 45) = true := by simp; omega
        have t9 : ((n : Int) != 95) = true := by simp; omega
        have HS := Lib.hid (show signN n = true by unfold signN; simp; omega)
        clear hz
        go_wp2_with fail
        go_roundw
        case rel => exact ⟨k + 1, by omega, by go_num, rfl, fun x hx => by
          rw [take_snoc1 HB.out] at hx
          rcases List.mem_append.1 hx with hx | hx
          · exact HA.out x hx
          · rw [List.mem_singleton.1 hx, ← HN.out]; exact HS.out⟩
        case measure => simp [RowKit.intOf]; omega
      · have t1 : decide ((97 : Int) ≤ (n : Int)) = false := by simp; omega
        have t2 : decide ((n : Int) ≤ 122) = true := by simp; omega
        have t3 : decide ((65 : Int) ≤ (n : Int)) = false := by simp; omega
        have t4 : decide ((n : Int) ≤ 90) = true := by simp; omega
        have t5 : decide ((48 : Int) ≤ (n : Int)) = true := by simp; omega
        have t6 : decide ((n : Int) ≤ 57) = true := by simp; omega
        have t7 : ((n : Int) != 46) = true := by simp; omega
        have t8 : ((n : Int) != 45) = true := by simp; omega
        have t9 : ((n : Int) != 95) = true := by simp; omega
        have HS := Lib.hid (show signN n = true by unfold signN; simp; omega)
        clear hz
        go_wp2_with fail
        go_roundw
        case rel => exact ⟨k + 1, by omega, by go_num, rfl, fun x hx => by
          rw [take_snoc1 HB.out] at hx
          rcases List.mem_append.1 hx with hx | hx
          · exact HA.out x hx
          · rw [List.mem_singleton.1 hx, ← HN.out]; exact HS.out⟩
        case measure => simp [RowKit.intOf]; omega
      · have t1 : decide ((97 : Int) ≤ (n : Int)) = false := by simp; omega
        have t2 : decide ((n : Int) ≤ 122) = true := by simp; omega
        have t3 : decide ((65 : Int) ≤ (n : Int)) = false := by simp; omega
        have t4 : decide ((n : Int) ≤ 90) = true := by simp; omega
        have t5 : decide ((48 : Int) ≤ (n : Int)) = true := by simp; omega
        have t6 : decide ((n : Int) ≤ 57) = false := by simp; omega
        have t7 : ((n : Int) != 46) = true := by simp; omega
        have t8 : ((n : Int) != 45) = true := by simp; omega
        have t9 : ((n : Int) != 95) = true := by simp; omega
        have HS := Lib.hid (show signN n = false by unfold signN; simp; omega)
        clear hz
        have HX := Lib.hid (nameC_no (s := s) (fun h => bad_of HB.out (by rw [← HN.out]; exact HS.out) (HOK.out.1 h)))
        go_wp2_with fail
        go_ret
        exact ⟨by rw [HX.out]; rfl, rfl⟩
      · have t1 : decide ((97 : Int) ≤ (n : Int)) = false := by simp; omega
        have t2 : decide ((n : Int) ≤ 122) = true := by simp; omega
        have t3 : decide ((65 : Int) ≤ (n : Int)) = true := by simp; omega
        have t4 : decide ((n : Int) ≤ 90) = true := by simp; omega
        have t5 : decide ((48 : Int) ≤ (n : Int)) = true := by simp; omega
        have t6 : decide ((n : Int) ≤ 57) = false := by simp; omega
        have t7 : ((n : Int) != 46) = true := by simp; omega
        have t8 : ((n : Int) != 45) = true := by simp; omega
        have t9 : ((n : Int) != 95) = true := by simp; omega
        have HS := Lib.hid (show signN n = true by unfold signN; simp; omega)
        clear hz
        go_wp2_with fail
        go_roundw
        case rel => exact ⟨k + 1, by omega, by go_num, rfl, fun x hx => by
          rw [take_snoc1 HB.out] at hx
          rcases List.mem_append.1 hx with hx | hx
          · exact HA.out x hx
          · rw [List.mem_singleton.1 hx, ← HN.out]; exact HS.out⟩
        case measure => simp [RowKit.intOf]; omega
      · have t1 : decide ((97 : Int) ≤ (n : Int)) = false := by simp; omega
        have t2 : decide ((n : Int) ≤ 122) = true := by simp; omega
        have t3 : decide ((65 : Int) ≤ (n : Int)) = true := by simp; omega
        have t4 : decide ((n : Int) ≤ 90) = false := by simp; omega
        have t5 : decide ((48 : Int) ≤ (n : Int)) = true := by simp; omega
        have t6 : decide ((n : Int) ≤ 57) = false := by simp; omega
        have t7 : ((n : Int) != 46) = true := by simp; omega
        have t8 : ((n : Int) != 45) = true := by simp; omega
        have t9 : ((n : Int) != 95) = true := by simp; omega
        have HS := Lib.hid (show signN n = false by unfold signN; simp; omega)
        clear hz
        have HX := Lib.hid (nameC_no (s := s) (fun h => bad_of HB.out (by rw [← HN.out]; exact HS.out) (HOK.out.1 h)))
        go_wp2_with fail
        go_ret
        exact ⟨by rw [HX.out]; rfl, rfl⟩
      · have t1 : decide ((97 : Int) ≤ (n : Int)) = false := by simp; omega
        have t2 : decide ((n : Int) ≤ 122) = true := by simp; omega
        have t3 : decide ((65 : Int) ≤ (n : Int)) = true := by simp; omega
        have t4 : decide ((n : Int) ≤ 90) = false := by simp; omega
        have t5 : decide ((48 : Int) ≤ (n : Int)) = true := by simp; omega
        have t6 : decide ((n : Int) ≤ 57) = false := by simp; omega
        have t7 : ((n : Int) != 46) = true := by simp; omega
        have t8 : ((n : Int) != 45) = true := by simp; omega
        have t9 : ((n : Int) != 95) = false := by simp; omega
        have HS := Lib.hid (show signN n = true by unfold signN; simp; omega)
        clear hz
        go_wp2_with fail
        go_roundw
        case rel => exact ⟨k + 1, by omega, by go_num, rfl, fun x hx => by
          rw [take_snoc1 HB.out] at hx
          rcases List.mem_append.1 hx with hx | hx
          · exact HA.out x hx
          · rw [List.mem_singleton.1 hx, ← HN.out]; exact HS.out⟩
        case measure => simp [RowKit.intOf]; omega
      · have t1 : decide ((97 : Int) ≤ (n : Int)) = true := by simp; omega
        have t2 : decide ((n : Int) ≤ 122) = true := by simp; omega
        have t3 : decide ((65 : Int) ≤ (n : Int)) = true := by simp; omega
        have t4 : decide ((n : Int) ≤ 90) = false := by simp; omega
        have t5 : decide ((48 : Int) ≤ (n : Int)) = true := by simp; omega
        have t6 : decide ((n : Int) ≤ 57) = false := by simp; omega
        have t7 : ((n : Int) != 46) = true := by simp; omega
        have t8 : ((n : Int) != 45) = true := by simp; omega
        have t9 : ((n : Int) != 95) = true := by simp; omega
        have HS := Lib.hid (show signN n = true by unfold signN; simp; omega)
        clear hz
        go_wp2_with fail
        go_roundw
        case rel => exact ⟨k + 1, by omega, by go_num, rfl, fun x hx => by
          rw [take_snoc1 HB.out] at hx
          rcases List.mem_append.1 hx with hx | hx
          · exact HA.out x hx
          · rw [List.mem_singleton.1 hx, ← HN.out]; exact HS.out⟩
        case measure => simp [RowKit.intOf]; omega
      · have t1 : decide ((97 : Int) ≤ (n : Int)) = true := by simp; omega
        have t2 : decide ((n : Int) ≤ 122) = false := by simp; omega
        have t3 : decide ((65 : Int) ≤ (n : Int)) = true := by simp; omega
        have t4 : decide ((n : Int) ≤ 90) = false := by simp; omega
        have t5 : decide ((48 : Int) ≤ (n : Int)) = true := by simp; omega
        have t6 : decide ((n : Int) ≤ 57) = false := by simp; omega
        have t7 : ((n : Int) != 46) = true := by simp; omega
        have t8 : ((n : Int) != 45) = true := by simp; omega
        have t9 : ((n : Int) != 95) = true := by simp; omega
        have HS := Lib.hid (show signN n = false by unfold signN; simp; omega)
        clear hz
        have HX := Lib.hid (nameC_no (s := s) (fun h => bad_of HB.out (by rw [← HN.out]; exact HS.out) (HOK.out.1 h)))
        go_wp2_with fail
        go_ret
        exact ⟨by rw [HX.out]; rfl, rfl⟩
    · obtain rfl : k = s.size := by omega
      have HX := Lib.hid (nameC_yes (s := s) (HOK.out.2 (bad_none (fun b hb => HA.out b (by rw [List.take_of_length_le (by rw [Array.length_toList]; exact Nat.le_refl _)]; exact hb)))))
      go_wp2_with fail
      go_ret
      exact ⟨by rw [HX.out]; rfl, rfl⟩
end Go.Proofs.YtofhnglgebllbaaDoor
