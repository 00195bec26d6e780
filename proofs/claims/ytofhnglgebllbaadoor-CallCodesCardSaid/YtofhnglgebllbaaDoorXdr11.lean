/- The reference's CutItem by contract. -/
import Derived.Test.YtofhnglgebllbaaDoorXdr10
namespace Go.Proofs.YtofhnglgebllbaaDoor
open Go.RowKit Go.Lib
set_option linter.unusedVariables false
set_option linter.unusedSimpArgs false

open Classical in
noncomputable def cutI (s : ByteArray) (most : Int) : ByteArray × ByteArray × Bool := if itemOk s most then (s.extract 4 (4 + numK s 4), s.extract (4 + numK s 4 + padN (numK s 4)) s.size, true) else (⟨#[]⟩, s, false)
theorem cutI_yes {s : ByteArray} {most : Int} (h : itemOk s most) : cutI s most = (s.extract 4 (4 + numK s 4), s.extract (4 + numK s 4 + padN (numK s 4)) s.size, true) := if_pos h
theorem cutI_no {s : ByteArray} {most : Int} (h : ¬ itemOk s most) : cutI s most = (⟨#[]⟩, s, false) := if_neg h
theorem ret_ssb {a b a' b' : ByteArray} {x : Bool} (h1 : a = a') (h2 : b = b') : Ending.returned (.tuple #[.string a, .string b, .bool x]) = .returned (.tuple #[.string a', .string b', .bool x]) := by rw [h1, h2]
def RelCI (s : ByteArray) (n : Nat) (w : World) (i : Value) (wr : World) : Prop := ∃ k : Nat, k ≤ padN n ∧ i = .int .i64 ((n : Int) + (k : Int)) ∧ (∀ j, j < k → s.data.toList[4 + n + j]? = some 0) ∧ n + k + 4 ≤ s.size ∧ Chg Nil w wr
set_option maxHeartbeats 4000000 in
set_option maxRecDepth 100000 in
theorem cutItem_any (s : ByteArray) (most : Int) (w : World) (hs : s.size ≤ 1000000) :
    Calls Tryd.prog 157 #[.string s, .int .i64 most] w fun e w' => e = .returned (.tuple #[.string (cutI s most).1, .string (cutI s most).2.1, .bool (cutI s most).2.2]) ∧ Chg Nil w w' := by
  have HC := Lib.hid (cut4_any s w (by omega))
  by_cases h4 : 4 ≤ s.size
  · have hcb : cutB s 4 = (((numK s 4 : Nat) : Int), s.extract 4 s.size) := if_pos ⟨h4, by omega⟩
    rw [hcb] at HC
    clear hcb
    have HRS := Lib.hid (show (s.extract 4 s.size).size = s.size - 4 by simp)
    have hrs : (s.extract 4 s.size).size ≤ s.size - 4 ∧ s.size - 4 ≤ (s.extract 4 s.size).size := by rw [HRS.out]; omega
    have hRL := extract_list s 4 s.size
    obtain ⟨R, hR⟩ : ∃ R, R = s.extract 4 s.size := ⟨_, rfl⟩
    rw [← hR] at HC HRS hrs hRL
    have HRL := Lib.hid hRL
    have HR := Lib.hid hR
    obtain ⟨n, hn⟩ : ∃ n, n = numK s 4 := ⟨_, rfl⟩
    have hn32 : n < 4294967296 := by rw [hn]; exact numK_lt s 4
    rw [← hn] at HC
    have HN := Lib.hid hn
    clear hR hn hRL
    by_cases hm : most < (n : Int)
    · have HX := Lib.hid (cutI_no (s := s) (most := most) (fun h => by have := h.2.1; rw [← HN.out] at this; omega))
      rw [HX.out]
      go_enter Tryd.func157, Tryd.ntmps157
      go_wp2_with fail
      refine HC.out.mono ?_
      rintro e w1 ⟨rfl, hc1⟩
      go_wp2_with fail
      go_ret3
      exact ⟨rfl, hc1⟩
    by_cases hl : R.size < n
    · have HX := Lib.hid (cutI_no (s := s) (most := most) (fun h => by have := h.2.2.1; rw [← HN.out] at this; omega))
      rw [HX.out]
      have hlI : (R.size : Int) < (n : Int) := by omega
      go_enter Tryd.func157, Tryd.ntmps157
      go_wp2_with fail
      refine HC.out.mono ?_
      rintro e w1 ⟨rfl, hc1⟩
      go_wp2_with fail
      go_ret3
      exact ⟨rfl, hc1⟩
    have hlI : ¬ (R.size : Int) < (n : Int) := by omega
    go_enter Tryd.func157, Tryd.ntmps157
    go_wp2_with fail
    refine HC.out.mono ?_
    rintro e w1 ⟨rfl, hc1⟩
    go_wp2_with fail
    go_loopw [9] (fun i wr => RelCI s n w i wr) (fun i _ => ((n + 4 : Int) - RowKit.intOf i).toNat)
    case atStart => exact ⟨0, Nat.zero_le _, rfl, fun j hj => by omega, by omega, hc1⟩
    case round =>
      obtain ⟨k, hk, rfl, hz, hsz, hC⟩ := hrel
      have hpl := padN_lt n
      have HZ := Lib.hid hz
      clear hz
      by_cases hlt : k < padN n
      · have j1 : (0 : Int) < ((n : Int) + (k : Int)) % 4 := by unfold padN at hlt hk; omega
        by_cases hend : R.size ≤ n + k
        · have HX := Lib.hid (cutI_no (s := s) (most := most) (fun h => by have := h.2.2.1; rw [← HN.out] at this; omega))
          have hendI : (R.size : Int) ≤ ((n : Int) + (k : Int)) := by omega
          go_wp2_with fail
          go_ret3
          exact ⟨by rw [HX.out]; rfl, hC⟩
        · have hendI : ¬ (R.size : Int) ≤ ((n : Int) + (k : Int)) := by omega
          have hendJ : ((n : Int) + (k : Int)) < (R.size : Int) := by omega
          have hendN : n + k < R.size := by omega
          have hby : s.data.toList[4 + n + k]? = some (R[n + k]) := by
            have h1 : R.data.toList[n + k]? = some (R[n + k]) := by
              have hlt : n + k < R.data.toList.length := by rw [Array.length_toList]; exact hendN
              rw [List.getElem?_eq_getElem hlt]; rfl
            rw [HRL.out, List.getElem?_take] at h1
            split at h1
            · rw [List.getElem?_drop] at h1
              rw [← h1]; congr 1; omega
            · cases h1
          have HBY := Lib.hid hby
          clear hby
          by_cases hb : R[n + k] = 0
          · have hbI : ((R[n + k].toNat : Nat) : Int) = 0 := by rw [hb]; rfl
            have HB := Lib.hid hb
            clear hb
            go_wp2_with fail
            go_roundw
            case rel => exact ⟨k + 1, by omega, by rw [Int.natCast_add]; go_num, fun j hj => by
              by_cases e : j = k
              · subst e; rw [HBY.out, HB.out]
              · exact HZ.out j (by omega), by omega, hC⟩
            case measure => simp [RowKit.intOf]; omega
          · have HX := Lib.hid (cutI_no (s := s) (most := most) (fun h => by
              have := h.2.2.2 k (by rw [← HN.out]; exact hlt)
              rw [← HN.out, HBY.out] at this
              exact hb (Option.some.inj this)))
            have hbI : (((R[n + k].toNat : Nat) : Int) != 0) = true := by
              simp only [bne_iff_ne, ne_eq]
              intro e
              apply hb
              apply UInt8.toNat_inj.1
              have : R[n + k].toNat = 0 := by omega
              rw [this]; rfl
            clear hb
            go_wp2_with fail
            go_ret3
            exact ⟨by rw [HX.out]; rfl, hC⟩
      · obtain rfl : k = padN n := by omega
        have HX := Lib.hid (cutI_yes (s := s) (most := most) ⟨h4, by rw [← HN.out]; omega, by rw [← HN.out]; omega, fun j hj => by rw [← HN.out] at hj ⊢; exact HZ.out j hj⟩)
        have j1 : ¬ (0 : Int) < ((n : Int) + ((padN n : Nat) : Int)) % 4 := by unfold padN; omega
        obtain ⟨p, hp⟩ : ∃ p, p = padN n := ⟨_, rfl⟩
        have HE1 := Lib.hid (show R.extract 0 n = s.extract 4 (4 + numK s 4) by rw [← HN.out, HR.out, ByteArray.extract_extract, Nat.min_eq_left (by omega)])
        have HE2 := Lib.hid (show R.extract (n + p) R.size = s.extract (4 + n + p) s.size by rw [HRS.out, HR.out, ByteArray.extract_extract, Nat.min_eq_right (by omega), Nat.add_assoc 4])
        rw [← hp] at j1 ⊢
        have HP := Lib.hid hp
        have hpn : n + p ≤ R.size := by rw [hp]; omega
        have hpI : (n : Int) + (p : Int) ≤ (R.size : Int) := by omega
        have hp0 : (0 : Int) ≤ (n : Int) + (p : Int) := by omega
        have hnI : (n : Int) ≤ (R.size : Int) := by omega
        clear hp hk hsz hpl hlt
        go_wp2_with fail
        go_quiet (fail)
        go_wp2_with fail
        go_ret3
        exact ⟨by rw [HX.out]; exact ret_ssb HE1.out (by rw [← HN.out, ← HP.out]; exact HE2.out), hC.then (Chg.drewN _ _)⟩
  · have hcb : cutB s 4 = (-1, s) := if_neg (fun h => h4 h.1)
    rw [hcb] at HC
    rw [cutI_no (fun h => h4 h.1)]
    clear hcb h4
    go_enter Tryd.func157, Tryd.ntmps157
    go_wp2_with fail
    refine HC.out.mono ?_
    rintro e w1 ⟨rfl, hc1⟩
    go_wp2_with fail
    go_ret3
    exact ⟨rfl, hc1⟩
end Go.Proofs.YtofhnglgebllbaaDoor
